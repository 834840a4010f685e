/- What the seat's types and functions are, as instances. -/
import Derived.Test.YteogihkpplaioaaDoorProg
import Derived.Test.YteogihkpplaioaaDoorMXM
namespace Go.Proofs.YteogihkpplaioaaDoor.MX
open Go Go.RowKit
instance : IsAgg Tryd.prog 1 false := ⟨Tryd.isAgg1⟩
instance : HasI Tryd.prog 1 1 8 := ⟨by kernel_rfl⟩
instance : HasZ Tryd.prog 1 (.nilFunc) := ⟨Tryd.zeroValue1⟩
instance : HasU Tryd.prog 2 (.int .i64) := ⟨Tryd.underlying2⟩
instance : IsAgg Tryd.prog 2 false := ⟨Tryd.isAgg2⟩
instance : HasI Tryd.prog 2 1 8 := ⟨by kernel_rfl⟩
instance : HasZ Tryd.prog 2 (.int .i64 0) := ⟨Tryd.zeroValue2⟩
instance : HasU Tryd.prog 3 (.int .i64) := ⟨Tryd.underlying3⟩
instance : IsAgg Tryd.prog 3 false := ⟨Tryd.isAgg3⟩
instance : HasI Tryd.prog 3 1 8 := ⟨by kernel_rfl⟩
instance : HasZ Tryd.prog 3 (.int .i64 0) := ⟨Tryd.zeroValue3⟩
instance : HasU Tryd.prog 4 .bool := ⟨Tryd.underlying4⟩
instance : IsAgg Tryd.prog 4 false := ⟨Tryd.isAgg4⟩
instance : HasI Tryd.prog 4 1 1 := ⟨by kernel_rfl⟩
instance : HasZ Tryd.prog 4 (.bool false) := ⟨Tryd.zeroValue4⟩
instance : HasU Tryd.prog 5 (.int .u8) := ⟨Tryd.underlying5⟩
instance : IsAgg Tryd.prog 5 false := ⟨Tryd.isAgg5⟩
instance : HasI Tryd.prog 5 1 1 := ⟨by kernel_rfl⟩
instance : HasZ Tryd.prog 5 (.int .u8 0) := ⟨Tryd.zeroValue5⟩
instance : HasU Tryd.prog 6 (.int .u8) := ⟨Tryd.underlying6⟩
instance : IsAgg Tryd.prog 6 false := ⟨Tryd.isAgg6⟩
instance : HasI Tryd.prog 6 1 1 := ⟨by kernel_rfl⟩
instance : HasZ Tryd.prog 6 (.int .u8 0) := ⟨Tryd.zeroValue6⟩
instance : IsAgg Tryd.prog 7 true := ⟨Tryd.isAgg7⟩
instance : HasI Tryd.prog 7 4 24 := ⟨by kernel_rfl⟩
instance : HasZ Tryd.prog 7 (.agg ([.int .i64 0, .int .i64 0, .bool false, .int .u8 0] : List Value).toArray) := ⟨fun _ => by kernel_rfl⟩
instance : HasF Tryd.prog 7 0 0 := ⟨fun a w => fieldAt_of 0 2 0 1 Tryd.underlying7 rfl (HasI.size (P := Tryd.prog) (E := 2) (s := 1) (by_ := 8) inferInstance) (by decide) a w⟩
instance : HasF Tryd.prog 7 1 1 := ⟨fun a w => fieldAt_of 1 3 1 1 Tryd.underlying7 rfl (HasI.size (P := Tryd.prog) (E := 3) (s := 1) (by_ := 8) inferInstance) (by decide) a w⟩
instance : HasF Tryd.prog 7 2 2 := ⟨fun a w => fieldAt_of 2 4 2 1 Tryd.underlying7 rfl (HasI.size (P := Tryd.prog) (E := 4) (s := 1) (by_ := 1) inferInstance) (by decide) a w⟩
instance : HasF Tryd.prog 7 3 3 := ⟨fun a w => fieldAt_of 3 6 3 1 Tryd.underlying7 rfl (HasI.size (P := Tryd.prog) (E := 6) (s := 1) (by_ := 1) inferInstance) (by decide) a w⟩
instance : IsAgg Tryd.prog 8 true := ⟨Tryd.isAgg8⟩
instance : HasI Tryd.prog 8 4 24 := ⟨by kernel_rfl⟩
instance : HasZ Tryd.prog 8 (.agg ([.int .i64 0, .int .i64 0, .bool false, .int .u8 0] : List Value).toArray) := ⟨fun _ => by kernel_rfl⟩
instance : HasF Tryd.prog 8 0 0 := ⟨fun a w => fieldAt_of 0 2 0 1 Tryd.underlying8 rfl (HasI.size (P := Tryd.prog) (E := 2) (s := 1) (by_ := 8) inferInstance) (by decide) a w⟩
instance : HasF Tryd.prog 8 1 1 := ⟨fun a w => fieldAt_of 1 3 1 1 Tryd.underlying8 rfl (HasI.size (P := Tryd.prog) (E := 3) (s := 1) (by_ := 8) inferInstance) (by decide) a w⟩
instance : HasF Tryd.prog 8 2 2 := ⟨fun a w => fieldAt_of 2 4 2 1 Tryd.underlying8 rfl (HasI.size (P := Tryd.prog) (E := 4) (s := 1) (by_ := 1) inferInstance) (by decide) a w⟩
instance : HasF Tryd.prog 8 3 3 := ⟨fun a w => fieldAt_of 3 6 3 1 Tryd.underlying8 rfl (HasI.size (P := Tryd.prog) (E := 6) (s := 1) (by_ := 1) inferInstance) (by decide) a w⟩
instance : HasU Tryd.prog 9 .string := ⟨Tryd.underlying9⟩
instance : IsAgg Tryd.prog 9 false := ⟨Tryd.isAgg9⟩
instance : HasI Tryd.prog 9 1 16 := ⟨by kernel_rfl⟩
instance : HasZ Tryd.prog 9 (.string ⟨#[]⟩) := ⟨Tryd.zeroValue9⟩
instance : HasU Tryd.prog 10 .string := ⟨Tryd.underlying10⟩
instance : IsAgg Tryd.prog 10 false := ⟨Tryd.isAgg10⟩
instance : HasI Tryd.prog 10 1 16 := ⟨by kernel_rfl⟩
instance : HasZ Tryd.prog 10 (.string ⟨#[]⟩) := ⟨Tryd.zeroValue10⟩
instance : HasU Tryd.prog 11 .string := ⟨Tryd.underlying11⟩
instance : IsAgg Tryd.prog 11 false := ⟨Tryd.isAgg11⟩
instance : HasI Tryd.prog 11 1 16 := ⟨by kernel_rfl⟩
instance : HasZ Tryd.prog 11 (.string ⟨#[]⟩) := ⟨Tryd.zeroValue11⟩
instance : HasU Tryd.prog 12 (.int .u64) := ⟨Tryd.underlying12⟩
instance : IsAgg Tryd.prog 12 false := ⟨Tryd.isAgg12⟩
instance : HasI Tryd.prog 12 1 8 := ⟨by kernel_rfl⟩
instance : HasZ Tryd.prog 12 (.int .u64 0) := ⟨Tryd.zeroValue12⟩
instance : IsAgg Tryd.prog 13 true := ⟨Tryd.isAgg13⟩
instance : HasI Tryd.prog 13 2 24 := ⟨by kernel_rfl⟩
instance : HasZ Tryd.prog 13 (.agg ([.string ⟨#[]⟩, .int .u64 0] : List Value).toArray) := ⟨fun _ => by kernel_rfl⟩
instance : HasF Tryd.prog 13 0 0 := ⟨fun a w => fieldAt_of 0 9 0 1 Tryd.underlying13 rfl (HasI.size (P := Tryd.prog) (E := 9) (s := 1) (by_ := 16) inferInstance) (by decide) a w⟩
instance : HasF Tryd.prog 13 1 1 := ⟨fun a w => fieldAt_of 1 12 1 1 Tryd.underlying13 rfl (HasI.size (P := Tryd.prog) (E := 12) (s := 1) (by_ := 8) inferInstance) (by decide) a w⟩
instance : IsAgg Tryd.prog 14 true := ⟨Tryd.isAgg14⟩
instance : HasI Tryd.prog 14 2 24 := ⟨by kernel_rfl⟩
instance : HasZ Tryd.prog 14 (.agg ([.string ⟨#[]⟩, .int .u64 0] : List Value).toArray) := ⟨fun _ => by kernel_rfl⟩
instance : HasF Tryd.prog 14 0 0 := ⟨fun a w => fieldAt_of 0 9 0 1 Tryd.underlying14 rfl (HasI.size (P := Tryd.prog) (E := 9) (s := 1) (by_ := 16) inferInstance) (by decide) a w⟩
instance : HasF Tryd.prog 14 1 1 := ⟨fun a w => fieldAt_of 1 12 1 1 Tryd.underlying14 rfl (HasI.size (P := Tryd.prog) (E := 12) (s := 1) (by_ := 8) inferInstance) (by decide) a w⟩
instance : HasU Tryd.prog 15 (.pointer 57) := ⟨Tryd.underlying15⟩
instance : IsAgg Tryd.prog 15 false := ⟨Tryd.isAgg15⟩
instance : HasI Tryd.prog 15 1 8 := ⟨by kernel_rfl⟩
instance : HasZ Tryd.prog 15 (.pointer none) := ⟨Tryd.zeroValue15⟩
instance : HasU Tryd.prog 16 (.pointer 60) := ⟨Tryd.underlying16⟩
instance : IsAgg Tryd.prog 16 false := ⟨Tryd.isAgg16⟩
instance : HasI Tryd.prog 16 1 8 := ⟨by kernel_rfl⟩
instance : HasZ Tryd.prog 16 (.pointer none) := ⟨Tryd.zeroValue16⟩
instance : HasU Tryd.prog 17 (.pointer 70) := ⟨Tryd.underlying17⟩
instance : IsAgg Tryd.prog 17 false := ⟨Tryd.isAgg17⟩
instance : HasI Tryd.prog 17 1 8 := ⟨by kernel_rfl⟩
instance : HasZ Tryd.prog 17 (.pointer none) := ⟨Tryd.zeroValue17⟩
instance : IsAgg Tryd.prog 18 true := ⟨Tryd.isAgg18⟩
instance : HasI Tryd.prog 18 1 8 := ⟨by kernel_rfl⟩
instance : HasZ Tryd.prog 18 (.agg ([.pointer none] : List Value).toArray) := ⟨fun _ => by kernel_rfl⟩
instance : HasF Tryd.prog 18 0 0 := ⟨fun a w => fieldAt_of 0 17 0 1 Tryd.underlying18 rfl (HasI.size (P := Tryd.prog) (E := 17) (s := 1) (by_ := 8) inferInstance) (by decide) a w⟩
instance : IsAgg Tryd.prog 19 true := ⟨Tryd.isAgg19⟩
instance : HasI Tryd.prog 19 1 8 := ⟨by kernel_rfl⟩
instance : HasZ Tryd.prog 19 (.agg ([.pointer none] : List Value).toArray) := ⟨fun _ => by kernel_rfl⟩
instance : HasF Tryd.prog 19 0 0 := ⟨fun a w => fieldAt_of 0 17 0 1 Tryd.underlying19 rfl (HasI.size (P := Tryd.prog) (E := 17) (s := 1) (by_ := 8) inferInstance) (by decide) a w⟩
instance : IsAgg Tryd.prog 20 false := ⟨Tryd.isAgg20⟩
instance : HasI Tryd.prog 20 1 16 := ⟨by kernel_rfl⟩
instance : HasZ Tryd.prog 20 (.nilIface) := ⟨Tryd.zeroValue20⟩
instance : HasU Tryd.prog 21 (.int .i32) := ⟨Tryd.underlying21⟩
instance : IsAgg Tryd.prog 21 false := ⟨Tryd.isAgg21⟩
instance : HasI Tryd.prog 21 1 4 := ⟨by kernel_rfl⟩
instance : HasZ Tryd.prog 21 (.int .i32 0) := ⟨Tryd.zeroValue21⟩
instance : HasU Tryd.prog 22 (.slice 5) := ⟨Tryd.underlying22⟩
instance : IsAgg Tryd.prog 22 false := ⟨Tryd.isAgg22⟩
instance : HasI Tryd.prog 22 1 24 := ⟨by kernel_rfl⟩
instance : HasZ Tryd.prog 22 (.slice none 0 0) := ⟨Tryd.zeroValue22⟩
instance : IsAgg Tryd.prog 23 false := ⟨Tryd.isAgg23⟩
instance : HasI Tryd.prog 23 1 8 := ⟨by kernel_rfl⟩
instance : HasZ Tryd.prog 23 (.nilFunc) := ⟨Tryd.zeroValue23⟩
instance : IsAgg Tryd.prog 24 false := ⟨Tryd.isAgg24⟩
instance : HasI Tryd.prog 24 1 8 := ⟨by kernel_rfl⟩
instance : HasZ Tryd.prog 24 (.nilFunc) := ⟨Tryd.zeroValue24⟩
instance : IsAgg Tryd.prog 25 false := ⟨Tryd.isAgg25⟩
instance : HasI Tryd.prog 25 1 8 := ⟨by kernel_rfl⟩
instance : HasZ Tryd.prog 25 (.nilFunc) := ⟨Tryd.zeroValue25⟩
instance : IsAgg Tryd.prog 26 false := ⟨Tryd.isAgg26⟩
instance : HasI Tryd.prog 26 1 8 := ⟨by kernel_rfl⟩
instance : HasZ Tryd.prog 26 (.nilFunc) := ⟨Tryd.zeroValue26⟩
instance : HasU Tryd.prog 27 (.slice 31) := ⟨Tryd.underlying27⟩
instance : IsAgg Tryd.prog 27 false := ⟨Tryd.isAgg27⟩
instance : HasI Tryd.prog 27 1 24 := ⟨by kernel_rfl⟩
instance : HasZ Tryd.prog 27 (.slice none 0 0) := ⟨Tryd.zeroValue27⟩
instance : HasU Tryd.prog 28 (.pointer 48) := ⟨Tryd.underlying28⟩
instance : IsAgg Tryd.prog 28 false := ⟨Tryd.isAgg28⟩
instance : HasI Tryd.prog 28 1 8 := ⟨by kernel_rfl⟩
instance : HasZ Tryd.prog 28 (.pointer none) := ⟨Tryd.zeroValue28⟩
instance : IsAgg Tryd.prog 29 false := ⟨Tryd.isAgg29⟩
instance : HasI Tryd.prog 29 1 8 := ⟨by kernel_rfl⟩
instance : HasZ Tryd.prog 29 (.nilFunc) := ⟨Tryd.zeroValue29⟩
instance : IsAgg Tryd.prog 30 true := ⟨Tryd.isAgg30⟩
instance : HasI Tryd.prog 30 3 40 := ⟨by kernel_rfl⟩
instance : HasZ Tryd.prog 30 (.agg ([.int .i64 0, .int .i64 0, .slice none 0 0] : List Value).toArray) := ⟨fun _ => by kernel_rfl⟩
instance : HasF Tryd.prog 30 0 0 := ⟨fun a w => fieldAt_of 0 3 0 1 Tryd.underlying30 rfl (HasI.size (P := Tryd.prog) (E := 3) (s := 1) (by_ := 8) inferInstance) (by decide) a w⟩
instance : HasF Tryd.prog 30 1 1 := ⟨fun a w => fieldAt_of 1 3 1 1 Tryd.underlying30 rfl (HasI.size (P := Tryd.prog) (E := 3) (s := 1) (by_ := 8) inferInstance) (by decide) a w⟩
instance : HasF Tryd.prog 30 2 2 := ⟨fun a w => fieldAt_of 2 22 2 1 Tryd.underlying30 rfl (HasI.size (P := Tryd.prog) (E := 22) (s := 1) (by_ := 24) inferInstance) (by decide) a w⟩
instance : IsAgg Tryd.prog 31 true := ⟨Tryd.isAgg31⟩
instance : HasI Tryd.prog 31 3 40 := ⟨by kernel_rfl⟩
instance : HasZ Tryd.prog 31 (.agg ([.int .i64 0, .int .i64 0, .slice none 0 0] : List Value).toArray) := ⟨fun _ => by kernel_rfl⟩
instance : HasF Tryd.prog 31 0 0 := ⟨fun a w => fieldAt_of 0 3 0 1 Tryd.underlying31 rfl (HasI.size (P := Tryd.prog) (E := 3) (s := 1) (by_ := 8) inferInstance) (by decide) a w⟩
instance : HasF Tryd.prog 31 1 1 := ⟨fun a w => fieldAt_of 1 3 1 1 Tryd.underlying31 rfl (HasI.size (P := Tryd.prog) (E := 3) (s := 1) (by_ := 8) inferInstance) (by decide) a w⟩
instance : HasF Tryd.prog 31 2 2 := ⟨fun a w => fieldAt_of 2 22 2 1 Tryd.underlying31 rfl (HasI.size (P := Tryd.prog) (E := 22) (s := 1) (by_ := 24) inferInstance) (by decide) a w⟩
instance : IsAgg Tryd.prog 32 false := ⟨Tryd.isAgg32⟩
instance : HasI Tryd.prog 32 1 8 := ⟨by kernel_rfl⟩
instance : HasZ Tryd.prog 32 (.nilFunc) := ⟨Tryd.zeroValue32⟩
instance : IsAgg Tryd.prog 33 false := ⟨Tryd.isAgg33⟩
instance : HasI Tryd.prog 33 1 8 := ⟨by kernel_rfl⟩
instance : HasZ Tryd.prog 33 (.nilFunc) := ⟨Tryd.zeroValue33⟩
instance : IsAgg Tryd.prog 34 false := ⟨Tryd.isAgg34⟩
instance : HasI Tryd.prog 34 1 8 := ⟨by kernel_rfl⟩
instance : HasZ Tryd.prog 34 (.nilFunc) := ⟨Tryd.zeroValue34⟩
instance : IsAgg Tryd.prog 35 false := ⟨Tryd.isAgg35⟩
instance : HasI Tryd.prog 35 1 8 := ⟨by kernel_rfl⟩
instance : HasZ Tryd.prog 35 (.nilFunc) := ⟨Tryd.zeroValue35⟩
instance : IsAgg Tryd.prog 36 false := ⟨Tryd.isAgg36⟩
instance : HasI Tryd.prog 36 1 8 := ⟨by kernel_rfl⟩
instance : HasZ Tryd.prog 36 (.nilFunc) := ⟨Tryd.zeroValue36⟩
instance : IsAgg Tryd.prog 37 false := ⟨Tryd.isAgg37⟩
instance : HasI Tryd.prog 37 1 8 := ⟨by kernel_rfl⟩
instance : HasZ Tryd.prog 37 (.nilFunc) := ⟨Tryd.zeroValue37⟩
instance : HasU Tryd.prog 38 (.int .u64) := ⟨Tryd.underlying38⟩
instance : IsAgg Tryd.prog 38 false := ⟨Tryd.isAgg38⟩
instance : HasI Tryd.prog 38 1 8 := ⟨by kernel_rfl⟩
instance : HasZ Tryd.prog 38 (.int .u64 0) := ⟨Tryd.zeroValue38⟩
instance : HasU Tryd.prog 39 (.array 25 38) := ⟨Tryd.underlying39⟩
instance : IsAgg Tryd.prog 39 true := ⟨Tryd.isAgg39⟩
instance : HasI Tryd.prog 39 25 200 := ⟨by kernel_rfl⟩
instance : HasZI Tryd.prog 39 .u64 25 := ⟨fun _ => by kernel_rfl⟩
instance : IsAgg Tryd.prog 40 false := ⟨Tryd.isAgg40⟩
instance : HasI Tryd.prog 40 1 8 := ⟨by kernel_rfl⟩
instance : HasZ Tryd.prog 40 (.nilFunc) := ⟨Tryd.zeroValue40⟩
instance : IsAgg Tryd.prog 41 false := ⟨Tryd.isAgg41⟩
instance : HasI Tryd.prog 41 1 8 := ⟨by kernel_rfl⟩
instance : HasZ Tryd.prog 41 (.nilFunc) := ⟨Tryd.zeroValue41⟩
instance : HasU Tryd.prog 42 (.array 24 38) := ⟨Tryd.underlying42⟩
instance : IsAgg Tryd.prog 42 true := ⟨Tryd.isAgg42⟩
instance : HasI Tryd.prog 42 24 192 := ⟨by kernel_rfl⟩
instance : HasZI Tryd.prog 42 .u64 24 := ⟨fun _ => by kernel_rfl⟩
instance : IsAgg Tryd.prog 43 false := ⟨Tryd.isAgg43⟩
instance : HasI Tryd.prog 43 1 8 := ⟨by kernel_rfl⟩
instance : HasZ Tryd.prog 43 (.nilFunc) := ⟨Tryd.zeroValue43⟩
instance : HasU Tryd.prog 44 (.array 25 3) := ⟨Tryd.underlying44⟩
instance : IsAgg Tryd.prog 44 true := ⟨Tryd.isAgg44⟩
instance : HasI Tryd.prog 44 25 200 := ⟨by kernel_rfl⟩
instance : HasZI Tryd.prog 44 .i64 25 := ⟨fun _ => by kernel_rfl⟩
instance : IsAgg Tryd.prog 45 false := ⟨Tryd.isAgg45⟩
instance : HasI Tryd.prog 45 1 8 := ⟨by kernel_rfl⟩
instance : HasZ Tryd.prog 45 (.nilFunc) := ⟨Tryd.zeroValue45⟩
instance : IsAgg Tryd.prog 46 false := ⟨Tryd.isAgg46⟩
instance : HasI Tryd.prog 46 1 8 := ⟨by kernel_rfl⟩
instance : HasZ Tryd.prog 46 (.nilFunc) := ⟨Tryd.zeroValue46⟩
instance : IsAgg Tryd.prog 47 true := ⟨Tryd.isAgg47⟩
instance : HasI Tryd.prog 47 28 224 := ⟨by kernel_rfl⟩
instance : HasZ Tryd.prog 47 (.agg ((List.replicate 25 0).map (Value.int .u64) ++ ([.int .i64 0, .int .i64 0, .bool false]) : List Value).toArray) := ⟨fun _ => by kernel_rfl⟩
instance : HasF Tryd.prog 47 0 0 := ⟨fun a w => fieldAt_of 0 39 0 25 Tryd.underlying47 rfl (HasI.size (P := Tryd.prog) (E := 39) (s := 25) (by_ := 200) inferInstance) (by decide) a w⟩
instance : HasF Tryd.prog 47 1 25 := ⟨fun a w => fieldAt_of 1 3 25 1 Tryd.underlying47 rfl (HasI.size (P := Tryd.prog) (E := 3) (s := 1) (by_ := 8) inferInstance) (by decide) a w⟩
instance : HasF Tryd.prog 47 2 26 := ⟨fun a w => fieldAt_of 2 3 26 1 Tryd.underlying47 rfl (HasI.size (P := Tryd.prog) (E := 3) (s := 1) (by_ := 8) inferInstance) (by decide) a w⟩
instance : HasF Tryd.prog 47 3 27 := ⟨fun a w => fieldAt_of 3 4 27 1 Tryd.underlying47 rfl (HasI.size (P := Tryd.prog) (E := 4) (s := 1) (by_ := 1) inferInstance) (by decide) a w⟩
instance : IsAgg Tryd.prog 48 true := ⟨Tryd.isAgg48⟩
instance : HasI Tryd.prog 48 28 224 := ⟨by kernel_rfl⟩
instance : HasZ Tryd.prog 48 (.agg ((List.replicate 25 0).map (Value.int .u64) ++ ([.int .i64 0, .int .i64 0, .bool false]) : List Value).toArray) := ⟨fun _ => by kernel_rfl⟩
instance : HasF Tryd.prog 48 0 0 := ⟨fun a w => fieldAt_of 0 39 0 25 Tryd.underlying48 rfl (HasI.size (P := Tryd.prog) (E := 39) (s := 25) (by_ := 200) inferInstance) (by decide) a w⟩
instance : HasF Tryd.prog 48 1 25 := ⟨fun a w => fieldAt_of 1 3 25 1 Tryd.underlying48 rfl (HasI.size (P := Tryd.prog) (E := 3) (s := 1) (by_ := 8) inferInstance) (by decide) a w⟩
instance : HasF Tryd.prog 48 2 26 := ⟨fun a w => fieldAt_of 2 3 26 1 Tryd.underlying48 rfl (HasI.size (P := Tryd.prog) (E := 3) (s := 1) (by_ := 8) inferInstance) (by decide) a w⟩
instance : HasF Tryd.prog 48 3 27 := ⟨fun a w => fieldAt_of 3 4 27 1 Tryd.underlying48 rfl (HasI.size (P := Tryd.prog) (E := 4) (s := 1) (by_ := 1) inferInstance) (by decide) a w⟩
instance : IsAgg Tryd.prog 49 false := ⟨Tryd.isAgg49⟩
instance : HasI Tryd.prog 49 1 8 := ⟨by kernel_rfl⟩
instance : HasZ Tryd.prog 49 (.nilFunc) := ⟨Tryd.zeroValue49⟩
instance : IsAgg Tryd.prog 50 false := ⟨Tryd.isAgg50⟩
instance : HasI Tryd.prog 50 1 8 := ⟨by kernel_rfl⟩
instance : HasZ Tryd.prog 50 (.nilFunc) := ⟨Tryd.zeroValue50⟩
instance : HasU Tryd.prog 51 (.pointer 39) := ⟨Tryd.underlying51⟩
instance : IsAgg Tryd.prog 51 false := ⟨Tryd.isAgg51⟩
instance : HasI Tryd.prog 51 1 8 := ⟨by kernel_rfl⟩
instance : HasZ Tryd.prog 51 (.pointer none) := ⟨Tryd.zeroValue51⟩
instance : HasU Tryd.prog 52 (.array 5 38) := ⟨Tryd.underlying52⟩
instance : IsAgg Tryd.prog 52 true := ⟨Tryd.isAgg52⟩
instance : HasI Tryd.prog 52 5 40 := ⟨by kernel_rfl⟩
instance : HasZI Tryd.prog 52 .u64 5 := ⟨fun _ => by kernel_rfl⟩
instance : IsAgg Tryd.prog 53 false := ⟨Tryd.isAgg53⟩
instance : HasI Tryd.prog 53 1 8 := ⟨by kernel_rfl⟩
instance : HasZ Tryd.prog 53 (.nilFunc) := ⟨Tryd.zeroValue53⟩
instance : HasU Tryd.prog 54 (.int .u64) := ⟨Tryd.underlying54⟩
instance : IsAgg Tryd.prog 54 false := ⟨Tryd.isAgg54⟩
instance : HasI Tryd.prog 54 1 8 := ⟨by kernel_rfl⟩
instance : HasZ Tryd.prog 54 (.int .u64 0) := ⟨Tryd.zeroValue54⟩
instance : IsAgg Tryd.prog 55 false := ⟨Tryd.isAgg55⟩
instance : HasI Tryd.prog 55 1 8 := ⟨by kernel_rfl⟩
instance : HasZ Tryd.prog 55 (.nilFunc) := ⟨Tryd.zeroValue55⟩
instance : IsAgg Tryd.prog 56 true := ⟨Tryd.isAgg56⟩
instance : HasI Tryd.prog 56 4 40 := ⟨by kernel_rfl⟩
instance : HasZ Tryd.prog 56 (.agg ([.pointer none, .pointer none, .pointer none, .string ⟨#[]⟩] : List Value).toArray) := ⟨fun _ => by kernel_rfl⟩
instance : HasF Tryd.prog 56 0 0 := ⟨fun a w => fieldAt_of 0 17 0 1 Tryd.underlying56 rfl (HasI.size (P := Tryd.prog) (E := 17) (s := 1) (by_ := 8) inferInstance) (by decide) a w⟩
instance : HasF Tryd.prog 56 1 1 := ⟨fun a w => fieldAt_of 1 17 1 1 Tryd.underlying56 rfl (HasI.size (P := Tryd.prog) (E := 17) (s := 1) (by_ := 8) inferInstance) (by decide) a w⟩
instance : HasF Tryd.prog 56 2 2 := ⟨fun a w => fieldAt_of 2 17 2 1 Tryd.underlying56 rfl (HasI.size (P := Tryd.prog) (E := 17) (s := 1) (by_ := 8) inferInstance) (by decide) a w⟩
instance : HasF Tryd.prog 56 3 3 := ⟨fun a w => fieldAt_of 3 9 3 1 Tryd.underlying56 rfl (HasI.size (P := Tryd.prog) (E := 9) (s := 1) (by_ := 16) inferInstance) (by decide) a w⟩
instance : IsAgg Tryd.prog 57 true := ⟨Tryd.isAgg57⟩
instance : HasI Tryd.prog 57 4 40 := ⟨by kernel_rfl⟩
instance : HasZ Tryd.prog 57 (.agg ([.pointer none, .pointer none, .pointer none, .string ⟨#[]⟩] : List Value).toArray) := ⟨fun _ => by kernel_rfl⟩
instance : HasF Tryd.prog 57 0 0 := ⟨fun a w => fieldAt_of 0 17 0 1 Tryd.underlying57 rfl (HasI.size (P := Tryd.prog) (E := 17) (s := 1) (by_ := 8) inferInstance) (by decide) a w⟩
instance : HasF Tryd.prog 57 1 1 := ⟨fun a w => fieldAt_of 1 17 1 1 Tryd.underlying57 rfl (HasI.size (P := Tryd.prog) (E := 17) (s := 1) (by_ := 8) inferInstance) (by decide) a w⟩
instance : HasF Tryd.prog 57 2 2 := ⟨fun a w => fieldAt_of 2 17 2 1 Tryd.underlying57 rfl (HasI.size (P := Tryd.prog) (E := 17) (s := 1) (by_ := 8) inferInstance) (by decide) a w⟩
instance : HasF Tryd.prog 57 3 3 := ⟨fun a w => fieldAt_of 3 9 3 1 Tryd.underlying57 rfl (HasI.size (P := Tryd.prog) (E := 9) (s := 1) (by_ := 16) inferInstance) (by decide) a w⟩
instance : HasU Tryd.prog 58 (.array 0 16) := ⟨Tryd.underlying58⟩
instance : IsAgg Tryd.prog 58 true := ⟨Tryd.isAgg58⟩
instance : HasI Tryd.prog 58 0 0 := ⟨by kernel_rfl⟩
instance : HasZ Tryd.prog 58 (.agg ([] : List Value).toArray) := ⟨fun _ => by kernel_rfl⟩
instance : IsAgg Tryd.prog 59 true := ⟨Tryd.isAgg59⟩
instance : HasI Tryd.prog 59 0 0 := ⟨by kernel_rfl⟩
instance : HasZ Tryd.prog 59 (.agg ([] : List Value).toArray) := ⟨fun _ => by kernel_rfl⟩
instance : IsAgg Tryd.prog 60 true := ⟨Tryd.isAgg60⟩
instance : HasI Tryd.prog 60 0 0 := ⟨by kernel_rfl⟩
instance : HasZ Tryd.prog 60 (.agg ([] : List Value).toArray) := ⟨fun _ => by kernel_rfl⟩
instance : IsAgg Tryd.prog 61 false := ⟨Tryd.isAgg61⟩
instance : HasI Tryd.prog 61 1 8 := ⟨by kernel_rfl⟩
instance : HasZ Tryd.prog 61 (.nilFunc) := ⟨Tryd.zeroValue61⟩
instance : HasU Tryd.prog 62 (.int .u32) := ⟨Tryd.underlying62⟩
instance : IsAgg Tryd.prog 62 false := ⟨Tryd.isAgg62⟩
instance : HasI Tryd.prog 62 1 4 := ⟨by kernel_rfl⟩
instance : HasZ Tryd.prog 62 (.int .u32 0) := ⟨Tryd.zeroValue62⟩
instance : HasU Tryd.prog 63 (.int .u8) := ⟨Tryd.underlying63⟩
instance : IsAgg Tryd.prog 63 false := ⟨Tryd.isAgg63⟩
instance : HasI Tryd.prog 63 1 1 := ⟨by kernel_rfl⟩
instance : HasZ Tryd.prog 63 (.int .u8 0) := ⟨Tryd.zeroValue63⟩
instance : HasU Tryd.prog 64 (.int .u8) := ⟨Tryd.underlying64⟩
instance : IsAgg Tryd.prog 64 false := ⟨Tryd.isAgg64⟩
instance : HasI Tryd.prog 64 1 1 := ⟨by kernel_rfl⟩
instance : HasZ Tryd.prog 64 (.int .u8 0) := ⟨Tryd.zeroValue64⟩
instance : IsAgg Tryd.prog 65 false := ⟨Tryd.isAgg65⟩
instance : HasI Tryd.prog 65 1 8 := ⟨by kernel_rfl⟩
instance : HasZ Tryd.prog 65 (.nilFunc) := ⟨Tryd.zeroValue65⟩
instance : HasU Tryd.prog 66 (.pointer 5) := ⟨Tryd.underlying66⟩
instance : IsAgg Tryd.prog 66 false := ⟨Tryd.isAgg66⟩
instance : HasI Tryd.prog 66 1 8 := ⟨by kernel_rfl⟩
instance : HasZ Tryd.prog 66 (.pointer none) := ⟨Tryd.zeroValue66⟩
instance : HasU Tryd.prog 67 (.int .i32) := ⟨Tryd.underlying67⟩
instance : IsAgg Tryd.prog 67 false := ⟨Tryd.isAgg67⟩
instance : HasI Tryd.prog 67 1 4 := ⟨by kernel_rfl⟩
instance : HasZ Tryd.prog 67 (.int .i32 0) := ⟨Tryd.zeroValue67⟩
instance : HasU Tryd.prog 68 (.int .i32) := ⟨Tryd.underlying68⟩
instance : IsAgg Tryd.prog 68 false := ⟨Tryd.isAgg68⟩
instance : HasI Tryd.prog 68 1 4 := ⟨by kernel_rfl⟩
instance : HasZ Tryd.prog 68 (.int .i32 0) := ⟨Tryd.zeroValue68⟩
instance : IsAgg Tryd.prog 69 true := ⟨Tryd.isAgg69⟩
instance : HasI Tryd.prog 69 11 48 := ⟨by kernel_rfl⟩
instance : HasZ Tryd.prog 69 (.agg ([.int .u64 0, .int .u64 0, .int .u32 0, .int .u8 0, .int .u8 0, .int .u8 0, .int .u8 0, .nilFunc, .pointer none, .int .i32 0, .int .i32 0] : List Value).toArray) := ⟨fun _ => by kernel_rfl⟩
instance : HasF Tryd.prog 69 0 0 := ⟨fun a w => fieldAt_of 0 12 0 1 Tryd.underlying69 rfl (HasI.size (P := Tryd.prog) (E := 12) (s := 1) (by_ := 8) inferInstance) (by decide) a w⟩
instance : HasF Tryd.prog 69 1 1 := ⟨fun a w => fieldAt_of 1 12 1 1 Tryd.underlying69 rfl (HasI.size (P := Tryd.prog) (E := 12) (s := 1) (by_ := 8) inferInstance) (by decide) a w⟩
instance : HasF Tryd.prog 69 2 2 := ⟨fun a w => fieldAt_of 2 62 2 1 Tryd.underlying69 rfl (HasI.size (P := Tryd.prog) (E := 62) (s := 1) (by_ := 4) inferInstance) (by decide) a w⟩
instance : HasF Tryd.prog 69 3 3 := ⟨fun a w => fieldAt_of 3 63 3 1 Tryd.underlying69 rfl (HasI.size (P := Tryd.prog) (E := 63) (s := 1) (by_ := 1) inferInstance) (by decide) a w⟩
instance : HasF Tryd.prog 69 4 4 := ⟨fun a w => fieldAt_of 4 5 4 1 Tryd.underlying69 rfl (HasI.size (P := Tryd.prog) (E := 5) (s := 1) (by_ := 1) inferInstance) (by decide) a w⟩
instance : HasF Tryd.prog 69 5 5 := ⟨fun a w => fieldAt_of 5 5 5 1 Tryd.underlying69 rfl (HasI.size (P := Tryd.prog) (E := 5) (s := 1) (by_ := 1) inferInstance) (by decide) a w⟩
instance : HasF Tryd.prog 69 6 6 := ⟨fun a w => fieldAt_of 6 64 6 1 Tryd.underlying69 rfl (HasI.size (P := Tryd.prog) (E := 64) (s := 1) (by_ := 1) inferInstance) (by decide) a w⟩
instance : HasF Tryd.prog 69 7 7 := ⟨fun a w => fieldAt_of 7 65 7 1 Tryd.underlying69 rfl (HasI.size (P := Tryd.prog) (E := 65) (s := 1) (by_ := 8) inferInstance) (by decide) a w⟩
instance : HasF Tryd.prog 69 8 8 := ⟨fun a w => fieldAt_of 8 66 8 1 Tryd.underlying69 rfl (HasI.size (P := Tryd.prog) (E := 66) (s := 1) (by_ := 8) inferInstance) (by decide) a w⟩
instance : HasF Tryd.prog 69 9 9 := ⟨fun a w => fieldAt_of 9 67 9 1 Tryd.underlying69 rfl (HasI.size (P := Tryd.prog) (E := 67) (s := 1) (by_ := 4) inferInstance) (by decide) a w⟩
instance : HasF Tryd.prog 69 10 10 := ⟨fun a w => fieldAt_of 10 68 10 1 Tryd.underlying69 rfl (HasI.size (P := Tryd.prog) (E := 68) (s := 1) (by_ := 4) inferInstance) (by decide) a w⟩
instance : IsAgg Tryd.prog 70 true := ⟨Tryd.isAgg70⟩
instance : HasI Tryd.prog 70 11 48 := ⟨by kernel_rfl⟩
instance : HasZ Tryd.prog 70 (.agg ([.int .u64 0, .int .u64 0, .int .u32 0, .int .u8 0, .int .u8 0, .int .u8 0, .int .u8 0, .nilFunc, .pointer none, .int .i32 0, .int .i32 0] : List Value).toArray) := ⟨fun _ => by kernel_rfl⟩
instance : HasF Tryd.prog 70 0 0 := ⟨fun a w => fieldAt_of 0 12 0 1 Tryd.underlying70 rfl (HasI.size (P := Tryd.prog) (E := 12) (s := 1) (by_ := 8) inferInstance) (by decide) a w⟩
instance : HasF Tryd.prog 70 1 1 := ⟨fun a w => fieldAt_of 1 12 1 1 Tryd.underlying70 rfl (HasI.size (P := Tryd.prog) (E := 12) (s := 1) (by_ := 8) inferInstance) (by decide) a w⟩
instance : HasF Tryd.prog 70 2 2 := ⟨fun a w => fieldAt_of 2 62 2 1 Tryd.underlying70 rfl (HasI.size (P := Tryd.prog) (E := 62) (s := 1) (by_ := 4) inferInstance) (by decide) a w⟩
instance : HasF Tryd.prog 70 3 3 := ⟨fun a w => fieldAt_of 3 63 3 1 Tryd.underlying70 rfl (HasI.size (P := Tryd.prog) (E := 63) (s := 1) (by_ := 1) inferInstance) (by decide) a w⟩
instance : HasF Tryd.prog 70 4 4 := ⟨fun a w => fieldAt_of 4 5 4 1 Tryd.underlying70 rfl (HasI.size (P := Tryd.prog) (E := 5) (s := 1) (by_ := 1) inferInstance) (by decide) a w⟩
instance : HasF Tryd.prog 70 5 5 := ⟨fun a w => fieldAt_of 5 5 5 1 Tryd.underlying70 rfl (HasI.size (P := Tryd.prog) (E := 5) (s := 1) (by_ := 1) inferInstance) (by decide) a w⟩
instance : HasF Tryd.prog 70 6 6 := ⟨fun a w => fieldAt_of 6 64 6 1 Tryd.underlying70 rfl (HasI.size (P := Tryd.prog) (E := 64) (s := 1) (by_ := 1) inferInstance) (by decide) a w⟩
instance : HasF Tryd.prog 70 7 7 := ⟨fun a w => fieldAt_of 7 65 7 1 Tryd.underlying70 rfl (HasI.size (P := Tryd.prog) (E := 65) (s := 1) (by_ := 8) inferInstance) (by decide) a w⟩
instance : HasF Tryd.prog 70 8 8 := ⟨fun a w => fieldAt_of 8 66 8 1 Tryd.underlying70 rfl (HasI.size (P := Tryd.prog) (E := 66) (s := 1) (by_ := 8) inferInstance) (by decide) a w⟩
instance : HasF Tryd.prog 70 9 9 := ⟨fun a w => fieldAt_of 9 67 9 1 Tryd.underlying70 rfl (HasI.size (P := Tryd.prog) (E := 67) (s := 1) (by_ := 4) inferInstance) (by decide) a w⟩
instance : HasF Tryd.prog 70 10 10 := ⟨fun a w => fieldAt_of 10 68 10 1 Tryd.underlying70 rfl (HasI.size (P := Tryd.prog) (E := 68) (s := 1) (by_ := 4) inferInstance) (by decide) a w⟩
instance : IsAgg Tryd.prog 71 false := ⟨Tryd.isAgg71⟩
instance : HasI Tryd.prog 71 1 8 := ⟨by kernel_rfl⟩
instance : HasZ Tryd.prog 71 (.pointer none) := ⟨Tryd.zeroValue71⟩
instance : HasFn Tryd.prog 2 := ⟨Tryd.call2⟩
instance : HasFn Tryd.prog 3 := ⟨Tryd.call3⟩
instance : HasFn Tryd.prog 4 := ⟨Tryd.call4⟩
instance : HasFn Tryd.prog 5 := ⟨Tryd.call5⟩
instance : HasFn Tryd.prog 6 := ⟨Tryd.call6⟩
instance : HasFn Tryd.prog 7 := ⟨Tryd.call7⟩
instance : HasFn Tryd.prog 8 := ⟨Tryd.call8⟩
instance : HasFn Tryd.prog 9 := ⟨Tryd.call9⟩
instance : HasFn Tryd.prog 10 := ⟨Tryd.call10⟩
instance : HasFn Tryd.prog 11 := ⟨Tryd.call11⟩
instance : HasFn Tryd.prog 12 := ⟨Tryd.call12⟩
instance : HasFn Tryd.prog 13 := ⟨Tryd.call13⟩
instance : HasFn Tryd.prog 14 := ⟨Tryd.call14⟩
instance : HasFn Tryd.prog 15 := ⟨Tryd.call15⟩
instance : HasFn Tryd.prog 16 := ⟨Tryd.call16⟩
instance : HasFn Tryd.prog 17 := ⟨Tryd.call17⟩
instance : HasFn Tryd.prog 18 := ⟨Tryd.call18⟩
instance : HasFn Tryd.prog 19 := ⟨Tryd.call19⟩
instance : HasFn Tryd.prog 20 := ⟨Tryd.call20⟩
instance : HasFn Tryd.prog 21 := ⟨Tryd.call21⟩
instance : HasFn Tryd.prog 22 := ⟨Tryd.call22⟩
instance : HasFn Tryd.prog 23 := ⟨Tryd.call23⟩
instance : HasFn Tryd.prog 24 := ⟨Tryd.call24⟩
instance : HasFn Tryd.prog 25 := ⟨Tryd.call25⟩
instance : HasFn Tryd.prog 26 := ⟨Tryd.call26⟩
instance : HasFn Tryd.prog 46 := ⟨Tryd.call46⟩
end Go.Proofs.YteogihkpplaioaaDoor.MX
