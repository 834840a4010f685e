/- What the seat's types and functions are, as instances. -/
import Derived.Test.YtjdplgjabbeejaaDoorProg
import Derived.Test.YtjdplgjabbeejaaDoorMXM
namespace Go.Proofs.YtjdplgjabbeejaaDoor.MX
open Go Go.RowKit
instance : IsAgg Tryd.prog 1 false := ⟨Tryd.isAgg1⟩
instance : HasI Tryd.prog 1 1 8 := ⟨by kernel_rfl⟩
instance : HasZ Tryd.prog 1 (.nilFunc) := ⟨Tryd.zeroValue1⟩
instance : HasU Tryd.prog 2 (.int .i64) := ⟨Tryd.underlying2⟩
instance : IsAgg Tryd.prog 2 false := ⟨Tryd.isAgg2⟩
instance : HasI Tryd.prog 2 1 8 := ⟨by kernel_rfl⟩
instance : HasZ Tryd.prog 2 (.int .i64 0) := ⟨Tryd.zeroValue2⟩
instance : HasU Tryd.prog 3 (.int .i64) := ⟨Tryd.underlying3⟩
instance : IsAgg Tryd.prog 3 false := ⟨Tryd.isAgg3⟩
instance : HasI Tryd.prog 3 1 8 := ⟨by kernel_rfl⟩
instance : HasZ Tryd.prog 3 (.int .i64 0) := ⟨Tryd.zeroValue3⟩
instance : HasU Tryd.prog 4 .bool := ⟨Tryd.underlying4⟩
instance : IsAgg Tryd.prog 4 false := ⟨Tryd.isAgg4⟩
instance : HasI Tryd.prog 4 1 1 := ⟨by kernel_rfl⟩
instance : HasZ Tryd.prog 4 (.bool false) := ⟨Tryd.zeroValue4⟩
instance : HasU Tryd.prog 5 (.int .u8) := ⟨Tryd.underlying5⟩
instance : IsAgg Tryd.prog 5 false := ⟨Tryd.isAgg5⟩
instance : HasI Tryd.prog 5 1 1 := ⟨by kernel_rfl⟩
instance : HasZ Tryd.prog 5 (.int .u8 0) := ⟨Tryd.zeroValue5⟩
instance : HasU Tryd.prog 6 (.int .u8) := ⟨Tryd.underlying6⟩
instance : IsAgg Tryd.prog 6 false := ⟨Tryd.isAgg6⟩
instance : HasI Tryd.prog 6 1 1 := ⟨by kernel_rfl⟩
instance : HasZ Tryd.prog 6 (.int .u8 0) := ⟨Tryd.zeroValue6⟩
instance : IsAgg Tryd.prog 7 true := ⟨Tryd.isAgg7⟩
instance : HasI Tryd.prog 7 4 24 := ⟨by kernel_rfl⟩
instance : HasZ Tryd.prog 7 (.agg ([.int .i64 0, .int .i64 0, .bool false, .int .u8 0] : List Value).toArray) := ⟨fun _ => by kernel_rfl⟩
instance : HasF Tryd.prog 7 0 0 := ⟨fun a w => fieldAt_of 0 2 0 1 Tryd.underlying7 rfl (HasI.size (P := Tryd.prog) (E := 2) (s := 1) (by_ := 8) inferInstance) (by decide) a w⟩
instance : HasF Tryd.prog 7 1 1 := ⟨fun a w => fieldAt_of 1 3 1 1 Tryd.underlying7 rfl (HasI.size (P := Tryd.prog) (E := 3) (s := 1) (by_ := 8) inferInstance) (by decide) a w⟩
instance : HasF Tryd.prog 7 2 2 := ⟨fun a w => fieldAt_of 2 4 2 1 Tryd.underlying7 rfl (HasI.size (P := Tryd.prog) (E := 4) (s := 1) (by_ := 1) inferInstance) (by decide) a w⟩
instance : HasF Tryd.prog 7 3 3 := ⟨fun a w => fieldAt_of 3 6 3 1 Tryd.underlying7 rfl (HasI.size (P := Tryd.prog) (E := 6) (s := 1) (by_ := 1) inferInstance) (by decide) a w⟩
instance : IsAgg Tryd.prog 8 true := ⟨Tryd.isAgg8⟩
instance : HasI Tryd.prog 8 4 24 := ⟨by kernel_rfl⟩
instance : HasZ Tryd.prog 8 (.agg ([.int .i64 0, .int .i64 0, .bool false, .int .u8 0] : List Value).toArray) := ⟨fun _ => by kernel_rfl⟩
instance : HasF Tryd.prog 8 0 0 := ⟨fun a w => fieldAt_of 0 2 0 1 Tryd.underlying8 rfl (HasI.size (P := Tryd.prog) (E := 2) (s := 1) (by_ := 8) inferInstance) (by decide) a w⟩
instance : HasF Tryd.prog 8 1 1 := ⟨fun a w => fieldAt_of 1 3 1 1 Tryd.underlying8 rfl (HasI.size (P := Tryd.prog) (E := 3) (s := 1) (by_ := 8) inferInstance) (by decide) a w⟩
instance : HasF Tryd.prog 8 2 2 := ⟨fun a w => fieldAt_of 2 4 2 1 Tryd.underlying8 rfl (HasI.size (P := Tryd.prog) (E := 4) (s := 1) (by_ := 1) inferInstance) (by decide) a w⟩
instance : HasF Tryd.prog 8 3 3 := ⟨fun a w => fieldAt_of 3 6 3 1 Tryd.underlying8 rfl (HasI.size (P := Tryd.prog) (E := 6) (s := 1) (by_ := 1) inferInstance) (by decide) a w⟩
instance : HasU Tryd.prog 9 .string := ⟨Tryd.underlying9⟩
instance : IsAgg Tryd.prog 9 false := ⟨Tryd.isAgg9⟩
instance : HasI Tryd.prog 9 1 16 := ⟨by kernel_rfl⟩
instance : HasZ Tryd.prog 9 (.string ⟨#[]⟩) := ⟨Tryd.zeroValue9⟩
instance : HasU Tryd.prog 10 .string := ⟨Tryd.underlying10⟩
instance : IsAgg Tryd.prog 10 false := ⟨Tryd.isAgg10⟩
instance : HasI Tryd.prog 10 1 16 := ⟨by kernel_rfl⟩
instance : HasZ Tryd.prog 10 (.string ⟨#[]⟩) := ⟨Tryd.zeroValue10⟩
instance : HasU Tryd.prog 11 .string := ⟨Tryd.underlying11⟩
instance : IsAgg Tryd.prog 11 false := ⟨Tryd.isAgg11⟩
instance : HasI Tryd.prog 11 1 16 := ⟨by kernel_rfl⟩
instance : HasZ Tryd.prog 11 (.string ⟨#[]⟩) := ⟨Tryd.zeroValue11⟩
instance : HasU Tryd.prog 12 (.int .u64) := ⟨Tryd.underlying12⟩
instance : IsAgg Tryd.prog 12 false := ⟨Tryd.isAgg12⟩
instance : HasI Tryd.prog 12 1 8 := ⟨by kernel_rfl⟩
instance : HasZ Tryd.prog 12 (.int .u64 0) := ⟨Tryd.zeroValue12⟩
instance : IsAgg Tryd.prog 13 true := ⟨Tryd.isAgg13⟩
instance : HasI Tryd.prog 13 2 24 := ⟨by kernel_rfl⟩
instance : HasZ Tryd.prog 13 (.agg ([.string ⟨#[]⟩, .int .u64 0] : List Value).toArray) := ⟨fun _ => by kernel_rfl⟩
instance : HasF Tryd.prog 13 0 0 := ⟨fun a w => fieldAt_of 0 9 0 1 Tryd.underlying13 rfl (HasI.size (P := Tryd.prog) (E := 9) (s := 1) (by_ := 16) inferInstance) (by decide) a w⟩
instance : HasF Tryd.prog 13 1 1 := ⟨fun a w => fieldAt_of 1 12 1 1 Tryd.underlying13 rfl (HasI.size (P := Tryd.prog) (E := 12) (s := 1) (by_ := 8) inferInstance) (by decide) a w⟩
instance : IsAgg Tryd.prog 14 true := ⟨Tryd.isAgg14⟩
instance : HasI Tryd.prog 14 2 24 := ⟨by kernel_rfl⟩
instance : HasZ Tryd.prog 14 (.agg ([.string ⟨#[]⟩, .int .u64 0] : List Value).toArray) := ⟨fun _ => by kernel_rfl⟩
instance : HasF Tryd.prog 14 0 0 := ⟨fun a w => fieldAt_of 0 9 0 1 Tryd.underlying14 rfl (HasI.size (P := Tryd.prog) (E := 9) (s := 1) (by_ := 16) inferInstance) (by decide) a w⟩
instance : HasF Tryd.prog 14 1 1 := ⟨fun a w => fieldAt_of 1 12 1 1 Tryd.underlying14 rfl (HasI.size (P := Tryd.prog) (E := 12) (s := 1) (by_ := 8) inferInstance) (by decide) a w⟩
instance : HasU Tryd.prog 15 (.pointer 63) := ⟨Tryd.underlying15⟩
instance : IsAgg Tryd.prog 15 false := ⟨Tryd.isAgg15⟩
instance : HasI Tryd.prog 15 1 8 := ⟨by kernel_rfl⟩
instance : HasZ Tryd.prog 15 (.pointer none) := ⟨Tryd.zeroValue15⟩
instance : HasU Tryd.prog 16 (.pointer 66) := ⟨Tryd.underlying16⟩
instance : IsAgg Tryd.prog 16 false := ⟨Tryd.isAgg16⟩
instance : HasI Tryd.prog 16 1 8 := ⟨by kernel_rfl⟩
instance : HasZ Tryd.prog 16 (.pointer none) := ⟨Tryd.zeroValue16⟩
instance : HasU Tryd.prog 17 (.pointer 74) := ⟨Tryd.underlying17⟩
instance : IsAgg Tryd.prog 17 false := ⟨Tryd.isAgg17⟩
instance : HasI Tryd.prog 17 1 8 := ⟨by kernel_rfl⟩
instance : HasZ Tryd.prog 17 (.pointer none) := ⟨Tryd.zeroValue17⟩
instance : IsAgg Tryd.prog 18 true := ⟨Tryd.isAgg18⟩
instance : HasI Tryd.prog 18 1 8 := ⟨by kernel_rfl⟩
instance : HasZ Tryd.prog 18 (.agg ([.pointer none] : List Value).toArray) := ⟨fun _ => by kernel_rfl⟩
instance : HasF Tryd.prog 18 0 0 := ⟨fun a w => fieldAt_of 0 17 0 1 Tryd.underlying18 rfl (HasI.size (P := Tryd.prog) (E := 17) (s := 1) (by_ := 8) inferInstance) (by decide) a w⟩
instance : IsAgg Tryd.prog 19 true := ⟨Tryd.isAgg19⟩
instance : HasI Tryd.prog 19 1 8 := ⟨by kernel_rfl⟩
instance : HasZ Tryd.prog 19 (.agg ([.pointer none] : List Value).toArray) := ⟨fun _ => by kernel_rfl⟩
instance : HasF Tryd.prog 19 0 0 := ⟨fun a w => fieldAt_of 0 17 0 1 Tryd.underlying19 rfl (HasI.size (P := Tryd.prog) (E := 17) (s := 1) (by_ := 8) inferInstance) (by decide) a w⟩
instance : IsAgg Tryd.prog 20 false := ⟨Tryd.isAgg20⟩
instance : HasI Tryd.prog 20 1 16 := ⟨by kernel_rfl⟩
instance : HasZ Tryd.prog 20 (.nilIface) := ⟨Tryd.zeroValue20⟩
instance : HasU Tryd.prog 21 (.int .i32) := ⟨Tryd.underlying21⟩
instance : IsAgg Tryd.prog 21 false := ⟨Tryd.isAgg21⟩
instance : HasI Tryd.prog 21 1 4 := ⟨by kernel_rfl⟩
instance : HasZ Tryd.prog 21 (.int .i32 0) := ⟨Tryd.zeroValue21⟩
instance : IsAgg Tryd.prog 22 false := ⟨Tryd.isAgg22⟩
instance : HasI Tryd.prog 22 1 8 := ⟨by kernel_rfl⟩
instance : HasZ Tryd.prog 22 (.nilFunc) := ⟨Tryd.zeroValue22⟩
instance : HasU Tryd.prog 23 (.pointer 43) := ⟨Tryd.underlying23⟩
instance : IsAgg Tryd.prog 23 false := ⟨Tryd.isAgg23⟩
instance : HasI Tryd.prog 23 1 8 := ⟨by kernel_rfl⟩
instance : HasZ Tryd.prog 23 (.pointer none) := ⟨Tryd.zeroValue23⟩
instance : IsAgg Tryd.prog 24 false := ⟨Tryd.isAgg24⟩
instance : HasI Tryd.prog 24 1 8 := ⟨by kernel_rfl⟩
instance : HasZ Tryd.prog 24 (.nilFunc) := ⟨Tryd.zeroValue24⟩
instance : HasU Tryd.prog 25 (.slice 5) := ⟨Tryd.underlying25⟩
instance : IsAgg Tryd.prog 25 false := ⟨Tryd.isAgg25⟩
instance : HasI Tryd.prog 25 1 24 := ⟨by kernel_rfl⟩
instance : HasZ Tryd.prog 25 (.slice none 0 0) := ⟨Tryd.zeroValue25⟩
instance : IsAgg Tryd.prog 26 false := ⟨Tryd.isAgg26⟩
instance : HasI Tryd.prog 26 1 8 := ⟨by kernel_rfl⟩
instance : HasZ Tryd.prog 26 (.nilFunc) := ⟨Tryd.zeroValue26⟩
instance : IsAgg Tryd.prog 27 false := ⟨Tryd.isAgg27⟩
instance : HasI Tryd.prog 27 1 8 := ⟨by kernel_rfl⟩
instance : HasZ Tryd.prog 27 (.nilFunc) := ⟨Tryd.zeroValue27⟩
instance : IsAgg Tryd.prog 28 false := ⟨Tryd.isAgg28⟩
instance : HasI Tryd.prog 28 1 8 := ⟨by kernel_rfl⟩
instance : HasZ Tryd.prog 28 (.nilFunc) := ⟨Tryd.zeroValue28⟩
instance : IsAgg Tryd.prog 29 false := ⟨Tryd.isAgg29⟩
instance : HasI Tryd.prog 29 1 8 := ⟨by kernel_rfl⟩
instance : HasZ Tryd.prog 29 (.nilFunc) := ⟨Tryd.zeroValue29⟩
instance : IsAgg Tryd.prog 30 false := ⟨Tryd.isAgg30⟩
instance : HasI Tryd.prog 30 1 8 := ⟨by kernel_rfl⟩
instance : HasZ Tryd.prog 30 (.nilFunc) := ⟨Tryd.zeroValue30⟩
instance : HasU Tryd.prog 31 (.slice 25) := ⟨Tryd.underlying31⟩
instance : IsAgg Tryd.prog 31 false := ⟨Tryd.isAgg31⟩
instance : HasI Tryd.prog 31 1 24 := ⟨by kernel_rfl⟩
instance : HasZ Tryd.prog 31 (.slice none 0 0) := ⟨Tryd.zeroValue31⟩
instance : IsAgg Tryd.prog 32 false := ⟨Tryd.isAgg32⟩
instance : HasI Tryd.prog 32 1 8 := ⟨by kernel_rfl⟩
instance : HasZ Tryd.prog 32 (.nilFunc) := ⟨Tryd.zeroValue32⟩
instance : IsAgg Tryd.prog 33 false := ⟨Tryd.isAgg33⟩
instance : HasI Tryd.prog 33 1 8 := ⟨by kernel_rfl⟩
instance : HasZ Tryd.prog 33 (.nilFunc) := ⟨Tryd.zeroValue33⟩
instance : IsAgg Tryd.prog 34 false := ⟨Tryd.isAgg34⟩
instance : HasI Tryd.prog 34 1 8 := ⟨by kernel_rfl⟩
instance : HasZ Tryd.prog 34 (.nilFunc) := ⟨Tryd.zeroValue34⟩
instance : IsAgg Tryd.prog 35 false := ⟨Tryd.isAgg35⟩
instance : HasI Tryd.prog 35 1 8 := ⟨by kernel_rfl⟩
instance : HasZ Tryd.prog 35 (.nilFunc) := ⟨Tryd.zeroValue35⟩
instance : IsAgg Tryd.prog 36 false := ⟨Tryd.isAgg36⟩
instance : HasI Tryd.prog 36 1 8 := ⟨by kernel_rfl⟩
instance : HasZ Tryd.prog 36 (.nilFunc) := ⟨Tryd.zeroValue36⟩
instance : HasU Tryd.prog 37 (.int .u32) := ⟨Tryd.underlying37⟩
instance : IsAgg Tryd.prog 37 false := ⟨Tryd.isAgg37⟩
instance : HasI Tryd.prog 37 1 4 := ⟨by kernel_rfl⟩
instance : HasZ Tryd.prog 37 (.int .u32 0) := ⟨Tryd.zeroValue37⟩
instance : HasU Tryd.prog 38 (.array 8 37) := ⟨Tryd.underlying38⟩
instance : IsAgg Tryd.prog 38 true := ⟨Tryd.isAgg38⟩
instance : HasI Tryd.prog 38 8 32 := ⟨by kernel_rfl⟩
instance : HasZI Tryd.prog 38 .u32 8 := ⟨fun _ => by kernel_rfl⟩
instance : HasU Tryd.prog 39 (.array 8 37) := ⟨Tryd.underlying39⟩
instance : IsAgg Tryd.prog 39 true := ⟨Tryd.isAgg39⟩
instance : HasI Tryd.prog 39 8 32 := ⟨by kernel_rfl⟩
instance : HasZI Tryd.prog 39 .u32 8 := ⟨fun _ => by kernel_rfl⟩
instance : IsAgg Tryd.prog 40 false := ⟨Tryd.isAgg40⟩
instance : HasI Tryd.prog 40 1 8 := ⟨by kernel_rfl⟩
instance : HasZ Tryd.prog 40 (.nilFunc) := ⟨Tryd.zeroValue40⟩
instance : HasU Tryd.prog 41 (.array 64 5) := ⟨Tryd.underlying41⟩
instance : IsAgg Tryd.prog 41 true := ⟨Tryd.isAgg41⟩
instance : HasI Tryd.prog 41 64 64 := ⟨by kernel_rfl⟩
instance : HasZI Tryd.prog 41 .u8 64 := ⟨fun _ => by kernel_rfl⟩
instance : IsAgg Tryd.prog 42 true := ⟨Tryd.isAgg42⟩
instance : HasI Tryd.prog 42 73 104 := ⟨by kernel_rfl⟩
instance : HasZ Tryd.prog 42 (.agg ((List.replicate 8 0).map (Value.int .u32) ++ ((List.replicate 64 0).map (Value.int .u8) ++ ([.int .i64 0])) : List Value).toArray) := ⟨fun _ => by kernel_rfl⟩
instance : HasF Tryd.prog 42 0 0 := ⟨fun a w => fieldAt_of 0 39 0 8 Tryd.underlying42 rfl (HasI.size (P := Tryd.prog) (E := 39) (s := 8) (by_ := 32) inferInstance) (by decide) a w⟩
instance : HasF Tryd.prog 42 1 8 := ⟨fun a w => fieldAt_of 1 41 8 64 Tryd.underlying42 rfl (HasI.size (P := Tryd.prog) (E := 41) (s := 64) (by_ := 64) inferInstance) (by decide) a w⟩
instance : HasF Tryd.prog 42 2 72 := ⟨fun a w => fieldAt_of 2 3 72 1 Tryd.underlying42 rfl (HasI.size (P := Tryd.prog) (E := 3) (s := 1) (by_ := 8) inferInstance) (by decide) a w⟩
instance : IsAgg Tryd.prog 43 true := ⟨Tryd.isAgg43⟩
instance : HasI Tryd.prog 43 73 104 := ⟨by kernel_rfl⟩
instance : HasZ Tryd.prog 43 (.agg ((List.replicate 8 0).map (Value.int .u32) ++ ((List.replicate 64 0).map (Value.int .u8) ++ ([.int .i64 0])) : List Value).toArray) := ⟨fun _ => by kernel_rfl⟩
instance : HasF Tryd.prog 43 0 0 := ⟨fun a w => fieldAt_of 0 39 0 8 Tryd.underlying43 rfl (HasI.size (P := Tryd.prog) (E := 39) (s := 8) (by_ := 32) inferInstance) (by decide) a w⟩
instance : HasF Tryd.prog 43 1 8 := ⟨fun a w => fieldAt_of 1 41 8 64 Tryd.underlying43 rfl (HasI.size (P := Tryd.prog) (E := 41) (s := 64) (by_ := 64) inferInstance) (by decide) a w⟩
instance : HasF Tryd.prog 43 2 72 := ⟨fun a w => fieldAt_of 2 3 72 1 Tryd.underlying43 rfl (HasI.size (P := Tryd.prog) (E := 3) (s := 1) (by_ := 8) inferInstance) (by decide) a w⟩
instance : HasU Tryd.prog 44 (.array 72 5) := ⟨Tryd.underlying44⟩
instance : IsAgg Tryd.prog 44 true := ⟨Tryd.isAgg44⟩
instance : HasI Tryd.prog 44 72 72 := ⟨by kernel_rfl⟩
instance : HasZI Tryd.prog 44 .u8 72 := ⟨fun _ => by kernel_rfl⟩
instance : HasU Tryd.prog 45 (.int .u64) := ⟨Tryd.underlying45⟩
instance : IsAgg Tryd.prog 45 false := ⟨Tryd.isAgg45⟩
instance : HasI Tryd.prog 45 1 8 := ⟨by kernel_rfl⟩
instance : HasZ Tryd.prog 45 (.int .u64 0) := ⟨Tryd.zeroValue45⟩
instance : HasU Tryd.prog 46 (.int .u64) := ⟨Tryd.underlying46⟩
instance : IsAgg Tryd.prog 46 false := ⟨Tryd.isAgg46⟩
instance : HasI Tryd.prog 46 1 8 := ⟨by kernel_rfl⟩
instance : HasZ Tryd.prog 46 (.int .u64 0) := ⟨Tryd.zeroValue46⟩
instance : HasU Tryd.prog 47 (.array 64 37) := ⟨Tryd.underlying47⟩
instance : IsAgg Tryd.prog 47 true := ⟨Tryd.isAgg47⟩
instance : HasI Tryd.prog 47 64 256 := ⟨by kernel_rfl⟩
instance : HasZI Tryd.prog 47 .u32 64 := ⟨fun _ => by kernel_rfl⟩
instance : IsAgg Tryd.prog 48 false := ⟨Tryd.isAgg48⟩
instance : HasI Tryd.prog 48 1 8 := ⟨by kernel_rfl⟩
instance : HasZ Tryd.prog 48 (.nilFunc) := ⟨Tryd.zeroValue48⟩
instance : IsAgg Tryd.prog 49 false := ⟨Tryd.isAgg49⟩
instance : HasI Tryd.prog 49 1 8 := ⟨by kernel_rfl⟩
instance : HasZ Tryd.prog 49 (.nilFunc) := ⟨Tryd.zeroValue49⟩
instance : IsAgg Tryd.prog 50 false := ⟨Tryd.isAgg50⟩
instance : HasI Tryd.prog 50 1 8 := ⟨by kernel_rfl⟩
instance : HasZ Tryd.prog 50 (.nilFunc) := ⟨Tryd.zeroValue50⟩
instance : IsAgg Tryd.prog 51 false := ⟨Tryd.isAgg51⟩
instance : HasI Tryd.prog 51 1 8 := ⟨by kernel_rfl⟩
instance : HasZ Tryd.prog 51 (.nilFunc) := ⟨Tryd.zeroValue51⟩
instance : HasU Tryd.prog 52 (.pointer 39) := ⟨Tryd.underlying52⟩
instance : IsAgg Tryd.prog 52 false := ⟨Tryd.isAgg52⟩
instance : HasI Tryd.prog 52 1 8 := ⟨by kernel_rfl⟩
instance : HasZ Tryd.prog 52 (.pointer none) := ⟨Tryd.zeroValue52⟩
instance : IsAgg Tryd.prog 53 false := ⟨Tryd.isAgg53⟩
instance : HasI Tryd.prog 53 1 8 := ⟨by kernel_rfl⟩
instance : HasZ Tryd.prog 53 (.nilFunc) := ⟨Tryd.zeroValue53⟩
instance : IsAgg Tryd.prog 55 false := ⟨Tryd.isAgg55⟩
instance : HasI Tryd.prog 55 1 8 := ⟨by kernel_rfl⟩
instance : HasZ Tryd.prog 55 (.nilFunc) := ⟨Tryd.zeroValue55⟩
instance : IsAgg Tryd.prog 56 false := ⟨Tryd.isAgg56⟩
instance : HasI Tryd.prog 56 1 8 := ⟨by kernel_rfl⟩
instance : HasZ Tryd.prog 56 (.nilFunc) := ⟨Tryd.zeroValue56⟩
instance : IsAgg Tryd.prog 58 false := ⟨Tryd.isAgg58⟩
instance : HasI Tryd.prog 58 1 8 := ⟨by kernel_rfl⟩
instance : HasZ Tryd.prog 58 (.nilFunc) := ⟨Tryd.zeroValue58⟩
instance : IsAgg Tryd.prog 60 false := ⟨Tryd.isAgg60⟩
instance : HasI Tryd.prog 60 1 8 := ⟨by kernel_rfl⟩
instance : HasZ Tryd.prog 60 (.nilFunc) := ⟨Tryd.zeroValue60⟩
instance : IsAgg Tryd.prog 61 false := ⟨Tryd.isAgg61⟩
instance : HasI Tryd.prog 61 1 8 := ⟨by kernel_rfl⟩
instance : HasZ Tryd.prog 61 (.nilFunc) := ⟨Tryd.zeroValue61⟩
instance : IsAgg Tryd.prog 62 true := ⟨Tryd.isAgg62⟩
instance : HasI Tryd.prog 62 4 40 := ⟨by kernel_rfl⟩
instance : HasZ Tryd.prog 62 (.agg ([.pointer none, .pointer none, .pointer none, .string ⟨#[]⟩] : List Value).toArray) := ⟨fun _ => by kernel_rfl⟩
instance : HasF Tryd.prog 62 0 0 := ⟨fun a w => fieldAt_of 0 17 0 1 Tryd.underlying62 rfl (HasI.size (P := Tryd.prog) (E := 17) (s := 1) (by_ := 8) inferInstance) (by decide) a w⟩
instance : HasF Tryd.prog 62 1 1 := ⟨fun a w => fieldAt_of 1 17 1 1 Tryd.underlying62 rfl (HasI.size (P := Tryd.prog) (E := 17) (s := 1) (by_ := 8) inferInstance) (by decide) a w⟩
instance : HasF Tryd.prog 62 2 2 := ⟨fun a w => fieldAt_of 2 17 2 1 Tryd.underlying62 rfl (HasI.size (P := Tryd.prog) (E := 17) (s := 1) (by_ := 8) inferInstance) (by decide) a w⟩
instance : HasF Tryd.prog 62 3 3 := ⟨fun a w => fieldAt_of 3 9 3 1 Tryd.underlying62 rfl (HasI.size (P := Tryd.prog) (E := 9) (s := 1) (by_ := 16) inferInstance) (by decide) a w⟩
instance : IsAgg Tryd.prog 63 true := ⟨Tryd.isAgg63⟩
instance : HasI Tryd.prog 63 4 40 := ⟨by kernel_rfl⟩
instance : HasZ Tryd.prog 63 (.agg ([.pointer none, .pointer none, .pointer none, .string ⟨#[]⟩] : List Value).toArray) := ⟨fun _ => by kernel_rfl⟩
instance : HasF Tryd.prog 63 0 0 := ⟨fun a w => fieldAt_of 0 17 0 1 Tryd.underlying63 rfl (HasI.size (P := Tryd.prog) (E := 17) (s := 1) (by_ := 8) inferInstance) (by decide) a w⟩
instance : HasF Tryd.prog 63 1 1 := ⟨fun a w => fieldAt_of 1 17 1 1 Tryd.underlying63 rfl (HasI.size (P := Tryd.prog) (E := 17) (s := 1) (by_ := 8) inferInstance) (by decide) a w⟩
instance : HasF Tryd.prog 63 2 2 := ⟨fun a w => fieldAt_of 2 17 2 1 Tryd.underlying63 rfl (HasI.size (P := Tryd.prog) (E := 17) (s := 1) (by_ := 8) inferInstance) (by decide) a w⟩
instance : HasF Tryd.prog 63 3 3 := ⟨fun a w => fieldAt_of 3 9 3 1 Tryd.underlying63 rfl (HasI.size (P := Tryd.prog) (E := 9) (s := 1) (by_ := 16) inferInstance) (by decide) a w⟩
instance : HasU Tryd.prog 64 (.array 0 16) := ⟨Tryd.underlying64⟩
instance : IsAgg Tryd.prog 64 true := ⟨Tryd.isAgg64⟩
instance : HasI Tryd.prog 64 0 0 := ⟨by kernel_rfl⟩
instance : HasZ Tryd.prog 64 (.agg ([] : List Value).toArray) := ⟨fun _ => by kernel_rfl⟩
instance : IsAgg Tryd.prog 65 true := ⟨Tryd.isAgg65⟩
instance : HasI Tryd.prog 65 0 0 := ⟨by kernel_rfl⟩
instance : HasZ Tryd.prog 65 (.agg ([] : List Value).toArray) := ⟨fun _ => by kernel_rfl⟩
instance : IsAgg Tryd.prog 66 true := ⟨Tryd.isAgg66⟩
instance : HasI Tryd.prog 66 0 0 := ⟨by kernel_rfl⟩
instance : HasZ Tryd.prog 66 (.agg ([] : List Value).toArray) := ⟨fun _ => by kernel_rfl⟩
instance : HasU Tryd.prog 67 (.int .u8) := ⟨Tryd.underlying67⟩
instance : IsAgg Tryd.prog 67 false := ⟨Tryd.isAgg67⟩
instance : HasI Tryd.prog 67 1 1 := ⟨by kernel_rfl⟩
instance : HasZ Tryd.prog 67 (.int .u8 0) := ⟨Tryd.zeroValue67⟩
instance : HasU Tryd.prog 68 (.int .u8) := ⟨Tryd.underlying68⟩
instance : IsAgg Tryd.prog 68 false := ⟨Tryd.isAgg68⟩
instance : HasI Tryd.prog 68 1 1 := ⟨by kernel_rfl⟩
instance : HasZ Tryd.prog 68 (.int .u8 0) := ⟨Tryd.zeroValue68⟩
instance : IsAgg Tryd.prog 69 false := ⟨Tryd.isAgg69⟩
instance : HasI Tryd.prog 69 1 8 := ⟨by kernel_rfl⟩
instance : HasZ Tryd.prog 69 (.nilFunc) := ⟨Tryd.zeroValue69⟩
instance : HasU Tryd.prog 70 (.pointer 5) := ⟨Tryd.underlying70⟩
instance : IsAgg Tryd.prog 70 false := ⟨Tryd.isAgg70⟩
instance : HasI Tryd.prog 70 1 8 := ⟨by kernel_rfl⟩
instance : HasZ Tryd.prog 70 (.pointer none) := ⟨Tryd.zeroValue70⟩
instance : HasU Tryd.prog 71 (.int .i32) := ⟨Tryd.underlying71⟩
instance : IsAgg Tryd.prog 71 false := ⟨Tryd.isAgg71⟩
instance : HasI Tryd.prog 71 1 4 := ⟨by kernel_rfl⟩
instance : HasZ Tryd.prog 71 (.int .i32 0) := ⟨Tryd.zeroValue71⟩
instance : HasU Tryd.prog 72 (.int .i32) := ⟨Tryd.underlying72⟩
instance : IsAgg Tryd.prog 72 false := ⟨Tryd.isAgg72⟩
instance : HasI Tryd.prog 72 1 4 := ⟨by kernel_rfl⟩
instance : HasZ Tryd.prog 72 (.int .i32 0) := ⟨Tryd.zeroValue72⟩
instance : IsAgg Tryd.prog 73 true := ⟨Tryd.isAgg73⟩
instance : HasI Tryd.prog 73 11 48 := ⟨by kernel_rfl⟩
instance : HasZ Tryd.prog 73 (.agg ([.int .u64 0, .int .u64 0, .int .u32 0, .int .u8 0, .int .u8 0, .int .u8 0, .int .u8 0, .nilFunc, .pointer none, .int .i32 0, .int .i32 0] : List Value).toArray) := ⟨fun _ => by kernel_rfl⟩
instance : HasF Tryd.prog 73 0 0 := ⟨fun a w => fieldAt_of 0 12 0 1 Tryd.underlying73 rfl (HasI.size (P := Tryd.prog) (E := 12) (s := 1) (by_ := 8) inferInstance) (by decide) a w⟩
instance : HasF Tryd.prog 73 1 1 := ⟨fun a w => fieldAt_of 1 12 1 1 Tryd.underlying73 rfl (HasI.size (P := Tryd.prog) (E := 12) (s := 1) (by_ := 8) inferInstance) (by decide) a w⟩
instance : HasF Tryd.prog 73 2 2 := ⟨fun a w => fieldAt_of 2 37 2 1 Tryd.underlying73 rfl (HasI.size (P := Tryd.prog) (E := 37) (s := 1) (by_ := 4) inferInstance) (by decide) a w⟩
instance : HasF Tryd.prog 73 3 3 := ⟨fun a w => fieldAt_of 3 67 3 1 Tryd.underlying73 rfl (HasI.size (P := Tryd.prog) (E := 67) (s := 1) (by_ := 1) inferInstance) (by decide) a w⟩
instance : HasF Tryd.prog 73 4 4 := ⟨fun a w => fieldAt_of 4 5 4 1 Tryd.underlying73 rfl (HasI.size (P := Tryd.prog) (E := 5) (s := 1) (by_ := 1) inferInstance) (by decide) a w⟩
instance : HasF Tryd.prog 73 5 5 := ⟨fun a w => fieldAt_of 5 5 5 1 Tryd.underlying73 rfl (HasI.size (P := Tryd.prog) (E := 5) (s := 1) (by_ := 1) inferInstance) (by decide) a w⟩
instance : HasF Tryd.prog 73 6 6 := ⟨fun a w => fieldAt_of 6 68 6 1 Tryd.underlying73 rfl (HasI.size (P := Tryd.prog) (E := 68) (s := 1) (by_ := 1) inferInstance) (by decide) a w⟩
instance : HasF Tryd.prog 73 7 7 := ⟨fun a w => fieldAt_of 7 69 7 1 Tryd.underlying73 rfl (HasI.size (P := Tryd.prog) (E := 69) (s := 1) (by_ := 8) inferInstance) (by decide) a w⟩
instance : HasF Tryd.prog 73 8 8 := ⟨fun a w => fieldAt_of 8 70 8 1 Tryd.underlying73 rfl (HasI.size (P := Tryd.prog) (E := 70) (s := 1) (by_ := 8) inferInstance) (by decide) a w⟩
instance : HasF Tryd.prog 73 9 9 := ⟨fun a w => fieldAt_of 9 71 9 1 Tryd.underlying73 rfl (HasI.size (P := Tryd.prog) (E := 71) (s := 1) (by_ := 4) inferInstance) (by decide) a w⟩
instance : HasF Tryd.prog 73 10 10 := ⟨fun a w => fieldAt_of 10 72 10 1 Tryd.underlying73 rfl (HasI.size (P := Tryd.prog) (E := 72) (s := 1) (by_ := 4) inferInstance) (by decide) a w⟩
instance : IsAgg Tryd.prog 74 true := ⟨Tryd.isAgg74⟩
instance : HasI Tryd.prog 74 11 48 := ⟨by kernel_rfl⟩
instance : HasZ Tryd.prog 74 (.agg ([.int .u64 0, .int .u64 0, .int .u32 0, .int .u8 0, .int .u8 0, .int .u8 0, .int .u8 0, .nilFunc, .pointer none, .int .i32 0, .int .i32 0] : List Value).toArray) := ⟨fun _ => by kernel_rfl⟩
instance : HasF Tryd.prog 74 0 0 := ⟨fun a w => fieldAt_of 0 12 0 1 Tryd.underlying74 rfl (HasI.size (P := Tryd.prog) (E := 12) (s := 1) (by_ := 8) inferInstance) (by decide) a w⟩
instance : HasF Tryd.prog 74 1 1 := ⟨fun a w => fieldAt_of 1 12 1 1 Tryd.underlying74 rfl (HasI.size (P := Tryd.prog) (E := 12) (s := 1) (by_ := 8) inferInstance) (by decide) a w⟩
instance : HasF Tryd.prog 74 2 2 := ⟨fun a w => fieldAt_of 2 37 2 1 Tryd.underlying74 rfl (HasI.size (P := Tryd.prog) (E := 37) (s := 1) (by_ := 4) inferInstance) (by decide) a w⟩
instance : HasF Tryd.prog 74 3 3 := ⟨fun a w => fieldAt_of 3 67 3 1 Tryd.underlying74 rfl (HasI.size (P := Tryd.prog) (E := 67) (s := 1) (by_ := 1) inferInstance) (by decide) a w⟩
instance : HasF Tryd.prog 74 4 4 := ⟨fun a w => fieldAt_of 4 5 4 1 Tryd.underlying74 rfl (HasI.size (P := Tryd.prog) (E := 5) (s := 1) (by_ := 1) inferInstance) (by decide) a w⟩
instance : HasF Tryd.prog 74 5 5 := ⟨fun a w => fieldAt_of 5 5 5 1 Tryd.underlying74 rfl (HasI.size (P := Tryd.prog) (E := 5) (s := 1) (by_ := 1) inferInstance) (by decide) a w⟩
instance : HasF Tryd.prog 74 6 6 := ⟨fun a w => fieldAt_of 6 68 6 1 Tryd.underlying74 rfl (HasI.size (P := Tryd.prog) (E := 68) (s := 1) (by_ := 1) inferInstance) (by decide) a w⟩
instance : HasF Tryd.prog 74 7 7 := ⟨fun a w => fieldAt_of 7 69 7 1 Tryd.underlying74 rfl (HasI.size (P := Tryd.prog) (E := 69) (s := 1) (by_ := 8) inferInstance) (by decide) a w⟩
instance : HasF Tryd.prog 74 8 8 := ⟨fun a w => fieldAt_of 8 70 8 1 Tryd.underlying74 rfl (HasI.size (P := Tryd.prog) (E := 70) (s := 1) (by_ := 8) inferInstance) (by decide) a w⟩
instance : HasF Tryd.prog 74 9 9 := ⟨fun a w => fieldAt_of 9 71 9 1 Tryd.underlying74 rfl (HasI.size (P := Tryd.prog) (E := 71) (s := 1) (by_ := 4) inferInstance) (by decide) a w⟩
instance : HasF Tryd.prog 74 10 10 := ⟨fun a w => fieldAt_of 10 72 10 1 Tryd.underlying74 rfl (HasI.size (P := Tryd.prog) (E := 72) (s := 1) (by_ := 4) inferInstance) (by decide) a w⟩
instance : IsAgg Tryd.prog 75 false := ⟨Tryd.isAgg75⟩
instance : HasI Tryd.prog 75 1 8 := ⟨by kernel_rfl⟩
instance : HasZ Tryd.prog 75 (.pointer none) := ⟨Tryd.zeroValue75⟩
instance : HasFn Tryd.prog 2 := ⟨Tryd.call2⟩
instance : HasFn Tryd.prog 3 := ⟨Tryd.call3⟩
instance : HasFn Tryd.prog 4 := ⟨Tryd.call4⟩
instance : HasFn Tryd.prog 5 := ⟨Tryd.call5⟩
instance : HasFn Tryd.prog 6 := ⟨Tryd.call6⟩
instance : HasFn Tryd.prog 7 := ⟨Tryd.call7⟩
instance : HasFn Tryd.prog 8 := ⟨Tryd.call8⟩
instance : HasFn Tryd.prog 9 := ⟨Tryd.call9⟩
instance : HasFn Tryd.prog 10 := ⟨Tryd.call10⟩
instance : HasFn Tryd.prog 11 := ⟨Tryd.call11⟩
instance : HasFn Tryd.prog 12 := ⟨Tryd.call12⟩
instance : HasFn Tryd.prog 13 := ⟨Tryd.call13⟩
instance : HasFn Tryd.prog 14 := ⟨Tryd.call14⟩
instance : HasFn Tryd.prog 15 := ⟨Tryd.call15⟩
instance : HasFn Tryd.prog 16 := ⟨Tryd.call16⟩
instance : HasFn Tryd.prog 17 := ⟨Tryd.call17⟩
instance : HasFn Tryd.prog 18 := ⟨Tryd.call18⟩
instance : HasFn Tryd.prog 19 := ⟨Tryd.call19⟩
instance : HasFn Tryd.prog 20 := ⟨Tryd.call20⟩
instance : HasFn Tryd.prog 21 := ⟨Tryd.call21⟩
instance : HasFn Tryd.prog 22 := ⟨Tryd.call22⟩
instance : HasFn Tryd.prog 23 := ⟨Tryd.call23⟩
instance : HasFn Tryd.prog 24 := ⟨Tryd.call24⟩
instance : HasFn Tryd.prog 25 := ⟨Tryd.call25⟩
instance : HasFn Tryd.prog 26 := ⟨Tryd.call26⟩
instance : HasFn Tryd.prog 27 := ⟨Tryd.call27⟩
instance : HasFn Tryd.prog 29 := ⟨Tryd.call29⟩
instance : HasFn Tryd.prog 30 := ⟨Tryd.call30⟩
instance : HasFn Tryd.prog 50 := ⟨Tryd.call50⟩
end Go.Proofs.YtjdplgjabbeejaaDoor.MX
