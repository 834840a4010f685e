/- What the seat's types and functions are, as instances. -/
import Derived.Test.YtgnhpkdhicfeiaaDoorProg
import Derived.Test.YtgnhpkdhicfeiaaDoorMXM
namespace Go.Proofs.YtgnhpkdhicfeiaaDoor.MX
open Go Go.RowKit
instance : IsAgg Tryd.prog 1 false := ⟨Tryd.isAgg1⟩
instance : HasI Tryd.prog 1 1 8 := ⟨by kernel_rfl⟩
instance : HasZ Tryd.prog 1 (.nilFunc) := ⟨Tryd.zeroValue1⟩
instance : HasU Tryd.prog 2 (.int .i64) := ⟨Tryd.underlying2⟩
instance : IsAgg Tryd.prog 2 false := ⟨Tryd.isAgg2⟩
instance : HasI Tryd.prog 2 1 8 := ⟨by kernel_rfl⟩
instance : HasZ Tryd.prog 2 (.int .i64 0) := ⟨Tryd.zeroValue2⟩
instance : HasU Tryd.prog 3 (.int .i64) := ⟨Tryd.underlying3⟩
instance : IsAgg Tryd.prog 3 false := ⟨Tryd.isAgg3⟩
instance : HasI Tryd.prog 3 1 8 := ⟨by kernel_rfl⟩
instance : HasZ Tryd.prog 3 (.int .i64 0) := ⟨Tryd.zeroValue3⟩
instance : HasU Tryd.prog 4 .bool := ⟨Tryd.underlying4⟩
instance : IsAgg Tryd.prog 4 false := ⟨Tryd.isAgg4⟩
instance : HasI Tryd.prog 4 1 1 := ⟨by kernel_rfl⟩
instance : HasZ Tryd.prog 4 (.bool false) := ⟨Tryd.zeroValue4⟩
instance : HasU Tryd.prog 5 (.int .u8) := ⟨Tryd.underlying5⟩
instance : IsAgg Tryd.prog 5 false := ⟨Tryd.isAgg5⟩
instance : HasI Tryd.prog 5 1 1 := ⟨by kernel_rfl⟩
instance : HasZ Tryd.prog 5 (.int .u8 0) := ⟨Tryd.zeroValue5⟩
instance : HasU Tryd.prog 6 (.int .u8) := ⟨Tryd.underlying6⟩
instance : IsAgg Tryd.prog 6 false := ⟨Tryd.isAgg6⟩
instance : HasI Tryd.prog 6 1 1 := ⟨by kernel_rfl⟩
instance : HasZ Tryd.prog 6 (.int .u8 0) := ⟨Tryd.zeroValue6⟩
instance : IsAgg Tryd.prog 7 true := ⟨Tryd.isAgg7⟩
instance : HasI Tryd.prog 7 4 24 := ⟨by kernel_rfl⟩
instance : HasZ Tryd.prog 7 (.agg ([.int .i64 0, .int .i64 0, .bool false, .int .u8 0] : List Value).toArray) := ⟨fun _ => by kernel_rfl⟩
instance : HasF Tryd.prog 7 0 0 := ⟨fun a w => fieldAt_of 0 2 0 1 Tryd.underlying7 rfl (HasI.size (P := Tryd.prog) (E := 2) (s := 1) (by_ := 8) inferInstance) (by decide) a w⟩
instance : HasF Tryd.prog 7 1 1 := ⟨fun a w => fieldAt_of 1 3 1 1 Tryd.underlying7 rfl (HasI.size (P := Tryd.prog) (E := 3) (s := 1) (by_ := 8) inferInstance) (by decide) a w⟩
instance : HasF Tryd.prog 7 2 2 := ⟨fun a w => fieldAt_of 2 4 2 1 Tryd.underlying7 rfl (HasI.size (P := Tryd.prog) (E := 4) (s := 1) (by_ := 1) inferInstance) (by decide) a w⟩
instance : HasF Tryd.prog 7 3 3 := ⟨fun a w => fieldAt_of 3 6 3 1 Tryd.underlying7 rfl (HasI.size (P := Tryd.prog) (E := 6) (s := 1) (by_ := 1) inferInstance) (by decide) a w⟩
instance : IsAgg Tryd.prog 8 true := ⟨Tryd.isAgg8⟩
instance : HasI Tryd.prog 8 4 24 := ⟨by kernel_rfl⟩
instance : HasZ Tryd.prog 8 (.agg ([.int .i64 0, .int .i64 0, .bool false, .int .u8 0] : List Value).toArray) := ⟨fun _ => by kernel_rfl⟩
instance : HasF Tryd.prog 8 0 0 := ⟨fun a w => fieldAt_of 0 2 0 1 Tryd.underlying8 rfl (HasI.size (P := Tryd.prog) (E := 2) (s := 1) (by_ := 8) inferInstance) (by decide) a w⟩
instance : HasF Tryd.prog 8 1 1 := ⟨fun a w => fieldAt_of 1 3 1 1 Tryd.underlying8 rfl (HasI.size (P := Tryd.prog) (E := 3) (s := 1) (by_ := 8) inferInstance) (by decide) a w⟩
instance : HasF Tryd.prog 8 2 2 := ⟨fun a w => fieldAt_of 2 4 2 1 Tryd.underlying8 rfl (HasI.size (P := Tryd.prog) (E := 4) (s := 1) (by_ := 1) inferInstance) (by decide) a w⟩
instance : HasF Tryd.prog 8 3 3 := ⟨fun a w => fieldAt_of 3 6 3 1 Tryd.underlying8 rfl (HasI.size (P := Tryd.prog) (E := 6) (s := 1) (by_ := 1) inferInstance) (by decide) a w⟩
instance : HasU Tryd.prog 9 .string := ⟨Tryd.underlying9⟩
instance : IsAgg Tryd.prog 9 false := ⟨Tryd.isAgg9⟩
instance : HasI Tryd.prog 9 1 16 := ⟨by kernel_rfl⟩
instance : HasZ Tryd.prog 9 (.string ⟨#[]⟩) := ⟨Tryd.zeroValue9⟩
instance : HasU Tryd.prog 10 .string := ⟨Tryd.underlying10⟩
instance : IsAgg Tryd.prog 10 false := ⟨Tryd.isAgg10⟩
instance : HasI Tryd.prog 10 1 16 := ⟨by kernel_rfl⟩
instance : HasZ Tryd.prog 10 (.string ⟨#[]⟩) := ⟨Tryd.zeroValue10⟩
instance : HasU Tryd.prog 11 .string := ⟨Tryd.underlying11⟩
instance : IsAgg Tryd.prog 11 false := ⟨Tryd.isAgg11⟩
instance : HasI Tryd.prog 11 1 16 := ⟨by kernel_rfl⟩
instance : HasZ Tryd.prog 11 (.string ⟨#[]⟩) := ⟨Tryd.zeroValue11⟩
instance : HasU Tryd.prog 12 (.int .u64) := ⟨Tryd.underlying12⟩
instance : IsAgg Tryd.prog 12 false := ⟨Tryd.isAgg12⟩
instance : HasI Tryd.prog 12 1 8 := ⟨by kernel_rfl⟩
instance : HasZ Tryd.prog 12 (.int .u64 0) := ⟨Tryd.zeroValue12⟩
instance : IsAgg Tryd.prog 13 true := ⟨Tryd.isAgg13⟩
instance : HasI Tryd.prog 13 2 24 := ⟨by kernel_rfl⟩
instance : HasZ Tryd.prog 13 (.agg ([.string ⟨#[]⟩, .int .u64 0] : List Value).toArray) := ⟨fun _ => by kernel_rfl⟩
instance : HasF Tryd.prog 13 0 0 := ⟨fun a w => fieldAt_of 0 9 0 1 Tryd.underlying13 rfl (HasI.size (P := Tryd.prog) (E := 9) (s := 1) (by_ := 16) inferInstance) (by decide) a w⟩
instance : HasF Tryd.prog 13 1 1 := ⟨fun a w => fieldAt_of 1 12 1 1 Tryd.underlying13 rfl (HasI.size (P := Tryd.prog) (E := 12) (s := 1) (by_ := 8) inferInstance) (by decide) a w⟩
instance : IsAgg Tryd.prog 14 true := ⟨Tryd.isAgg14⟩
instance : HasI Tryd.prog 14 2 24 := ⟨by kernel_rfl⟩
instance : HasZ Tryd.prog 14 (.agg ([.string ⟨#[]⟩, .int .u64 0] : List Value).toArray) := ⟨fun _ => by kernel_rfl⟩
instance : HasF Tryd.prog 14 0 0 := ⟨fun a w => fieldAt_of 0 9 0 1 Tryd.underlying14 rfl (HasI.size (P := Tryd.prog) (E := 9) (s := 1) (by_ := 16) inferInstance) (by decide) a w⟩
instance : HasF Tryd.prog 14 1 1 := ⟨fun a w => fieldAt_of 1 12 1 1 Tryd.underlying14 rfl (HasI.size (P := Tryd.prog) (E := 12) (s := 1) (by_ := 8) inferInstance) (by decide) a w⟩
instance : HasU Tryd.prog 15 (.pointer 87) := ⟨Tryd.underlying15⟩
instance : IsAgg Tryd.prog 15 false := ⟨Tryd.isAgg15⟩
instance : HasI Tryd.prog 15 1 8 := ⟨by kernel_rfl⟩
instance : HasZ Tryd.prog 15 (.pointer none) := ⟨Tryd.zeroValue15⟩
instance : HasU Tryd.prog 16 (.pointer 90) := ⟨Tryd.underlying16⟩
instance : IsAgg Tryd.prog 16 false := ⟨Tryd.isAgg16⟩
instance : HasI Tryd.prog 16 1 8 := ⟨by kernel_rfl⟩
instance : HasZ Tryd.prog 16 (.pointer none) := ⟨Tryd.zeroValue16⟩
instance : HasU Tryd.prog 17 (.pointer 98) := ⟨Tryd.underlying17⟩
instance : IsAgg Tryd.prog 17 false := ⟨Tryd.isAgg17⟩
instance : HasI Tryd.prog 17 1 8 := ⟨by kernel_rfl⟩
instance : HasZ Tryd.prog 17 (.pointer none) := ⟨Tryd.zeroValue17⟩
instance : IsAgg Tryd.prog 18 true := ⟨Tryd.isAgg18⟩
instance : HasI Tryd.prog 18 1 8 := ⟨by kernel_rfl⟩
instance : HasZ Tryd.prog 18 (.agg ([.pointer none] : List Value).toArray) := ⟨fun _ => by kernel_rfl⟩
instance : HasF Tryd.prog 18 0 0 := ⟨fun a w => fieldAt_of 0 17 0 1 Tryd.underlying18 rfl (HasI.size (P := Tryd.prog) (E := 17) (s := 1) (by_ := 8) inferInstance) (by decide) a w⟩
instance : IsAgg Tryd.prog 19 true := ⟨Tryd.isAgg19⟩
instance : HasI Tryd.prog 19 1 8 := ⟨by kernel_rfl⟩
instance : HasZ Tryd.prog 19 (.agg ([.pointer none] : List Value).toArray) := ⟨fun _ => by kernel_rfl⟩
instance : HasF Tryd.prog 19 0 0 := ⟨fun a w => fieldAt_of 0 17 0 1 Tryd.underlying19 rfl (HasI.size (P := Tryd.prog) (E := 17) (s := 1) (by_ := 8) inferInstance) (by decide) a w⟩
instance : IsAgg Tryd.prog 20 false := ⟨Tryd.isAgg20⟩
instance : HasI Tryd.prog 20 1 16 := ⟨by kernel_rfl⟩
instance : HasZ Tryd.prog 20 (.nilIface) := ⟨Tryd.zeroValue20⟩
instance : HasU Tryd.prog 21 (.int .i32) := ⟨Tryd.underlying21⟩
instance : IsAgg Tryd.prog 21 false := ⟨Tryd.isAgg21⟩
instance : HasI Tryd.prog 21 1 4 := ⟨by kernel_rfl⟩
instance : HasZ Tryd.prog 21 (.int .i32 0) := ⟨Tryd.zeroValue21⟩
instance : HasU Tryd.prog 22 (.slice 34) := ⟨Tryd.underlying22⟩
instance : IsAgg Tryd.prog 22 false := ⟨Tryd.isAgg22⟩
instance : HasI Tryd.prog 22 1 24 := ⟨by kernel_rfl⟩
instance : HasZ Tryd.prog 22 (.slice none 0 0) := ⟨Tryd.zeroValue22⟩
instance : IsAgg Tryd.prog 23 false := ⟨Tryd.isAgg23⟩
instance : HasI Tryd.prog 23 1 8 := ⟨by kernel_rfl⟩
instance : HasZ Tryd.prog 23 (.nilFunc) := ⟨Tryd.zeroValue23⟩
instance : IsAgg Tryd.prog 24 false := ⟨Tryd.isAgg24⟩
instance : HasI Tryd.prog 24 1 8 := ⟨by kernel_rfl⟩
instance : HasZ Tryd.prog 24 (.nilFunc) := ⟨Tryd.zeroValue24⟩
instance : HasU Tryd.prog 25 (.pointer 53) := ⟨Tryd.underlying25⟩
instance : IsAgg Tryd.prog 25 false := ⟨Tryd.isAgg25⟩
instance : HasI Tryd.prog 25 1 8 := ⟨by kernel_rfl⟩
instance : HasZ Tryd.prog 25 (.pointer none) := ⟨Tryd.zeroValue25⟩
instance : IsAgg Tryd.prog 27 false := ⟨Tryd.isAgg27⟩
instance : HasI Tryd.prog 27 1 8 := ⟨by kernel_rfl⟩
instance : HasZ Tryd.prog 27 (.nilFunc) := ⟨Tryd.zeroValue27⟩
instance : IsAgg Tryd.prog 29 false := ⟨Tryd.isAgg29⟩
instance : HasI Tryd.prog 29 1 8 := ⟨by kernel_rfl⟩
instance : HasZ Tryd.prog 29 (.nilFunc) := ⟨Tryd.zeroValue29⟩
instance : IsAgg Tryd.prog 30 false := ⟨Tryd.isAgg30⟩
instance : HasI Tryd.prog 30 1 8 := ⟨by kernel_rfl⟩
instance : HasZ Tryd.prog 30 (.nilFunc) := ⟨Tryd.zeroValue30⟩
instance : IsAgg Tryd.prog 31 false := ⟨Tryd.isAgg31⟩
instance : HasI Tryd.prog 31 1 8 := ⟨by kernel_rfl⟩
instance : HasZ Tryd.prog 31 (.nilFunc) := ⟨Tryd.zeroValue31⟩
instance : IsAgg Tryd.prog 32 false := ⟨Tryd.isAgg32⟩
instance : HasI Tryd.prog 32 1 8 := ⟨by kernel_rfl⟩
instance : HasZ Tryd.prog 32 (.nilFunc) := ⟨Tryd.zeroValue32⟩
instance : IsAgg Tryd.prog 33 false := ⟨Tryd.isAgg33⟩
instance : HasI Tryd.prog 33 1 8 := ⟨by kernel_rfl⟩
instance : HasZ Tryd.prog 33 (.nilFunc) := ⟨Tryd.zeroValue33⟩
instance : HasU Tryd.prog 34 (.slice 5) := ⟨Tryd.underlying34⟩
instance : IsAgg Tryd.prog 34 false := ⟨Tryd.isAgg34⟩
instance : HasI Tryd.prog 34 1 24 := ⟨by kernel_rfl⟩
instance : HasZ Tryd.prog 34 (.slice none 0 0) := ⟨Tryd.zeroValue34⟩
instance : IsAgg Tryd.prog 36 false := ⟨Tryd.isAgg36⟩
instance : HasI Tryd.prog 36 1 8 := ⟨by kernel_rfl⟩
instance : HasZ Tryd.prog 36 (.nilFunc) := ⟨Tryd.zeroValue36⟩
instance : IsAgg Tryd.prog 37 false := ⟨Tryd.isAgg37⟩
instance : HasI Tryd.prog 37 1 8 := ⟨by kernel_rfl⟩
instance : HasZ Tryd.prog 37 (.nilFunc) := ⟨Tryd.zeroValue37⟩
instance : IsAgg Tryd.prog 38 false := ⟨Tryd.isAgg38⟩
instance : HasI Tryd.prog 38 1 8 := ⟨by kernel_rfl⟩
instance : HasZ Tryd.prog 38 (.nilFunc) := ⟨Tryd.zeroValue38⟩
instance : IsAgg Tryd.prog 39 false := ⟨Tryd.isAgg39⟩
instance : HasI Tryd.prog 39 1 8 := ⟨by kernel_rfl⟩
instance : HasZ Tryd.prog 39 (.nilFunc) := ⟨Tryd.zeroValue39⟩
instance : IsAgg Tryd.prog 40 false := ⟨Tryd.isAgg40⟩
instance : HasI Tryd.prog 40 1 8 := ⟨by kernel_rfl⟩
instance : HasZ Tryd.prog 40 (.nilFunc) := ⟨Tryd.zeroValue40⟩
instance : IsAgg Tryd.prog 41 false := ⟨Tryd.isAgg41⟩
instance : HasI Tryd.prog 41 1 8 := ⟨by kernel_rfl⟩
instance : HasZ Tryd.prog 41 (.nilFunc) := ⟨Tryd.zeroValue41⟩
instance : IsAgg Tryd.prog 42 false := ⟨Tryd.isAgg42⟩
instance : HasI Tryd.prog 42 1 8 := ⟨by kernel_rfl⟩
instance : HasZ Tryd.prog 42 (.nilFunc) := ⟨Tryd.zeroValue42⟩
instance : IsAgg Tryd.prog 43 false := ⟨Tryd.isAgg43⟩
instance : HasI Tryd.prog 43 1 8 := ⟨by kernel_rfl⟩
instance : HasZ Tryd.prog 43 (.nilFunc) := ⟨Tryd.zeroValue43⟩
instance : IsAgg Tryd.prog 44 false := ⟨Tryd.isAgg44⟩
instance : HasI Tryd.prog 44 1 8 := ⟨by kernel_rfl⟩
instance : HasZ Tryd.prog 44 (.nilFunc) := ⟨Tryd.zeroValue44⟩
instance : IsAgg Tryd.prog 45 false := ⟨Tryd.isAgg45⟩
instance : HasI Tryd.prog 45 1 8 := ⟨by kernel_rfl⟩
instance : HasZ Tryd.prog 45 (.nilFunc) := ⟨Tryd.zeroValue45⟩
instance : IsAgg Tryd.prog 46 false := ⟨Tryd.isAgg46⟩
instance : HasI Tryd.prog 46 1 8 := ⟨by kernel_rfl⟩
instance : HasZ Tryd.prog 46 (.nilFunc) := ⟨Tryd.zeroValue46⟩
instance : IsAgg Tryd.prog 47 false := ⟨Tryd.isAgg47⟩
instance : HasI Tryd.prog 47 1 8 := ⟨by kernel_rfl⟩
instance : HasZ Tryd.prog 47 (.nilFunc) := ⟨Tryd.zeroValue47⟩
instance : IsAgg Tryd.prog 48 false := ⟨Tryd.isAgg48⟩
instance : HasI Tryd.prog 48 1 8 := ⟨by kernel_rfl⟩
instance : HasZ Tryd.prog 48 (.nilFunc) := ⟨Tryd.zeroValue48⟩
instance : IsAgg Tryd.prog 49 false := ⟨Tryd.isAgg49⟩
instance : HasI Tryd.prog 49 1 8 := ⟨by kernel_rfl⟩
instance : HasZ Tryd.prog 49 (.nilFunc) := ⟨Tryd.zeroValue49⟩
instance : IsAgg Tryd.prog 50 false := ⟨Tryd.isAgg50⟩
instance : HasI Tryd.prog 50 1 8 := ⟨by kernel_rfl⟩
instance : HasZ Tryd.prog 50 (.nilFunc) := ⟨Tryd.zeroValue50⟩
instance : HasU Tryd.prog 51 (.slice 22) := ⟨Tryd.underlying51⟩
instance : IsAgg Tryd.prog 51 false := ⟨Tryd.isAgg51⟩
instance : HasI Tryd.prog 51 1 24 := ⟨by kernel_rfl⟩
instance : HasZ Tryd.prog 51 (.slice none 0 0) := ⟨Tryd.zeroValue51⟩
instance : IsAgg Tryd.prog 52 true := ⟨Tryd.isAgg52⟩
instance : HasI Tryd.prog 52 1 24 := ⟨by kernel_rfl⟩
instance : HasZ Tryd.prog 52 (.agg ([.slice none 0 0] : List Value).toArray) := ⟨fun _ => by kernel_rfl⟩
instance : HasF Tryd.prog 52 0 0 := ⟨fun a w => fieldAt_of 0 51 0 1 Tryd.underlying52 rfl (HasI.size (P := Tryd.prog) (E := 51) (s := 1) (by_ := 24) inferInstance) (by decide) a w⟩
instance : IsAgg Tryd.prog 53 true := ⟨Tryd.isAgg53⟩
instance : HasI Tryd.prog 53 1 24 := ⟨by kernel_rfl⟩
instance : HasZ Tryd.prog 53 (.agg ([.slice none 0 0] : List Value).toArray) := ⟨fun _ => by kernel_rfl⟩
instance : HasF Tryd.prog 53 0 0 := ⟨fun a w => fieldAt_of 0 51 0 1 Tryd.underlying53 rfl (HasI.size (P := Tryd.prog) (E := 51) (s := 1) (by_ := 24) inferInstance) (by decide) a w⟩
instance : IsAgg Tryd.prog 54 false := ⟨Tryd.isAgg54⟩
instance : HasI Tryd.prog 54 1 8 := ⟨by kernel_rfl⟩
instance : HasZ Tryd.prog 54 (.nilFunc) := ⟨Tryd.zeroValue54⟩
instance : IsAgg Tryd.prog 55 false := ⟨Tryd.isAgg55⟩
instance : HasI Tryd.prog 55 1 8 := ⟨by kernel_rfl⟩
instance : HasZ Tryd.prog 55 (.nilFunc) := ⟨Tryd.zeroValue55⟩
instance : HasU Tryd.prog 56 (.int .u64) := ⟨Tryd.underlying56⟩
instance : IsAgg Tryd.prog 56 false := ⟨Tryd.isAgg56⟩
instance : HasI Tryd.prog 56 1 8 := ⟨by kernel_rfl⟩
instance : HasZ Tryd.prog 56 (.int .u64 0) := ⟨Tryd.zeroValue56⟩
instance : IsAgg Tryd.prog 57 false := ⟨Tryd.isAgg57⟩
instance : HasI Tryd.prog 57 1 8 := ⟨by kernel_rfl⟩
instance : HasZ Tryd.prog 57 (.nilFunc) := ⟨Tryd.zeroValue57⟩
instance : IsAgg Tryd.prog 58 false := ⟨Tryd.isAgg58⟩
instance : HasI Tryd.prog 58 1 8 := ⟨by kernel_rfl⟩
instance : HasZ Tryd.prog 58 (.nilFunc) := ⟨Tryd.zeroValue58⟩
instance : HasU Tryd.prog 59 (.int .u64) := ⟨Tryd.underlying59⟩
instance : IsAgg Tryd.prog 59 false := ⟨Tryd.isAgg59⟩
instance : HasI Tryd.prog 59 1 8 := ⟨by kernel_rfl⟩
instance : HasZ Tryd.prog 59 (.int .u64 0) := ⟨Tryd.zeroValue59⟩
instance : HasU Tryd.prog 60 (.int .u32) := ⟨Tryd.underlying60⟩
instance : IsAgg Tryd.prog 60 false := ⟨Tryd.isAgg60⟩
instance : HasI Tryd.prog 60 1 4 := ⟨by kernel_rfl⟩
instance : HasZ Tryd.prog 60 (.int .u32 0) := ⟨Tryd.zeroValue60⟩
instance : HasU Tryd.prog 61 (.array 8 60) := ⟨Tryd.underlying61⟩
instance : IsAgg Tryd.prog 61 true := ⟨Tryd.isAgg61⟩
instance : HasI Tryd.prog 61 8 32 := ⟨by kernel_rfl⟩
instance : HasZI Tryd.prog 61 .u32 8 := ⟨fun _ => by kernel_rfl⟩
instance : HasU Tryd.prog 62 (.array 64 60) := ⟨Tryd.underlying62⟩
instance : IsAgg Tryd.prog 62 true := ⟨Tryd.isAgg62⟩
instance : HasI Tryd.prog 62 64 256 := ⟨by kernel_rfl⟩
instance : HasZI Tryd.prog 62 .u32 64 := ⟨fun _ => by kernel_rfl⟩
instance : IsAgg Tryd.prog 63 false := ⟨Tryd.isAgg63⟩
instance : HasI Tryd.prog 63 1 8 := ⟨by kernel_rfl⟩
instance : HasZ Tryd.prog 63 (.nilFunc) := ⟨Tryd.zeroValue63⟩
instance : IsAgg Tryd.prog 64 false := ⟨Tryd.isAgg64⟩
instance : HasI Tryd.prog 64 1 8 := ⟨by kernel_rfl⟩
instance : HasZ Tryd.prog 64 (.nilFunc) := ⟨Tryd.zeroValue64⟩
instance : IsAgg Tryd.prog 65 false := ⟨Tryd.isAgg65⟩
instance : HasI Tryd.prog 65 1 8 := ⟨by kernel_rfl⟩
instance : HasZ Tryd.prog 65 (.nilFunc) := ⟨Tryd.zeroValue65⟩
instance : HasU Tryd.prog 66 (.pointer 79) := ⟨Tryd.underlying66⟩
instance : IsAgg Tryd.prog 66 false := ⟨Tryd.isAgg66⟩
instance : HasI Tryd.prog 66 1 8 := ⟨by kernel_rfl⟩
instance : HasZ Tryd.prog 66 (.pointer none) := ⟨Tryd.zeroValue66⟩
instance : IsAgg Tryd.prog 67 false := ⟨Tryd.isAgg67⟩
instance : HasI Tryd.prog 67 1 8 := ⟨by kernel_rfl⟩
instance : HasZ Tryd.prog 67 (.nilFunc) := ⟨Tryd.zeroValue67⟩
instance : IsAgg Tryd.prog 68 false := ⟨Tryd.isAgg68⟩
instance : HasI Tryd.prog 68 1 8 := ⟨by kernel_rfl⟩
instance : HasZ Tryd.prog 68 (.nilFunc) := ⟨Tryd.zeroValue68⟩
instance : IsAgg Tryd.prog 69 false := ⟨Tryd.isAgg69⟩
instance : HasI Tryd.prog 69 1 8 := ⟨by kernel_rfl⟩
instance : HasZ Tryd.prog 69 (.nilFunc) := ⟨Tryd.zeroValue69⟩
instance : IsAgg Tryd.prog 70 false := ⟨Tryd.isAgg70⟩
instance : HasI Tryd.prog 70 1 8 := ⟨by kernel_rfl⟩
instance : HasZ Tryd.prog 70 (.nilFunc) := ⟨Tryd.zeroValue70⟩
instance : IsAgg Tryd.prog 71 false := ⟨Tryd.isAgg71⟩
instance : HasI Tryd.prog 71 1 8 := ⟨by kernel_rfl⟩
instance : HasZ Tryd.prog 71 (.nilFunc) := ⟨Tryd.zeroValue71⟩
instance : IsAgg Tryd.prog 72 false := ⟨Tryd.isAgg72⟩
instance : HasI Tryd.prog 72 1 8 := ⟨by kernel_rfl⟩
instance : HasZ Tryd.prog 72 (.nilFunc) := ⟨Tryd.zeroValue72⟩
instance : IsAgg Tryd.prog 73 false := ⟨Tryd.isAgg73⟩
instance : HasI Tryd.prog 73 1 8 := ⟨by kernel_rfl⟩
instance : HasZ Tryd.prog 73 (.nilFunc) := ⟨Tryd.zeroValue73⟩
instance : IsAgg Tryd.prog 74 false := ⟨Tryd.isAgg74⟩
instance : HasI Tryd.prog 74 1 8 := ⟨by kernel_rfl⟩
instance : HasZ Tryd.prog 74 (.nilFunc) := ⟨Tryd.zeroValue74⟩
instance : HasU Tryd.prog 75 (.array 8 60) := ⟨Tryd.underlying75⟩
instance : IsAgg Tryd.prog 75 true := ⟨Tryd.isAgg75⟩
instance : HasI Tryd.prog 75 8 32 := ⟨by kernel_rfl⟩
instance : HasZI Tryd.prog 75 .u32 8 := ⟨fun _ => by kernel_rfl⟩
instance : IsAgg Tryd.prog 76 false := ⟨Tryd.isAgg76⟩
instance : HasI Tryd.prog 76 1 8 := ⟨by kernel_rfl⟩
instance : HasZ Tryd.prog 76 (.nilFunc) := ⟨Tryd.zeroValue76⟩
instance : HasU Tryd.prog 77 (.array 64 5) := ⟨Tryd.underlying77⟩
instance : IsAgg Tryd.prog 77 true := ⟨Tryd.isAgg77⟩
instance : HasI Tryd.prog 77 64 64 := ⟨by kernel_rfl⟩
instance : HasZI Tryd.prog 77 .u8 64 := ⟨fun _ => by kernel_rfl⟩
instance : IsAgg Tryd.prog 78 true := ⟨Tryd.isAgg78⟩
instance : HasI Tryd.prog 78 73 104 := ⟨by kernel_rfl⟩
instance : HasZ Tryd.prog 78 (.agg ((List.replicate 8 0).map (Value.int .u32) ++ ((List.replicate 64 0).map (Value.int .u8) ++ ([.int .i64 0])) : List Value).toArray) := ⟨fun _ => by kernel_rfl⟩
instance : HasF Tryd.prog 78 0 0 := ⟨fun a w => fieldAt_of 0 75 0 8 Tryd.underlying78 rfl (HasI.size (P := Tryd.prog) (E := 75) (s := 8) (by_ := 32) inferInstance) (by decide) a w⟩
instance : HasF Tryd.prog 78 1 8 := ⟨fun a w => fieldAt_of 1 77 8 64 Tryd.underlying78 rfl (HasI.size (P := Tryd.prog) (E := 77) (s := 64) (by_ := 64) inferInstance) (by decide) a w⟩
instance : HasF Tryd.prog 78 2 72 := ⟨fun a w => fieldAt_of 2 3 72 1 Tryd.underlying78 rfl (HasI.size (P := Tryd.prog) (E := 3) (s := 1) (by_ := 8) inferInstance) (by decide) a w⟩
instance : IsAgg Tryd.prog 79 true := ⟨Tryd.isAgg79⟩
instance : HasI Tryd.prog 79 73 104 := ⟨by kernel_rfl⟩
instance : HasZ Tryd.prog 79 (.agg ((List.replicate 8 0).map (Value.int .u32) ++ ((List.replicate 64 0).map (Value.int .u8) ++ ([.int .i64 0])) : List Value).toArray) := ⟨fun _ => by kernel_rfl⟩
instance : HasF Tryd.prog 79 0 0 := ⟨fun a w => fieldAt_of 0 75 0 8 Tryd.underlying79 rfl (HasI.size (P := Tryd.prog) (E := 75) (s := 8) (by_ := 32) inferInstance) (by decide) a w⟩
instance : HasF Tryd.prog 79 1 8 := ⟨fun a w => fieldAt_of 1 77 8 64 Tryd.underlying79 rfl (HasI.size (P := Tryd.prog) (E := 77) (s := 64) (by_ := 64) inferInstance) (by decide) a w⟩
instance : HasF Tryd.prog 79 2 72 := ⟨fun a w => fieldAt_of 2 3 72 1 Tryd.underlying79 rfl (HasI.size (P := Tryd.prog) (E := 3) (s := 1) (by_ := 8) inferInstance) (by decide) a w⟩
instance : HasU Tryd.prog 80 (.array 72 5) := ⟨Tryd.underlying80⟩
instance : IsAgg Tryd.prog 80 true := ⟨Tryd.isAgg80⟩
instance : HasI Tryd.prog 80 72 72 := ⟨by kernel_rfl⟩
instance : HasZI Tryd.prog 80 .u8 72 := ⟨fun _ => by kernel_rfl⟩
instance : IsAgg Tryd.prog 81 false := ⟨Tryd.isAgg81⟩
instance : HasI Tryd.prog 81 1 8 := ⟨by kernel_rfl⟩
instance : HasZ Tryd.prog 81 (.nilFunc) := ⟨Tryd.zeroValue81⟩
instance : HasU Tryd.prog 82 (.array 32 5) := ⟨Tryd.underlying82⟩
instance : IsAgg Tryd.prog 82 true := ⟨Tryd.isAgg82⟩
instance : HasI Tryd.prog 82 32 32 := ⟨by kernel_rfl⟩
instance : HasZI Tryd.prog 82 .u8 32 := ⟨fun _ => by kernel_rfl⟩
instance : HasU Tryd.prog 83 (.pointer 75) := ⟨Tryd.underlying83⟩
instance : IsAgg Tryd.prog 83 false := ⟨Tryd.isAgg83⟩
instance : HasI Tryd.prog 83 1 8 := ⟨by kernel_rfl⟩
instance : HasZ Tryd.prog 83 (.pointer none) := ⟨Tryd.zeroValue83⟩
instance : IsAgg Tryd.prog 84 false := ⟨Tryd.isAgg84⟩
instance : HasI Tryd.prog 84 1 8 := ⟨by kernel_rfl⟩
instance : HasZ Tryd.prog 84 (.nilFunc) := ⟨Tryd.zeroValue84⟩
instance : IsAgg Tryd.prog 85 false := ⟨Tryd.isAgg85⟩
instance : HasI Tryd.prog 85 1 8 := ⟨by kernel_rfl⟩
instance : HasZ Tryd.prog 85 (.nilFunc) := ⟨Tryd.zeroValue85⟩
instance : IsAgg Tryd.prog 86 true := ⟨Tryd.isAgg86⟩
instance : HasI Tryd.prog 86 4 40 := ⟨by kernel_rfl⟩
instance : HasZ Tryd.prog 86 (.agg ([.pointer none, .pointer none, .pointer none, .string ⟨#[]⟩] : List Value).toArray) := ⟨fun _ => by kernel_rfl⟩
instance : HasF Tryd.prog 86 0 0 := ⟨fun a w => fieldAt_of 0 17 0 1 Tryd.underlying86 rfl (HasI.size (P := Tryd.prog) (E := 17) (s := 1) (by_ := 8) inferInstance) (by decide) a w⟩
instance : HasF Tryd.prog 86 1 1 := ⟨fun a w => fieldAt_of 1 17 1 1 Tryd.underlying86 rfl (HasI.size (P := Tryd.prog) (E := 17) (s := 1) (by_ := 8) inferInstance) (by decide) a w⟩
instance : HasF Tryd.prog 86 2 2 := ⟨fun a w => fieldAt_of 2 17 2 1 Tryd.underlying86 rfl (HasI.size (P := Tryd.prog) (E := 17) (s := 1) (by_ := 8) inferInstance) (by decide) a w⟩
instance : HasF Tryd.prog 86 3 3 := ⟨fun a w => fieldAt_of 3 9 3 1 Tryd.underlying86 rfl (HasI.size (P := Tryd.prog) (E := 9) (s := 1) (by_ := 16) inferInstance) (by decide) a w⟩
instance : IsAgg Tryd.prog 87 true := ⟨Tryd.isAgg87⟩
instance : HasI Tryd.prog 87 4 40 := ⟨by kernel_rfl⟩
instance : HasZ Tryd.prog 87 (.agg ([.pointer none, .pointer none, .pointer none, .string ⟨#[]⟩] : List Value).toArray) := ⟨fun _ => by kernel_rfl⟩
instance : HasF Tryd.prog 87 0 0 := ⟨fun a w => fieldAt_of 0 17 0 1 Tryd.underlying87 rfl (HasI.size (P := Tryd.prog) (E := 17) (s := 1) (by_ := 8) inferInstance) (by decide) a w⟩
instance : HasF Tryd.prog 87 1 1 := ⟨fun a w => fieldAt_of 1 17 1 1 Tryd.underlying87 rfl (HasI.size (P := Tryd.prog) (E := 17) (s := 1) (by_ := 8) inferInstance) (by decide) a w⟩
instance : HasF Tryd.prog 87 2 2 := ⟨fun a w => fieldAt_of 2 17 2 1 Tryd.underlying87 rfl (HasI.size (P := Tryd.prog) (E := 17) (s := 1) (by_ := 8) inferInstance) (by decide) a w⟩
instance : HasF Tryd.prog 87 3 3 := ⟨fun a w => fieldAt_of 3 9 3 1 Tryd.underlying87 rfl (HasI.size (P := Tryd.prog) (E := 9) (s := 1) (by_ := 16) inferInstance) (by decide) a w⟩
instance : HasU Tryd.prog 88 (.array 0 16) := ⟨Tryd.underlying88⟩
instance : IsAgg Tryd.prog 88 true := ⟨Tryd.isAgg88⟩
instance : HasI Tryd.prog 88 0 0 := ⟨by kernel_rfl⟩
instance : HasZ Tryd.prog 88 (.agg ([] : List Value).toArray) := ⟨fun _ => by kernel_rfl⟩
instance : IsAgg Tryd.prog 89 true := ⟨Tryd.isAgg89⟩
instance : HasI Tryd.prog 89 0 0 := ⟨by kernel_rfl⟩
instance : HasZ Tryd.prog 89 (.agg ([] : List Value).toArray) := ⟨fun _ => by kernel_rfl⟩
instance : IsAgg Tryd.prog 90 true := ⟨Tryd.isAgg90⟩
instance : HasI Tryd.prog 90 0 0 := ⟨by kernel_rfl⟩
instance : HasZ Tryd.prog 90 (.agg ([] : List Value).toArray) := ⟨fun _ => by kernel_rfl⟩
instance : HasU Tryd.prog 91 (.int .u8) := ⟨Tryd.underlying91⟩
instance : IsAgg Tryd.prog 91 false := ⟨Tryd.isAgg91⟩
instance : HasI Tryd.prog 91 1 1 := ⟨by kernel_rfl⟩
instance : HasZ Tryd.prog 91 (.int .u8 0) := ⟨Tryd.zeroValue91⟩
instance : HasU Tryd.prog 92 (.int .u8) := ⟨Tryd.underlying92⟩
instance : IsAgg Tryd.prog 92 false := ⟨Tryd.isAgg92⟩
instance : HasI Tryd.prog 92 1 1 := ⟨by kernel_rfl⟩
instance : HasZ Tryd.prog 92 (.int .u8 0) := ⟨Tryd.zeroValue92⟩
instance : IsAgg Tryd.prog 93 false := ⟨Tryd.isAgg93⟩
instance : HasI Tryd.prog 93 1 8 := ⟨by kernel_rfl⟩
instance : HasZ Tryd.prog 93 (.nilFunc) := ⟨Tryd.zeroValue93⟩
instance : HasU Tryd.prog 94 (.pointer 5) := ⟨Tryd.underlying94⟩
instance : IsAgg Tryd.prog 94 false := ⟨Tryd.isAgg94⟩
instance : HasI Tryd.prog 94 1 8 := ⟨by kernel_rfl⟩
instance : HasZ Tryd.prog 94 (.pointer none) := ⟨Tryd.zeroValue94⟩
instance : HasU Tryd.prog 95 (.int .i32) := ⟨Tryd.underlying95⟩
instance : IsAgg Tryd.prog 95 false := ⟨Tryd.isAgg95⟩
instance : HasI Tryd.prog 95 1 4 := ⟨by kernel_rfl⟩
instance : HasZ Tryd.prog 95 (.int .i32 0) := ⟨Tryd.zeroValue95⟩
instance : HasU Tryd.prog 96 (.int .i32) := ⟨Tryd.underlying96⟩
instance : IsAgg Tryd.prog 96 false := ⟨Tryd.isAgg96⟩
instance : HasI Tryd.prog 96 1 4 := ⟨by kernel_rfl⟩
instance : HasZ Tryd.prog 96 (.int .i32 0) := ⟨Tryd.zeroValue96⟩
instance : IsAgg Tryd.prog 97 true := ⟨Tryd.isAgg97⟩
instance : HasI Tryd.prog 97 11 48 := ⟨by kernel_rfl⟩
instance : HasZ Tryd.prog 97 (.agg ([.int .u64 0, .int .u64 0, .int .u32 0, .int .u8 0, .int .u8 0, .int .u8 0, .int .u8 0, .nilFunc, .pointer none, .int .i32 0, .int .i32 0] : List Value).toArray) := ⟨fun _ => by kernel_rfl⟩
instance : HasF Tryd.prog 97 0 0 := ⟨fun a w => fieldAt_of 0 12 0 1 Tryd.underlying97 rfl (HasI.size (P := Tryd.prog) (E := 12) (s := 1) (by_ := 8) inferInstance) (by decide) a w⟩
instance : HasF Tryd.prog 97 1 1 := ⟨fun a w => fieldAt_of 1 12 1 1 Tryd.underlying97 rfl (HasI.size (P := Tryd.prog) (E := 12) (s := 1) (by_ := 8) inferInstance) (by decide) a w⟩
instance : HasF Tryd.prog 97 2 2 := ⟨fun a w => fieldAt_of 2 60 2 1 Tryd.underlying97 rfl (HasI.size (P := Tryd.prog) (E := 60) (s := 1) (by_ := 4) inferInstance) (by decide) a w⟩
instance : HasF Tryd.prog 97 3 3 := ⟨fun a w => fieldAt_of 3 91 3 1 Tryd.underlying97 rfl (HasI.size (P := Tryd.prog) (E := 91) (s := 1) (by_ := 1) inferInstance) (by decide) a w⟩
instance : HasF Tryd.prog 97 4 4 := ⟨fun a w => fieldAt_of 4 5 4 1 Tryd.underlying97 rfl (HasI.size (P := Tryd.prog) (E := 5) (s := 1) (by_ := 1) inferInstance) (by decide) a w⟩
instance : HasF Tryd.prog 97 5 5 := ⟨fun a w => fieldAt_of 5 5 5 1 Tryd.underlying97 rfl (HasI.size (P := Tryd.prog) (E := 5) (s := 1) (by_ := 1) inferInstance) (by decide) a w⟩
instance : HasF Tryd.prog 97 6 6 := ⟨fun a w => fieldAt_of 6 92 6 1 Tryd.underlying97 rfl (HasI.size (P := Tryd.prog) (E := 92) (s := 1) (by_ := 1) inferInstance) (by decide) a w⟩
instance : HasF Tryd.prog 97 7 7 := ⟨fun a w => fieldAt_of 7 93 7 1 Tryd.underlying97 rfl (HasI.size (P := Tryd.prog) (E := 93) (s := 1) (by_ := 8) inferInstance) (by decide) a w⟩
instance : HasF Tryd.prog 97 8 8 := ⟨fun a w => fieldAt_of 8 94 8 1 Tryd.underlying97 rfl (HasI.size (P := Tryd.prog) (E := 94) (s := 1) (by_ := 8) inferInstance) (by decide) a w⟩
instance : HasF Tryd.prog 97 9 9 := ⟨fun a w => fieldAt_of 9 95 9 1 Tryd.underlying97 rfl (HasI.size (P := Tryd.prog) (E := 95) (s := 1) (by_ := 4) inferInstance) (by decide) a w⟩
instance : HasF Tryd.prog 97 10 10 := ⟨fun a w => fieldAt_of 10 96 10 1 Tryd.underlying97 rfl (HasI.size (P := Tryd.prog) (E := 96) (s := 1) (by_ := 4) inferInstance) (by decide) a w⟩
instance : IsAgg Tryd.prog 98 true := ⟨Tryd.isAgg98⟩
instance : HasI Tryd.prog 98 11 48 := ⟨by kernel_rfl⟩
instance : HasZ Tryd.prog 98 (.agg ([.int .u64 0, .int .u64 0, .int .u32 0, .int .u8 0, .int .u8 0, .int .u8 0, .int .u8 0, .nilFunc, .pointer none, .int .i32 0, .int .i32 0] : List Value).toArray) := ⟨fun _ => by kernel_rfl⟩
instance : HasF Tryd.prog 98 0 0 := ⟨fun a w => fieldAt_of 0 12 0 1 Tryd.underlying98 rfl (HasI.size (P := Tryd.prog) (E := 12) (s := 1) (by_ := 8) inferInstance) (by decide) a w⟩
instance : HasF Tryd.prog 98 1 1 := ⟨fun a w => fieldAt_of 1 12 1 1 Tryd.underlying98 rfl (HasI.size (P := Tryd.prog) (E := 12) (s := 1) (by_ := 8) inferInstance) (by decide) a w⟩
instance : HasF Tryd.prog 98 2 2 := ⟨fun a w => fieldAt_of 2 60 2 1 Tryd.underlying98 rfl (HasI.size (P := Tryd.prog) (E := 60) (s := 1) (by_ := 4) inferInstance) (by decide) a w⟩
instance : HasF Tryd.prog 98 3 3 := ⟨fun a w => fieldAt_of 3 91 3 1 Tryd.underlying98 rfl (HasI.size (P := Tryd.prog) (E := 91) (s := 1) (by_ := 1) inferInstance) (by decide) a w⟩
instance : HasF Tryd.prog 98 4 4 := ⟨fun a w => fieldAt_of 4 5 4 1 Tryd.underlying98 rfl (HasI.size (P := Tryd.prog) (E := 5) (s := 1) (by_ := 1) inferInstance) (by decide) a w⟩
instance : HasF Tryd.prog 98 5 5 := ⟨fun a w => fieldAt_of 5 5 5 1 Tryd.underlying98 rfl (HasI.size (P := Tryd.prog) (E := 5) (s := 1) (by_ := 1) inferInstance) (by decide) a w⟩
instance : HasF Tryd.prog 98 6 6 := ⟨fun a w => fieldAt_of 6 92 6 1 Tryd.underlying98 rfl (HasI.size (P := Tryd.prog) (E := 92) (s := 1) (by_ := 1) inferInstance) (by decide) a w⟩
instance : HasF Tryd.prog 98 7 7 := ⟨fun a w => fieldAt_of 7 93 7 1 Tryd.underlying98 rfl (HasI.size (P := Tryd.prog) (E := 93) (s := 1) (by_ := 8) inferInstance) (by decide) a w⟩
instance : HasF Tryd.prog 98 8 8 := ⟨fun a w => fieldAt_of 8 94 8 1 Tryd.underlying98 rfl (HasI.size (P := Tryd.prog) (E := 94) (s := 1) (by_ := 8) inferInstance) (by decide) a w⟩
instance : HasF Tryd.prog 98 9 9 := ⟨fun a w => fieldAt_of 9 95 9 1 Tryd.underlying98 rfl (HasI.size (P := Tryd.prog) (E := 95) (s := 1) (by_ := 4) inferInstance) (by decide) a w⟩
instance : HasF Tryd.prog 98 10 10 := ⟨fun a w => fieldAt_of 10 96 10 1 Tryd.underlying98 rfl (HasI.size (P := Tryd.prog) (E := 96) (s := 1) (by_ := 4) inferInstance) (by decide) a w⟩
instance : IsAgg Tryd.prog 99 false := ⟨Tryd.isAgg99⟩
instance : HasI Tryd.prog 99 1 8 := ⟨by kernel_rfl⟩
instance : HasZ Tryd.prog 99 (.pointer none) := ⟨Tryd.zeroValue99⟩
instance : HasFn Tryd.prog 2 := ⟨Tryd.call2⟩
instance : HasFn Tryd.prog 3 := ⟨Tryd.call3⟩
instance : HasFn Tryd.prog 4 := ⟨Tryd.call4⟩
instance : HasFn Tryd.prog 5 := ⟨Tryd.call5⟩
instance : HasFn Tryd.prog 6 := ⟨Tryd.call6⟩
instance : HasFn Tryd.prog 7 := ⟨Tryd.call7⟩
instance : HasFn Tryd.prog 8 := ⟨Tryd.call8⟩
instance : HasFn Tryd.prog 9 := ⟨Tryd.call9⟩
instance : HasFn Tryd.prog 10 := ⟨Tryd.call10⟩
instance : HasFn Tryd.prog 11 := ⟨Tryd.call11⟩
instance : HasFn Tryd.prog 12 := ⟨Tryd.call12⟩
instance : HasFn Tryd.prog 13 := ⟨Tryd.call13⟩
instance : HasFn Tryd.prog 14 := ⟨Tryd.call14⟩
instance : HasFn Tryd.prog 15 := ⟨Tryd.call15⟩
instance : HasFn Tryd.prog 16 := ⟨Tryd.call16⟩
instance : HasFn Tryd.prog 17 := ⟨Tryd.call17⟩
instance : HasFn Tryd.prog 18 := ⟨Tryd.call18⟩
instance : HasFn Tryd.prog 19 := ⟨Tryd.call19⟩
instance : HasFn Tryd.prog 20 := ⟨Tryd.call20⟩
instance : HasFn Tryd.prog 21 := ⟨Tryd.call21⟩
instance : HasFn Tryd.prog 22 := ⟨Tryd.call22⟩
instance : HasFn Tryd.prog 23 := ⟨Tryd.call23⟩
instance : HasFn Tryd.prog 24 := ⟨Tryd.call24⟩
instance : HasFn Tryd.prog 25 := ⟨Tryd.call25⟩
instance : HasFn Tryd.prog 26 := ⟨Tryd.call26⟩
instance : HasFn Tryd.prog 27 := ⟨Tryd.call27⟩
instance : HasFn Tryd.prog 28 := ⟨Tryd.call28⟩
instance : HasFn Tryd.prog 29 := ⟨Tryd.call29⟩
instance : HasFn Tryd.prog 30 := ⟨Tryd.call30⟩
instance : HasFn Tryd.prog 31 := ⟨Tryd.call31⟩
instance : HasFn Tryd.prog 32 := ⟨Tryd.call32⟩
instance : HasFn Tryd.prog 33 := ⟨Tryd.call33⟩
instance : HasFn Tryd.prog 34 := ⟨Tryd.call34⟩
instance : HasFn Tryd.prog 35 := ⟨Tryd.call35⟩
instance : HasFn Tryd.prog 36 := ⟨Tryd.call36⟩
instance : HasFn Tryd.prog 37 := ⟨Tryd.call37⟩
instance : HasFn Tryd.prog 38 := ⟨Tryd.call38⟩
instance : HasFn Tryd.prog 39 := ⟨Tryd.call39⟩
instance : HasFn Tryd.prog 40 := ⟨Tryd.call40⟩
instance : HasFn Tryd.prog 41 := ⟨Tryd.call41⟩
instance : HasFn Tryd.prog 42 := ⟨Tryd.call42⟩
instance : HasFn Tryd.prog 43 := ⟨Tryd.call43⟩
instance : HasFn Tryd.prog 44 := ⟨Tryd.call44⟩
instance : HasFn Tryd.prog 45 := ⟨Tryd.call45⟩
instance : HasFn Tryd.prog 46 := ⟨Tryd.call46⟩
instance : HasFn Tryd.prog 47 := ⟨Tryd.call47⟩
instance : HasFn Tryd.prog 48 := ⟨Tryd.call48⟩
instance : HasFn Tryd.prog 49 := ⟨Tryd.call49⟩
instance : HasFn Tryd.prog 50 := ⟨Tryd.call50⟩
instance : HasFn Tryd.prog 51 := ⟨Tryd.call51⟩
instance : HasFn Tryd.prog 52 := ⟨Tryd.call52⟩
instance : HasFn Tryd.prog 53 := ⟨Tryd.call53⟩
instance : HasFn Tryd.prog 54 := ⟨Tryd.call54⟩
instance : HasFn Tryd.prog 55 := ⟨Tryd.call55⟩
instance : HasFn Tryd.prog 56 := ⟨Tryd.call56⟩
instance : HasFn Tryd.prog 57 := ⟨Tryd.call57⟩
instance : HasFn Tryd.prog 58 := ⟨Tryd.call58⟩
instance : HasFn Tryd.prog 59 := ⟨Tryd.call59⟩
instance : HasFn Tryd.prog 60 := ⟨Tryd.call60⟩
instance : HasFn Tryd.prog 61 := ⟨Tryd.call61⟩
instance : HasFn Tryd.prog 84 := ⟨Tryd.call84⟩
end Go.Proofs.YtgnhpkdhicfeiaaDoor.MX
