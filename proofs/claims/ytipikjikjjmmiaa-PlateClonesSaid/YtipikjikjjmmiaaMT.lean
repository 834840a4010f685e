/- What the seat's types and functions are, as instances. -/
import Derived.Test.YtipikjikjjmmiaaProg
import Derived.Test.YtipikjikjjmmiaaMXM
namespace Go.Proofs.Ytipikjikjjmmiaa.MX
open Go Go.RowKit
instance : IsAgg Try.prog 1 false := ⟨Try.isAgg1⟩
instance : HasI Try.prog 1 1 8 := ⟨by kernel_rfl⟩
instance : HasZ Try.prog 1 (.nilFunc) := ⟨Try.zeroValue1⟩
instance : HasU Try.prog 2 (.int .i64) := ⟨Try.underlying2⟩
instance : IsAgg Try.prog 2 false := ⟨Try.isAgg2⟩
instance : HasI Try.prog 2 1 8 := ⟨by kernel_rfl⟩
instance : HasZ Try.prog 2 (.int .i64 0) := ⟨Try.zeroValue2⟩
instance : HasU Try.prog 3 (.int .i64) := ⟨Try.underlying3⟩
instance : IsAgg Try.prog 3 false := ⟨Try.isAgg3⟩
instance : HasI Try.prog 3 1 8 := ⟨by kernel_rfl⟩
instance : HasZ Try.prog 3 (.int .i64 0) := ⟨Try.zeroValue3⟩
instance : HasU Try.prog 4 .bool := ⟨Try.underlying4⟩
instance : IsAgg Try.prog 4 false := ⟨Try.isAgg4⟩
instance : HasI Try.prog 4 1 1 := ⟨by kernel_rfl⟩
instance : HasZ Try.prog 4 (.bool false) := ⟨Try.zeroValue4⟩
instance : HasU Try.prog 5 (.int .u8) := ⟨Try.underlying5⟩
instance : IsAgg Try.prog 5 false := ⟨Try.isAgg5⟩
instance : HasI Try.prog 5 1 1 := ⟨by kernel_rfl⟩
instance : HasZ Try.prog 5 (.int .u8 0) := ⟨Try.zeroValue5⟩
instance : HasU Try.prog 6 (.int .u8) := ⟨Try.underlying6⟩
instance : IsAgg Try.prog 6 false := ⟨Try.isAgg6⟩
instance : HasI Try.prog 6 1 1 := ⟨by kernel_rfl⟩
instance : HasZ Try.prog 6 (.int .u8 0) := ⟨Try.zeroValue6⟩
instance : IsAgg Try.prog 7 true := ⟨Try.isAgg7⟩
instance : HasI Try.prog 7 4 24 := ⟨by kernel_rfl⟩
instance : HasZ Try.prog 7 (.agg ([.int .i64 0, .int .i64 0, .bool false, .int .u8 0] : List Value).toArray) := ⟨fun _ => by kernel_rfl⟩
instance : HasF Try.prog 7 0 0 := ⟨fun a w => fieldAt_of 0 2 0 1 Try.underlying7 rfl (HasI.size (P := Try.prog) (E := 2) (s := 1) (by_ := 8) inferInstance) (by decide) a w⟩
instance : HasF Try.prog 7 1 1 := ⟨fun a w => fieldAt_of 1 3 1 1 Try.underlying7 rfl (HasI.size (P := Try.prog) (E := 3) (s := 1) (by_ := 8) inferInstance) (by decide) a w⟩
instance : HasF Try.prog 7 2 2 := ⟨fun a w => fieldAt_of 2 4 2 1 Try.underlying7 rfl (HasI.size (P := Try.prog) (E := 4) (s := 1) (by_ := 1) inferInstance) (by decide) a w⟩
instance : HasF Try.prog 7 3 3 := ⟨fun a w => fieldAt_of 3 6 3 1 Try.underlying7 rfl (HasI.size (P := Try.prog) (E := 6) (s := 1) (by_ := 1) inferInstance) (by decide) a w⟩
instance : IsAgg Try.prog 8 true := ⟨Try.isAgg8⟩
instance : HasI Try.prog 8 4 24 := ⟨by kernel_rfl⟩
instance : HasZ Try.prog 8 (.agg ([.int .i64 0, .int .i64 0, .bool false, .int .u8 0] : List Value).toArray) := ⟨fun _ => by kernel_rfl⟩
instance : HasF Try.prog 8 0 0 := ⟨fun a w => fieldAt_of 0 2 0 1 Try.underlying8 rfl (HasI.size (P := Try.prog) (E := 2) (s := 1) (by_ := 8) inferInstance) (by decide) a w⟩
instance : HasF Try.prog 8 1 1 := ⟨fun a w => fieldAt_of 1 3 1 1 Try.underlying8 rfl (HasI.size (P := Try.prog) (E := 3) (s := 1) (by_ := 8) inferInstance) (by decide) a w⟩
instance : HasF Try.prog 8 2 2 := ⟨fun a w => fieldAt_of 2 4 2 1 Try.underlying8 rfl (HasI.size (P := Try.prog) (E := 4) (s := 1) (by_ := 1) inferInstance) (by decide) a w⟩
instance : HasF Try.prog 8 3 3 := ⟨fun a w => fieldAt_of 3 6 3 1 Try.underlying8 rfl (HasI.size (P := Try.prog) (E := 6) (s := 1) (by_ := 1) inferInstance) (by decide) a w⟩
instance : HasU Try.prog 9 .string := ⟨Try.underlying9⟩
instance : IsAgg Try.prog 9 false := ⟨Try.isAgg9⟩
instance : HasI Try.prog 9 1 16 := ⟨by kernel_rfl⟩
instance : HasZ Try.prog 9 (.string ⟨#[]⟩) := ⟨Try.zeroValue9⟩
instance : HasU Try.prog 10 .string := ⟨Try.underlying10⟩
instance : IsAgg Try.prog 10 false := ⟨Try.isAgg10⟩
instance : HasI Try.prog 10 1 16 := ⟨by kernel_rfl⟩
instance : HasZ Try.prog 10 (.string ⟨#[]⟩) := ⟨Try.zeroValue10⟩
instance : HasU Try.prog 11 .string := ⟨Try.underlying11⟩
instance : IsAgg Try.prog 11 false := ⟨Try.isAgg11⟩
instance : HasI Try.prog 11 1 16 := ⟨by kernel_rfl⟩
instance : HasZ Try.prog 11 (.string ⟨#[]⟩) := ⟨Try.zeroValue11⟩
instance : HasU Try.prog 12 (.int .u64) := ⟨Try.underlying12⟩
instance : IsAgg Try.prog 12 false := ⟨Try.isAgg12⟩
instance : HasI Try.prog 12 1 8 := ⟨by kernel_rfl⟩
instance : HasZ Try.prog 12 (.int .u64 0) := ⟨Try.zeroValue12⟩
instance : IsAgg Try.prog 13 true := ⟨Try.isAgg13⟩
instance : HasI Try.prog 13 2 24 := ⟨by kernel_rfl⟩
instance : HasZ Try.prog 13 (.agg ([.string ⟨#[]⟩, .int .u64 0] : List Value).toArray) := ⟨fun _ => by kernel_rfl⟩
instance : HasF Try.prog 13 0 0 := ⟨fun a w => fieldAt_of 0 9 0 1 Try.underlying13 rfl (HasI.size (P := Try.prog) (E := 9) (s := 1) (by_ := 16) inferInstance) (by decide) a w⟩
instance : HasF Try.prog 13 1 1 := ⟨fun a w => fieldAt_of 1 12 1 1 Try.underlying13 rfl (HasI.size (P := Try.prog) (E := 12) (s := 1) (by_ := 8) inferInstance) (by decide) a w⟩
instance : IsAgg Try.prog 14 true := ⟨Try.isAgg14⟩
instance : HasI Try.prog 14 2 24 := ⟨by kernel_rfl⟩
instance : HasZ Try.prog 14 (.agg ([.string ⟨#[]⟩, .int .u64 0] : List Value).toArray) := ⟨fun _ => by kernel_rfl⟩
instance : HasF Try.prog 14 0 0 := ⟨fun a w => fieldAt_of 0 9 0 1 Try.underlying14 rfl (HasI.size (P := Try.prog) (E := 9) (s := 1) (by_ := 16) inferInstance) (by decide) a w⟩
instance : HasF Try.prog 14 1 1 := ⟨fun a w => fieldAt_of 1 12 1 1 Try.underlying14 rfl (HasI.size (P := Try.prog) (E := 12) (s := 1) (by_ := 8) inferInstance) (by decide) a w⟩
instance : HasU Try.prog 15 (.pointer 72) := ⟨Try.underlying15⟩
instance : IsAgg Try.prog 15 false := ⟨Try.isAgg15⟩
instance : HasI Try.prog 15 1 8 := ⟨by kernel_rfl⟩
instance : HasZ Try.prog 15 (.pointer none) := ⟨Try.zeroValue15⟩
instance : HasU Try.prog 16 (.pointer 75) := ⟨Try.underlying16⟩
instance : IsAgg Try.prog 16 false := ⟨Try.isAgg16⟩
instance : HasI Try.prog 16 1 8 := ⟨by kernel_rfl⟩
instance : HasZ Try.prog 16 (.pointer none) := ⟨Try.zeroValue16⟩
instance : HasU Try.prog 17 (.pointer 84) := ⟨Try.underlying17⟩
instance : IsAgg Try.prog 17 false := ⟨Try.isAgg17⟩
instance : HasI Try.prog 17 1 8 := ⟨by kernel_rfl⟩
instance : HasZ Try.prog 17 (.pointer none) := ⟨Try.zeroValue17⟩
instance : IsAgg Try.prog 18 true := ⟨Try.isAgg18⟩
instance : HasI Try.prog 18 1 8 := ⟨by kernel_rfl⟩
instance : HasZ Try.prog 18 (.agg ([.pointer none] : List Value).toArray) := ⟨fun _ => by kernel_rfl⟩
instance : HasF Try.prog 18 0 0 := ⟨fun a w => fieldAt_of 0 17 0 1 Try.underlying18 rfl (HasI.size (P := Try.prog) (E := 17) (s := 1) (by_ := 8) inferInstance) (by decide) a w⟩
instance : IsAgg Try.prog 19 true := ⟨Try.isAgg19⟩
instance : HasI Try.prog 19 1 8 := ⟨by kernel_rfl⟩
instance : HasZ Try.prog 19 (.agg ([.pointer none] : List Value).toArray) := ⟨fun _ => by kernel_rfl⟩
instance : HasF Try.prog 19 0 0 := ⟨fun a w => fieldAt_of 0 17 0 1 Try.underlying19 rfl (HasI.size (P := Try.prog) (E := 17) (s := 1) (by_ := 8) inferInstance) (by decide) a w⟩
instance : IsAgg Try.prog 20 false := ⟨Try.isAgg20⟩
instance : HasI Try.prog 20 1 16 := ⟨by kernel_rfl⟩
instance : HasZ Try.prog 20 (.nilIface) := ⟨Try.zeroValue20⟩
instance : HasU Try.prog 21 (.int .i32) := ⟨Try.underlying21⟩
instance : IsAgg Try.prog 21 false := ⟨Try.isAgg21⟩
instance : HasI Try.prog 21 1 4 := ⟨by kernel_rfl⟩
instance : HasZ Try.prog 21 (.int .i32 0) := ⟨Try.zeroValue21⟩
instance : HasU Try.prog 22 (.slice 5) := ⟨Try.underlying22⟩
instance : IsAgg Try.prog 22 false := ⟨Try.isAgg22⟩
instance : HasI Try.prog 22 1 24 := ⟨by kernel_rfl⟩
instance : HasZ Try.prog 22 (.slice none 0 0) := ⟨Try.zeroValue22⟩
instance : HasU Try.prog 23 (.slice 4) := ⟨Try.underlying23⟩
instance : IsAgg Try.prog 23 false := ⟨Try.isAgg23⟩
instance : HasI Try.prog 23 1 24 := ⟨by kernel_rfl⟩
instance : HasZ Try.prog 23 (.slice none 0 0) := ⟨Try.zeroValue23⟩
instance : IsAgg Try.prog 24 false := ⟨Try.isAgg24⟩
instance : HasI Try.prog 24 1 8 := ⟨by kernel_rfl⟩
instance : HasZ Try.prog 24 (.nilFunc) := ⟨Try.zeroValue24⟩
instance : HasU Try.prog 25 (.pointer 60) := ⟨Try.underlying25⟩
instance : IsAgg Try.prog 25 false := ⟨Try.isAgg25⟩
instance : HasI Try.prog 25 1 8 := ⟨by kernel_rfl⟩
instance : HasZ Try.prog 25 (.pointer none) := ⟨Try.zeroValue25⟩
instance : IsAgg Try.prog 26 false := ⟨Try.isAgg26⟩
instance : HasI Try.prog 26 1 8 := ⟨by kernel_rfl⟩
instance : HasZ Try.prog 26 (.nilFunc) := ⟨Try.zeroValue26⟩
instance : HasU Try.prog 27 (.int .i64) := ⟨Try.underlying27⟩
instance : IsAgg Try.prog 27 false := ⟨Try.isAgg27⟩
instance : HasI Try.prog 27 1 8 := ⟨by kernel_rfl⟩
instance : HasZ Try.prog 27 (.int .i64 0) := ⟨Try.zeroValue27⟩
instance : IsAgg Try.prog 28 false := ⟨Try.isAgg28⟩
instance : HasI Try.prog 28 1 8 := ⟨by kernel_rfl⟩
instance : HasZ Try.prog 28 (.nilFunc) := ⟨Try.zeroValue28⟩
instance : IsAgg Try.prog 29 false := ⟨Try.isAgg29⟩
instance : HasI Try.prog 29 1 8 := ⟨by kernel_rfl⟩
instance : HasZ Try.prog 29 (.nilFunc) := ⟨Try.zeroValue29⟩
instance : IsAgg Try.prog 31 false := ⟨Try.isAgg31⟩
instance : HasI Try.prog 31 1 8 := ⟨by kernel_rfl⟩
instance : HasZ Try.prog 31 (.nilFunc) := ⟨Try.zeroValue31⟩
instance : IsAgg Try.prog 32 false := ⟨Try.isAgg32⟩
instance : HasI Try.prog 32 1 8 := ⟨by kernel_rfl⟩
instance : HasZ Try.prog 32 (.nilFunc) := ⟨Try.zeroValue32⟩
instance : IsAgg Try.prog 33 false := ⟨Try.isAgg33⟩
instance : HasI Try.prog 33 1 8 := ⟨by kernel_rfl⟩
instance : HasZ Try.prog 33 (.nilFunc) := ⟨Try.zeroValue33⟩
instance : IsAgg Try.prog 34 false := ⟨Try.isAgg34⟩
instance : HasI Try.prog 34 1 8 := ⟨by kernel_rfl⟩
instance : HasZ Try.prog 34 (.nilFunc) := ⟨Try.zeroValue34⟩
instance : HasU Try.prog 35 (.slice 41) := ⟨Try.underlying35⟩
instance : IsAgg Try.prog 35 false := ⟨Try.isAgg35⟩
instance : HasI Try.prog 35 1 24 := ⟨by kernel_rfl⟩
instance : HasZ Try.prog 35 (.slice none 0 0) := ⟨Try.zeroValue35⟩
instance : IsAgg Try.prog 36 false := ⟨Try.isAgg36⟩
instance : HasI Try.prog 36 1 8 := ⟨by kernel_rfl⟩
instance : HasZ Try.prog 36 (.nilFunc) := ⟨Try.zeroValue36⟩
instance : HasU Try.prog 37 (.pointer 47) := ⟨Try.underlying37⟩
instance : IsAgg Try.prog 37 false := ⟨Try.isAgg37⟩
instance : HasI Try.prog 37 1 8 := ⟨by kernel_rfl⟩
instance : HasZ Try.prog 37 (.pointer none) := ⟨Try.zeroValue37⟩
instance : IsAgg Try.prog 39 false := ⟨Try.isAgg39⟩
instance : HasI Try.prog 39 1 8 := ⟨by kernel_rfl⟩
instance : HasZ Try.prog 39 (.nilFunc) := ⟨Try.zeroValue39⟩
instance : IsAgg Try.prog 40 true := ⟨Try.isAgg40⟩
instance : HasI Try.prog 40 5 56 := ⟨by kernel_rfl⟩
instance : HasZ Try.prog 40 (.agg ([.int .i64 0, .int .i64 0, .int .i64 0, .int .u8 0, .slice none 0 0] : List Value).toArray) := ⟨fun _ => by kernel_rfl⟩
instance : HasF Try.prog 40 0 0 := ⟨fun a w => fieldAt_of 0 3 0 1 Try.underlying40 rfl (HasI.size (P := Try.prog) (E := 3) (s := 1) (by_ := 8) inferInstance) (by decide) a w⟩
instance : HasF Try.prog 40 1 1 := ⟨fun a w => fieldAt_of 1 3 1 1 Try.underlying40 rfl (HasI.size (P := Try.prog) (E := 3) (s := 1) (by_ := 8) inferInstance) (by decide) a w⟩
instance : HasF Try.prog 40 2 2 := ⟨fun a w => fieldAt_of 2 3 2 1 Try.underlying40 rfl (HasI.size (P := Try.prog) (E := 3) (s := 1) (by_ := 8) inferInstance) (by decide) a w⟩
instance : HasF Try.prog 40 3 3 := ⟨fun a w => fieldAt_of 3 5 3 1 Try.underlying40 rfl (HasI.size (P := Try.prog) (E := 5) (s := 1) (by_ := 1) inferInstance) (by decide) a w⟩
instance : HasF Try.prog 40 4 4 := ⟨fun a w => fieldAt_of 4 23 4 1 Try.underlying40 rfl (HasI.size (P := Try.prog) (E := 23) (s := 1) (by_ := 24) inferInstance) (by decide) a w⟩
instance : IsAgg Try.prog 41 true := ⟨Try.isAgg41⟩
instance : HasI Try.prog 41 5 56 := ⟨by kernel_rfl⟩
instance : HasZ Try.prog 41 (.agg ([.int .i64 0, .int .i64 0, .int .i64 0, .int .u8 0, .slice none 0 0] : List Value).toArray) := ⟨fun _ => by kernel_rfl⟩
instance : HasF Try.prog 41 0 0 := ⟨fun a w => fieldAt_of 0 3 0 1 Try.underlying41 rfl (HasI.size (P := Try.prog) (E := 3) (s := 1) (by_ := 8) inferInstance) (by decide) a w⟩
instance : HasF Try.prog 41 1 1 := ⟨fun a w => fieldAt_of 1 3 1 1 Try.underlying41 rfl (HasI.size (P := Try.prog) (E := 3) (s := 1) (by_ := 8) inferInstance) (by decide) a w⟩
instance : HasF Try.prog 41 2 2 := ⟨fun a w => fieldAt_of 2 3 2 1 Try.underlying41 rfl (HasI.size (P := Try.prog) (E := 3) (s := 1) (by_ := 8) inferInstance) (by decide) a w⟩
instance : HasF Try.prog 41 3 3 := ⟨fun a w => fieldAt_of 3 5 3 1 Try.underlying41 rfl (HasI.size (P := Try.prog) (E := 5) (s := 1) (by_ := 1) inferInstance) (by decide) a w⟩
instance : HasF Try.prog 41 4 4 := ⟨fun a w => fieldAt_of 4 23 4 1 Try.underlying41 rfl (HasI.size (P := Try.prog) (E := 23) (s := 1) (by_ := 24) inferInstance) (by decide) a w⟩
instance : IsAgg Try.prog 42 false := ⟨Try.isAgg42⟩
instance : HasI Try.prog 42 1 8 := ⟨by kernel_rfl⟩
instance : HasZ Try.prog 42 (.nilFunc) := ⟨Try.zeroValue42⟩
instance : IsAgg Try.prog 43 false := ⟨Try.isAgg43⟩
instance : HasI Try.prog 43 1 8 := ⟨by kernel_rfl⟩
instance : HasZ Try.prog 43 (.nilFunc) := ⟨Try.zeroValue43⟩
instance : HasU Try.prog 44 (.slice 22) := ⟨Try.underlying44⟩
instance : IsAgg Try.prog 44 false := ⟨Try.isAgg44⟩
instance : HasI Try.prog 44 1 24 := ⟨by kernel_rfl⟩
instance : HasZ Try.prog 44 (.slice none 0 0) := ⟨Try.zeroValue44⟩
instance : HasU Try.prog 45 (.slice 69) := ⟨Try.underlying45⟩
instance : IsAgg Try.prog 45 false := ⟨Try.isAgg45⟩
instance : HasI Try.prog 45 1 24 := ⟨by kernel_rfl⟩
instance : HasZ Try.prog 45 (.slice none 0 0) := ⟨Try.zeroValue45⟩
instance : IsAgg Try.prog 46 true := ⟨Try.isAgg46⟩
instance : HasI Try.prog 46 5 72 := ⟨by kernel_rfl⟩
instance : HasZ Try.prog 46 (.agg ([.int .i64 0, .slice none 0 0, .slice none 0 0, .int .i64 0, .bool false] : List Value).toArray) := ⟨fun _ => by kernel_rfl⟩
instance : HasF Try.prog 46 0 0 := ⟨fun a w => fieldAt_of 0 3 0 1 Try.underlying46 rfl (HasI.size (P := Try.prog) (E := 3) (s := 1) (by_ := 8) inferInstance) (by decide) a w⟩
instance : HasF Try.prog 46 1 1 := ⟨fun a w => fieldAt_of 1 44 1 1 Try.underlying46 rfl (HasI.size (P := Try.prog) (E := 44) (s := 1) (by_ := 24) inferInstance) (by decide) a w⟩
instance : HasF Try.prog 46 2 2 := ⟨fun a w => fieldAt_of 2 45 2 1 Try.underlying46 rfl (HasI.size (P := Try.prog) (E := 45) (s := 1) (by_ := 24) inferInstance) (by decide) a w⟩
instance : HasF Try.prog 46 3 3 := ⟨fun a w => fieldAt_of 3 3 3 1 Try.underlying46 rfl (HasI.size (P := Try.prog) (E := 3) (s := 1) (by_ := 8) inferInstance) (by decide) a w⟩
instance : HasF Try.prog 46 4 4 := ⟨fun a w => fieldAt_of 4 4 4 1 Try.underlying46 rfl (HasI.size (P := Try.prog) (E := 4) (s := 1) (by_ := 1) inferInstance) (by decide) a w⟩
instance : IsAgg Try.prog 47 true := ⟨Try.isAgg47⟩
instance : HasI Try.prog 47 5 72 := ⟨by kernel_rfl⟩
instance : HasZ Try.prog 47 (.agg ([.int .i64 0, .slice none 0 0, .slice none 0 0, .int .i64 0, .bool false] : List Value).toArray) := ⟨fun _ => by kernel_rfl⟩
instance : HasF Try.prog 47 0 0 := ⟨fun a w => fieldAt_of 0 3 0 1 Try.underlying47 rfl (HasI.size (P := Try.prog) (E := 3) (s := 1) (by_ := 8) inferInstance) (by decide) a w⟩
instance : HasF Try.prog 47 1 1 := ⟨fun a w => fieldAt_of 1 44 1 1 Try.underlying47 rfl (HasI.size (P := Try.prog) (E := 44) (s := 1) (by_ := 24) inferInstance) (by decide) a w⟩
instance : HasF Try.prog 47 2 2 := ⟨fun a w => fieldAt_of 2 45 2 1 Try.underlying47 rfl (HasI.size (P := Try.prog) (E := 45) (s := 1) (by_ := 24) inferInstance) (by decide) a w⟩
instance : HasF Try.prog 47 3 3 := ⟨fun a w => fieldAt_of 3 3 3 1 Try.underlying47 rfl (HasI.size (P := Try.prog) (E := 3) (s := 1) (by_ := 8) inferInstance) (by decide) a w⟩
instance : HasF Try.prog 47 4 4 := ⟨fun a w => fieldAt_of 4 4 4 1 Try.underlying47 rfl (HasI.size (P := Try.prog) (E := 4) (s := 1) (by_ := 1) inferInstance) (by decide) a w⟩
instance : IsAgg Try.prog 48 false := ⟨Try.isAgg48⟩
instance : HasI Try.prog 48 1 8 := ⟨by kernel_rfl⟩
instance : HasZ Try.prog 48 (.nilFunc) := ⟨Try.zeroValue48⟩
instance : IsAgg Try.prog 49 false := ⟨Try.isAgg49⟩
instance : HasI Try.prog 49 1 8 := ⟨by kernel_rfl⟩
instance : HasZ Try.prog 49 (.nilFunc) := ⟨Try.zeroValue49⟩
instance : IsAgg Try.prog 50 false := ⟨Try.isAgg50⟩
instance : HasI Try.prog 50 1 8 := ⟨by kernel_rfl⟩
instance : HasZ Try.prog 50 (.nilFunc) := ⟨Try.zeroValue50⟩
instance : IsAgg Try.prog 51 false := ⟨Try.isAgg51⟩
instance : HasI Try.prog 51 1 8 := ⟨by kernel_rfl⟩
instance : HasZ Try.prog 51 (.nilFunc) := ⟨Try.zeroValue51⟩
instance : IsAgg Try.prog 52 false := ⟨Try.isAgg52⟩
instance : HasI Try.prog 52 1 8 := ⟨by kernel_rfl⟩
instance : HasZ Try.prog 52 (.nilFunc) := ⟨Try.zeroValue52⟩
instance : IsAgg Try.prog 53 false := ⟨Try.isAgg53⟩
instance : HasI Try.prog 53 1 8 := ⟨by kernel_rfl⟩
instance : HasZ Try.prog 53 (.nilFunc) := ⟨Try.zeroValue53⟩
instance : IsAgg Try.prog 55 false := ⟨Try.isAgg55⟩
instance : HasI Try.prog 55 1 8 := ⟨by kernel_rfl⟩
instance : HasZ Try.prog 55 (.nilFunc) := ⟨Try.zeroValue55⟩
instance : IsAgg Try.prog 56 false := ⟨Try.isAgg56⟩
instance : HasI Try.prog 56 1 8 := ⟨by kernel_rfl⟩
instance : HasZ Try.prog 56 (.nilFunc) := ⟨Try.zeroValue56⟩
instance : HasU Try.prog 57 (.slice 62) := ⟨Try.underlying57⟩
instance : IsAgg Try.prog 57 false := ⟨Try.isAgg57⟩
instance : HasI Try.prog 57 1 24 := ⟨by kernel_rfl⟩
instance : HasZ Try.prog 57 (.slice none 0 0) := ⟨Try.zeroValue57⟩
instance : HasU Try.prog 58 (.slice 64) := ⟨Try.underlying58⟩
instance : IsAgg Try.prog 58 false := ⟨Try.isAgg58⟩
instance : HasI Try.prog 58 1 24 := ⟨by kernel_rfl⟩
instance : HasZ Try.prog 58 (.slice none 0 0) := ⟨Try.zeroValue58⟩
instance : IsAgg Try.prog 59 true := ⟨Try.isAgg59⟩
instance : HasI Try.prog 59 5 88 := ⟨by kernel_rfl⟩
instance : HasZ Try.prog 59 (.agg ([.slice none 0 0, .slice none 0 0, .slice none 0 0, .int .i64 0, .bool false] : List Value).toArray) := ⟨fun _ => by kernel_rfl⟩
instance : HasF Try.prog 59 0 0 := ⟨fun a w => fieldAt_of 0 57 0 1 Try.underlying59 rfl (HasI.size (P := Try.prog) (E := 57) (s := 1) (by_ := 24) inferInstance) (by decide) a w⟩
instance : HasF Try.prog 59 1 1 := ⟨fun a w => fieldAt_of 1 57 1 1 Try.underlying59 rfl (HasI.size (P := Try.prog) (E := 57) (s := 1) (by_ := 24) inferInstance) (by decide) a w⟩
instance : HasF Try.prog 59 2 2 := ⟨fun a w => fieldAt_of 2 58 2 1 Try.underlying59 rfl (HasI.size (P := Try.prog) (E := 58) (s := 1) (by_ := 24) inferInstance) (by decide) a w⟩
instance : HasF Try.prog 59 3 3 := ⟨fun a w => fieldAt_of 3 3 3 1 Try.underlying59 rfl (HasI.size (P := Try.prog) (E := 3) (s := 1) (by_ := 8) inferInstance) (by decide) a w⟩
instance : HasF Try.prog 59 4 4 := ⟨fun a w => fieldAt_of 4 4 4 1 Try.underlying59 rfl (HasI.size (P := Try.prog) (E := 4) (s := 1) (by_ := 1) inferInstance) (by decide) a w⟩
instance : IsAgg Try.prog 60 true := ⟨Try.isAgg60⟩
instance : HasI Try.prog 60 5 88 := ⟨by kernel_rfl⟩
instance : HasZ Try.prog 60 (.agg ([.slice none 0 0, .slice none 0 0, .slice none 0 0, .int .i64 0, .bool false] : List Value).toArray) := ⟨fun _ => by kernel_rfl⟩
instance : HasF Try.prog 60 0 0 := ⟨fun a w => fieldAt_of 0 57 0 1 Try.underlying60 rfl (HasI.size (P := Try.prog) (E := 57) (s := 1) (by_ := 24) inferInstance) (by decide) a w⟩
instance : HasF Try.prog 60 1 1 := ⟨fun a w => fieldAt_of 1 57 1 1 Try.underlying60 rfl (HasI.size (P := Try.prog) (E := 57) (s := 1) (by_ := 24) inferInstance) (by decide) a w⟩
instance : HasF Try.prog 60 2 2 := ⟨fun a w => fieldAt_of 2 58 2 1 Try.underlying60 rfl (HasI.size (P := Try.prog) (E := 58) (s := 1) (by_ := 24) inferInstance) (by decide) a w⟩
instance : HasF Try.prog 60 3 3 := ⟨fun a w => fieldAt_of 3 3 3 1 Try.underlying60 rfl (HasI.size (P := Try.prog) (E := 3) (s := 1) (by_ := 8) inferInstance) (by decide) a w⟩
instance : HasF Try.prog 60 4 4 := ⟨fun a w => fieldAt_of 4 4 4 1 Try.underlying60 rfl (HasI.size (P := Try.prog) (E := 4) (s := 1) (by_ := 1) inferInstance) (by decide) a w⟩
instance : IsAgg Try.prog 61 false := ⟨Try.isAgg61⟩
instance : HasI Try.prog 61 1 8 := ⟨by kernel_rfl⟩
instance : HasZ Try.prog 61 (.nilFunc) := ⟨Try.zeroValue61⟩
instance : HasU Try.prog 62 (.array 64 5) := ⟨Try.underlying62⟩
instance : IsAgg Try.prog 62 true := ⟨Try.isAgg62⟩
instance : HasI Try.prog 62 64 64 := ⟨by kernel_rfl⟩
instance : HasZI Try.prog 62 .u8 64 := ⟨fun _ => by kernel_rfl⟩
instance : IsAgg Try.prog 63 true := ⟨Try.isAgg63⟩
instance : HasI Try.prog 63 65 72 := ⟨by kernel_rfl⟩
instance : HasZ Try.prog 63 (.agg ([.int .i64 0] ++ ((List.replicate 64 0).map (Value.int .u8)) : List Value).toArray) := ⟨fun _ => by kernel_rfl⟩
instance : HasF Try.prog 63 0 0 := ⟨fun a w => fieldAt_of 0 3 0 1 Try.underlying63 rfl (HasI.size (P := Try.prog) (E := 3) (s := 1) (by_ := 8) inferInstance) (by decide) a w⟩
instance : HasF Try.prog 63 1 1 := ⟨fun a w => fieldAt_of 1 62 1 64 Try.underlying63 rfl (HasI.size (P := Try.prog) (E := 62) (s := 64) (by_ := 64) inferInstance) (by decide) a w⟩
instance : IsAgg Try.prog 64 true := ⟨Try.isAgg64⟩
instance : HasI Try.prog 64 65 72 := ⟨by kernel_rfl⟩
instance : HasZ Try.prog 64 (.agg ([.int .i64 0] ++ ((List.replicate 64 0).map (Value.int .u8)) : List Value).toArray) := ⟨fun _ => by kernel_rfl⟩
instance : HasF Try.prog 64 0 0 := ⟨fun a w => fieldAt_of 0 3 0 1 Try.underlying64 rfl (HasI.size (P := Try.prog) (E := 3) (s := 1) (by_ := 8) inferInstance) (by decide) a w⟩
instance : HasF Try.prog 64 1 1 := ⟨fun a w => fieldAt_of 1 62 1 64 Try.underlying64 rfl (HasI.size (P := Try.prog) (E := 62) (s := 64) (by_ := 64) inferInstance) (by decide) a w⟩
instance : IsAgg Try.prog 65 false := ⟨Try.isAgg65⟩
instance : HasI Try.prog 65 1 8 := ⟨by kernel_rfl⟩
instance : HasZ Try.prog 65 (.nilFunc) := ⟨Try.zeroValue65⟩
instance : IsAgg Try.prog 66 false := ⟨Try.isAgg66⟩
instance : HasI Try.prog 66 1 8 := ⟨by kernel_rfl⟩
instance : HasZ Try.prog 66 (.nilFunc) := ⟨Try.zeroValue66⟩
instance : IsAgg Try.prog 67 false := ⟨Try.isAgg67⟩
instance : HasI Try.prog 67 1 8 := ⟨by kernel_rfl⟩
instance : HasZ Try.prog 67 (.nilFunc) := ⟨Try.zeroValue67⟩
instance : IsAgg Try.prog 68 true := ⟨Try.isAgg68⟩
instance : HasI Try.prog 68 2 32 := ⟨by kernel_rfl⟩
instance : HasZ Try.prog 68 (.agg ([.int .i64 0, .slice none 0 0] : List Value).toArray) := ⟨fun _ => by kernel_rfl⟩
instance : HasF Try.prog 68 0 0 := ⟨fun a w => fieldAt_of 0 3 0 1 Try.underlying68 rfl (HasI.size (P := Try.prog) (E := 3) (s := 1) (by_ := 8) inferInstance) (by decide) a w⟩
instance : HasF Try.prog 68 1 1 := ⟨fun a w => fieldAt_of 1 22 1 1 Try.underlying68 rfl (HasI.size (P := Try.prog) (E := 22) (s := 1) (by_ := 24) inferInstance) (by decide) a w⟩
instance : IsAgg Try.prog 69 true := ⟨Try.isAgg69⟩
instance : HasI Try.prog 69 2 32 := ⟨by kernel_rfl⟩
instance : HasZ Try.prog 69 (.agg ([.int .i64 0, .slice none 0 0] : List Value).toArray) := ⟨fun _ => by kernel_rfl⟩
instance : HasF Try.prog 69 0 0 := ⟨fun a w => fieldAt_of 0 3 0 1 Try.underlying69 rfl (HasI.size (P := Try.prog) (E := 3) (s := 1) (by_ := 8) inferInstance) (by decide) a w⟩
instance : HasF Try.prog 69 1 1 := ⟨fun a w => fieldAt_of 1 22 1 1 Try.underlying69 rfl (HasI.size (P := Try.prog) (E := 22) (s := 1) (by_ := 24) inferInstance) (by decide) a w⟩
instance : IsAgg Try.prog 70 false := ⟨Try.isAgg70⟩
instance : HasI Try.prog 70 1 8 := ⟨by kernel_rfl⟩
instance : HasZ Try.prog 70 (.nilFunc) := ⟨Try.zeroValue70⟩
instance : IsAgg Try.prog 71 true := ⟨Try.isAgg71⟩
instance : HasI Try.prog 71 4 40 := ⟨by kernel_rfl⟩
instance : HasZ Try.prog 71 (.agg ([.pointer none, .pointer none, .pointer none, .string ⟨#[]⟩] : List Value).toArray) := ⟨fun _ => by kernel_rfl⟩
instance : HasF Try.prog 71 0 0 := ⟨fun a w => fieldAt_of 0 17 0 1 Try.underlying71 rfl (HasI.size (P := Try.prog) (E := 17) (s := 1) (by_ := 8) inferInstance) (by decide) a w⟩
instance : HasF Try.prog 71 1 1 := ⟨fun a w => fieldAt_of 1 17 1 1 Try.underlying71 rfl (HasI.size (P := Try.prog) (E := 17) (s := 1) (by_ := 8) inferInstance) (by decide) a w⟩
instance : HasF Try.prog 71 2 2 := ⟨fun a w => fieldAt_of 2 17 2 1 Try.underlying71 rfl (HasI.size (P := Try.prog) (E := 17) (s := 1) (by_ := 8) inferInstance) (by decide) a w⟩
instance : HasF Try.prog 71 3 3 := ⟨fun a w => fieldAt_of 3 9 3 1 Try.underlying71 rfl (HasI.size (P := Try.prog) (E := 9) (s := 1) (by_ := 16) inferInstance) (by decide) a w⟩
instance : IsAgg Try.prog 72 true := ⟨Try.isAgg72⟩
instance : HasI Try.prog 72 4 40 := ⟨by kernel_rfl⟩
instance : HasZ Try.prog 72 (.agg ([.pointer none, .pointer none, .pointer none, .string ⟨#[]⟩] : List Value).toArray) := ⟨fun _ => by kernel_rfl⟩
instance : HasF Try.prog 72 0 0 := ⟨fun a w => fieldAt_of 0 17 0 1 Try.underlying72 rfl (HasI.size (P := Try.prog) (E := 17) (s := 1) (by_ := 8) inferInstance) (by decide) a w⟩
instance : HasF Try.prog 72 1 1 := ⟨fun a w => fieldAt_of 1 17 1 1 Try.underlying72 rfl (HasI.size (P := Try.prog) (E := 17) (s := 1) (by_ := 8) inferInstance) (by decide) a w⟩
instance : HasF Try.prog 72 2 2 := ⟨fun a w => fieldAt_of 2 17 2 1 Try.underlying72 rfl (HasI.size (P := Try.prog) (E := 17) (s := 1) (by_ := 8) inferInstance) (by decide) a w⟩
instance : HasF Try.prog 72 3 3 := ⟨fun a w => fieldAt_of 3 9 3 1 Try.underlying72 rfl (HasI.size (P := Try.prog) (E := 9) (s := 1) (by_ := 16) inferInstance) (by decide) a w⟩
instance : HasU Try.prog 73 (.array 0 16) := ⟨Try.underlying73⟩
instance : IsAgg Try.prog 73 true := ⟨Try.isAgg73⟩
instance : HasI Try.prog 73 0 0 := ⟨by kernel_rfl⟩
instance : HasZ Try.prog 73 (.agg ([] : List Value).toArray) := ⟨fun _ => by kernel_rfl⟩
instance : IsAgg Try.prog 74 true := ⟨Try.isAgg74⟩
instance : HasI Try.prog 74 0 0 := ⟨by kernel_rfl⟩
instance : HasZ Try.prog 74 (.agg ([] : List Value).toArray) := ⟨fun _ => by kernel_rfl⟩
instance : IsAgg Try.prog 75 true := ⟨Try.isAgg75⟩
instance : HasI Try.prog 75 0 0 := ⟨by kernel_rfl⟩
instance : HasZ Try.prog 75 (.agg ([] : List Value).toArray) := ⟨fun _ => by kernel_rfl⟩
instance : HasU Try.prog 76 (.int .u32) := ⟨Try.underlying76⟩
instance : IsAgg Try.prog 76 false := ⟨Try.isAgg76⟩
instance : HasI Try.prog 76 1 4 := ⟨by kernel_rfl⟩
instance : HasZ Try.prog 76 (.int .u32 0) := ⟨Try.zeroValue76⟩
instance : HasU Try.prog 77 (.int .u8) := ⟨Try.underlying77⟩
instance : IsAgg Try.prog 77 false := ⟨Try.isAgg77⟩
instance : HasI Try.prog 77 1 1 := ⟨by kernel_rfl⟩
instance : HasZ Try.prog 77 (.int .u8 0) := ⟨Try.zeroValue77⟩
instance : HasU Try.prog 78 (.int .u8) := ⟨Try.underlying78⟩
instance : IsAgg Try.prog 78 false := ⟨Try.isAgg78⟩
instance : HasI Try.prog 78 1 1 := ⟨by kernel_rfl⟩
instance : HasZ Try.prog 78 (.int .u8 0) := ⟨Try.zeroValue78⟩
instance : IsAgg Try.prog 79 false := ⟨Try.isAgg79⟩
instance : HasI Try.prog 79 1 8 := ⟨by kernel_rfl⟩
instance : HasZ Try.prog 79 (.nilFunc) := ⟨Try.zeroValue79⟩
instance : HasU Try.prog 80 (.pointer 5) := ⟨Try.underlying80⟩
instance : IsAgg Try.prog 80 false := ⟨Try.isAgg80⟩
instance : HasI Try.prog 80 1 8 := ⟨by kernel_rfl⟩
instance : HasZ Try.prog 80 (.pointer none) := ⟨Try.zeroValue80⟩
instance : HasU Try.prog 81 (.int .i32) := ⟨Try.underlying81⟩
instance : IsAgg Try.prog 81 false := ⟨Try.isAgg81⟩
instance : HasI Try.prog 81 1 4 := ⟨by kernel_rfl⟩
instance : HasZ Try.prog 81 (.int .i32 0) := ⟨Try.zeroValue81⟩
instance : HasU Try.prog 82 (.int .i32) := ⟨Try.underlying82⟩
instance : IsAgg Try.prog 82 false := ⟨Try.isAgg82⟩
instance : HasI Try.prog 82 1 4 := ⟨by kernel_rfl⟩
instance : HasZ Try.prog 82 (.int .i32 0) := ⟨Try.zeroValue82⟩
instance : IsAgg Try.prog 83 true := ⟨Try.isAgg83⟩
instance : HasI Try.prog 83 11 48 := ⟨by kernel_rfl⟩
instance : HasZ Try.prog 83 (.agg ([.int .u64 0, .int .u64 0, .int .u32 0, .int .u8 0, .int .u8 0, .int .u8 0, .int .u8 0, .nilFunc, .pointer none, .int .i32 0, .int .i32 0] : List Value).toArray) := ⟨fun _ => by kernel_rfl⟩
instance : HasF Try.prog 83 0 0 := ⟨fun a w => fieldAt_of 0 12 0 1 Try.underlying83 rfl (HasI.size (P := Try.prog) (E := 12) (s := 1) (by_ := 8) inferInstance) (by decide) a w⟩
instance : HasF Try.prog 83 1 1 := ⟨fun a w => fieldAt_of 1 12 1 1 Try.underlying83 rfl (HasI.size (P := Try.prog) (E := 12) (s := 1) (by_ := 8) inferInstance) (by decide) a w⟩
instance : HasF Try.prog 83 2 2 := ⟨fun a w => fieldAt_of 2 76 2 1 Try.underlying83 rfl (HasI.size (P := Try.prog) (E := 76) (s := 1) (by_ := 4) inferInstance) (by decide) a w⟩
instance : HasF Try.prog 83 3 3 := ⟨fun a w => fieldAt_of 3 77 3 1 Try.underlying83 rfl (HasI.size (P := Try.prog) (E := 77) (s := 1) (by_ := 1) inferInstance) (by decide) a w⟩
instance : HasF Try.prog 83 4 4 := ⟨fun a w => fieldAt_of 4 5 4 1 Try.underlying83 rfl (HasI.size (P := Try.prog) (E := 5) (s := 1) (by_ := 1) inferInstance) (by decide) a w⟩
instance : HasF Try.prog 83 5 5 := ⟨fun a w => fieldAt_of 5 5 5 1 Try.underlying83 rfl (HasI.size (P := Try.prog) (E := 5) (s := 1) (by_ := 1) inferInstance) (by decide) a w⟩
instance : HasF Try.prog 83 6 6 := ⟨fun a w => fieldAt_of 6 78 6 1 Try.underlying83 rfl (HasI.size (P := Try.prog) (E := 78) (s := 1) (by_ := 1) inferInstance) (by decide) a w⟩
instance : HasF Try.prog 83 7 7 := ⟨fun a w => fieldAt_of 7 79 7 1 Try.underlying83 rfl (HasI.size (P := Try.prog) (E := 79) (s := 1) (by_ := 8) inferInstance) (by decide) a w⟩
instance : HasF Try.prog 83 8 8 := ⟨fun a w => fieldAt_of 8 80 8 1 Try.underlying83 rfl (HasI.size (P := Try.prog) (E := 80) (s := 1) (by_ := 8) inferInstance) (by decide) a w⟩
instance : HasF Try.prog 83 9 9 := ⟨fun a w => fieldAt_of 9 81 9 1 Try.underlying83 rfl (HasI.size (P := Try.prog) (E := 81) (s := 1) (by_ := 4) inferInstance) (by decide) a w⟩
instance : HasF Try.prog 83 10 10 := ⟨fun a w => fieldAt_of 10 82 10 1 Try.underlying83 rfl (HasI.size (P := Try.prog) (E := 82) (s := 1) (by_ := 4) inferInstance) (by decide) a w⟩
instance : IsAgg Try.prog 84 true := ⟨Try.isAgg84⟩
instance : HasI Try.prog 84 11 48 := ⟨by kernel_rfl⟩
instance : HasZ Try.prog 84 (.agg ([.int .u64 0, .int .u64 0, .int .u32 0, .int .u8 0, .int .u8 0, .int .u8 0, .int .u8 0, .nilFunc, .pointer none, .int .i32 0, .int .i32 0] : List Value).toArray) := ⟨fun _ => by kernel_rfl⟩
instance : HasF Try.prog 84 0 0 := ⟨fun a w => fieldAt_of 0 12 0 1 Try.underlying84 rfl (HasI.size (P := Try.prog) (E := 12) (s := 1) (by_ := 8) inferInstance) (by decide) a w⟩
instance : HasF Try.prog 84 1 1 := ⟨fun a w => fieldAt_of 1 12 1 1 Try.underlying84 rfl (HasI.size (P := Try.prog) (E := 12) (s := 1) (by_ := 8) inferInstance) (by decide) a w⟩
instance : HasF Try.prog 84 2 2 := ⟨fun a w => fieldAt_of 2 76 2 1 Try.underlying84 rfl (HasI.size (P := Try.prog) (E := 76) (s := 1) (by_ := 4) inferInstance) (by decide) a w⟩
instance : HasF Try.prog 84 3 3 := ⟨fun a w => fieldAt_of 3 77 3 1 Try.underlying84 rfl (HasI.size (P := Try.prog) (E := 77) (s := 1) (by_ := 1) inferInstance) (by decide) a w⟩
instance : HasF Try.prog 84 4 4 := ⟨fun a w => fieldAt_of 4 5 4 1 Try.underlying84 rfl (HasI.size (P := Try.prog) (E := 5) (s := 1) (by_ := 1) inferInstance) (by decide) a w⟩
instance : HasF Try.prog 84 5 5 := ⟨fun a w => fieldAt_of 5 5 5 1 Try.underlying84 rfl (HasI.size (P := Try.prog) (E := 5) (s := 1) (by_ := 1) inferInstance) (by decide) a w⟩
instance : HasF Try.prog 84 6 6 := ⟨fun a w => fieldAt_of 6 78 6 1 Try.underlying84 rfl (HasI.size (P := Try.prog) (E := 78) (s := 1) (by_ := 1) inferInstance) (by decide) a w⟩
instance : HasF Try.prog 84 7 7 := ⟨fun a w => fieldAt_of 7 79 7 1 Try.underlying84 rfl (HasI.size (P := Try.prog) (E := 79) (s := 1) (by_ := 8) inferInstance) (by decide) a w⟩
instance : HasF Try.prog 84 8 8 := ⟨fun a w => fieldAt_of 8 80 8 1 Try.underlying84 rfl (HasI.size (P := Try.prog) (E := 80) (s := 1) (by_ := 8) inferInstance) (by decide) a w⟩
instance : HasF Try.prog 84 9 9 := ⟨fun a w => fieldAt_of 9 81 9 1 Try.underlying84 rfl (HasI.size (P := Try.prog) (E := 81) (s := 1) (by_ := 4) inferInstance) (by decide) a w⟩
instance : HasF Try.prog 84 10 10 := ⟨fun a w => fieldAt_of 10 82 10 1 Try.underlying84 rfl (HasI.size (P := Try.prog) (E := 82) (s := 1) (by_ := 4) inferInstance) (by decide) a w⟩
instance : IsAgg Try.prog 85 false := ⟨Try.isAgg85⟩
instance : HasI Try.prog 85 1 8 := ⟨by kernel_rfl⟩
instance : HasZ Try.prog 85 (.pointer none) := ⟨Try.zeroValue85⟩
instance : HasFn Try.prog 2 := ⟨Try.call2⟩
instance : HasFn Try.prog 3 := ⟨Try.call3⟩
instance : HasFn Try.prog 4 := ⟨Try.call4⟩
instance : HasFn Try.prog 5 := ⟨Try.call5⟩
instance : HasFn Try.prog 6 := ⟨Try.call6⟩
instance : HasFn Try.prog 7 := ⟨Try.call7⟩
instance : HasFn Try.prog 8 := ⟨Try.call8⟩
instance : HasFn Try.prog 9 := ⟨Try.call9⟩
instance : HasFn Try.prog 10 := ⟨Try.call10⟩
instance : HasFn Try.prog 11 := ⟨Try.call11⟩
instance : HasFn Try.prog 12 := ⟨Try.call12⟩
instance : HasFn Try.prog 13 := ⟨Try.call13⟩
instance : HasFn Try.prog 14 := ⟨Try.call14⟩
instance : HasFn Try.prog 15 := ⟨Try.call15⟩
instance : HasFn Try.prog 16 := ⟨Try.call16⟩
instance : HasFn Try.prog 17 := ⟨Try.call17⟩
instance : HasFn Try.prog 18 := ⟨Try.call18⟩
instance : HasFn Try.prog 19 := ⟨Try.call19⟩
instance : HasFn Try.prog 20 := ⟨Try.call20⟩
instance : HasFn Try.prog 21 := ⟨Try.call21⟩
instance : HasFn Try.prog 22 := ⟨Try.call22⟩
instance : HasFn Try.prog 23 := ⟨Try.call23⟩
instance : HasFn Try.prog 24 := ⟨Try.call24⟩
instance : HasFn Try.prog 25 := ⟨Try.call25⟩
instance : HasFn Try.prog 26 := ⟨Try.call26⟩
instance : HasFn Try.prog 27 := ⟨Try.call27⟩
instance : HasFn Try.prog 28 := ⟨Try.call28⟩
instance : HasFn Try.prog 29 := ⟨Try.call29⟩
instance : HasFn Try.prog 30 := ⟨Try.call30⟩
instance : HasFn Try.prog 31 := ⟨Try.call31⟩
instance : HasFn Try.prog 32 := ⟨Try.call32⟩
end Go.Proofs.Ytipikjikjjmmiaa.MX
