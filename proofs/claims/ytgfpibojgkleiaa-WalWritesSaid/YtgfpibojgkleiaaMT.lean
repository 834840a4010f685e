/- What the seat's types and functions are, as instances. -/
import Derived.Test.YtgfpibojgkleiaaProg
import Derived.Test.YtgfpibojgkleiaaMXM
namespace Go.Proofs.Ytgfpibojgkleiaa.MX
open Go Go.RowKit
instance : IsAgg Try.prog 1 false := ⟨Try.isAgg1⟩
instance : HasI Try.prog 1 1 8 := ⟨by kernel_rfl⟩
instance : HasZ Try.prog 1 (.nilFunc) := ⟨Try.zeroValue1⟩
instance : HasU Try.prog 2 (.int .i64) := ⟨Try.underlying2⟩
instance : IsAgg Try.prog 2 false := ⟨Try.isAgg2⟩
instance : HasI Try.prog 2 1 8 := ⟨by kernel_rfl⟩
instance : HasZ Try.prog 2 (.int .i64 0) := ⟨Try.zeroValue2⟩
instance : HasU Try.prog 3 (.int .i64) := ⟨Try.underlying3⟩
instance : IsAgg Try.prog 3 false := ⟨Try.isAgg3⟩
instance : HasI Try.prog 3 1 8 := ⟨by kernel_rfl⟩
instance : HasZ Try.prog 3 (.int .i64 0) := ⟨Try.zeroValue3⟩
instance : HasU Try.prog 4 .bool := ⟨Try.underlying4⟩
instance : IsAgg Try.prog 4 false := ⟨Try.isAgg4⟩
instance : HasI Try.prog 4 1 1 := ⟨by kernel_rfl⟩
instance : HasZ Try.prog 4 (.bool false) := ⟨Try.zeroValue4⟩
instance : HasU Try.prog 5 (.int .u8) := ⟨Try.underlying5⟩
instance : IsAgg Try.prog 5 false := ⟨Try.isAgg5⟩
instance : HasI Try.prog 5 1 1 := ⟨by kernel_rfl⟩
instance : HasZ Try.prog 5 (.int .u8 0) := ⟨Try.zeroValue5⟩
instance : HasU Try.prog 6 (.int .u8) := ⟨Try.underlying6⟩
instance : IsAgg Try.prog 6 false := ⟨Try.isAgg6⟩
instance : HasI Try.prog 6 1 1 := ⟨by kernel_rfl⟩
instance : HasZ Try.prog 6 (.int .u8 0) := ⟨Try.zeroValue6⟩
instance : IsAgg Try.prog 7 true := ⟨Try.isAgg7⟩
instance : HasI Try.prog 7 4 24 := ⟨by kernel_rfl⟩
instance : HasZ Try.prog 7 (.agg ([.int .i64 0, .int .i64 0, .bool false, .int .u8 0] : List Value).toArray) := ⟨fun _ => by kernel_rfl⟩
instance : HasF Try.prog 7 0 0 := ⟨fun a w => fieldAt_of 0 2 0 1 Try.underlying7 rfl (HasI.size (P := Try.prog) (E := 2) (s := 1) (by_ := 8) inferInstance) (by decide) a w⟩
instance : HasF Try.prog 7 1 1 := ⟨fun a w => fieldAt_of 1 3 1 1 Try.underlying7 rfl (HasI.size (P := Try.prog) (E := 3) (s := 1) (by_ := 8) inferInstance) (by decide) a w⟩
instance : HasF Try.prog 7 2 2 := ⟨fun a w => fieldAt_of 2 4 2 1 Try.underlying7 rfl (HasI.size (P := Try.prog) (E := 4) (s := 1) (by_ := 1) inferInstance) (by decide) a w⟩
instance : HasF Try.prog 7 3 3 := ⟨fun a w => fieldAt_of 3 6 3 1 Try.underlying7 rfl (HasI.size (P := Try.prog) (E := 6) (s := 1) (by_ := 1) inferInstance) (by decide) a w⟩
instance : IsAgg Try.prog 8 true := ⟨Try.isAgg8⟩
instance : HasI Try.prog 8 4 24 := ⟨by kernel_rfl⟩
instance : HasZ Try.prog 8 (.agg ([.int .i64 0, .int .i64 0, .bool false, .int .u8 0] : List Value).toArray) := ⟨fun _ => by kernel_rfl⟩
instance : HasF Try.prog 8 0 0 := ⟨fun a w => fieldAt_of 0 2 0 1 Try.underlying8 rfl (HasI.size (P := Try.prog) (E := 2) (s := 1) (by_ := 8) inferInstance) (by decide) a w⟩
instance : HasF Try.prog 8 1 1 := ⟨fun a w => fieldAt_of 1 3 1 1 Try.underlying8 rfl (HasI.size (P := Try.prog) (E := 3) (s := 1) (by_ := 8) inferInstance) (by decide) a w⟩
instance : HasF Try.prog 8 2 2 := ⟨fun a w => fieldAt_of 2 4 2 1 Try.underlying8 rfl (HasI.size (P := Try.prog) (E := 4) (s := 1) (by_ := 1) inferInstance) (by decide) a w⟩
instance : HasF Try.prog 8 3 3 := ⟨fun a w => fieldAt_of 3 6 3 1 Try.underlying8 rfl (HasI.size (P := Try.prog) (E := 6) (s := 1) (by_ := 1) inferInstance) (by decide) a w⟩
instance : HasU Try.prog 9 .string := ⟨Try.underlying9⟩
instance : IsAgg Try.prog 9 false := ⟨Try.isAgg9⟩
instance : HasI Try.prog 9 1 16 := ⟨by kernel_rfl⟩
instance : HasZ Try.prog 9 (.string ⟨#[]⟩) := ⟨Try.zeroValue9⟩
instance : HasU Try.prog 10 .string := ⟨Try.underlying10⟩
instance : IsAgg Try.prog 10 false := ⟨Try.isAgg10⟩
instance : HasI Try.prog 10 1 16 := ⟨by kernel_rfl⟩
instance : HasZ Try.prog 10 (.string ⟨#[]⟩) := ⟨Try.zeroValue10⟩
instance : HasU Try.prog 11 .string := ⟨Try.underlying11⟩
instance : IsAgg Try.prog 11 false := ⟨Try.isAgg11⟩
instance : HasI Try.prog 11 1 16 := ⟨by kernel_rfl⟩
instance : HasZ Try.prog 11 (.string ⟨#[]⟩) := ⟨Try.zeroValue11⟩
instance : HasU Try.prog 12 (.int .u64) := ⟨Try.underlying12⟩
instance : IsAgg Try.prog 12 false := ⟨Try.isAgg12⟩
instance : HasI Try.prog 12 1 8 := ⟨by kernel_rfl⟩
instance : HasZ Try.prog 12 (.int .u64 0) := ⟨Try.zeroValue12⟩
instance : IsAgg Try.prog 13 true := ⟨Try.isAgg13⟩
instance : HasI Try.prog 13 2 24 := ⟨by kernel_rfl⟩
instance : HasZ Try.prog 13 (.agg ([.string ⟨#[]⟩, .int .u64 0] : List Value).toArray) := ⟨fun _ => by kernel_rfl⟩
instance : HasF Try.prog 13 0 0 := ⟨fun a w => fieldAt_of 0 9 0 1 Try.underlying13 rfl (HasI.size (P := Try.prog) (E := 9) (s := 1) (by_ := 16) inferInstance) (by decide) a w⟩
instance : HasF Try.prog 13 1 1 := ⟨fun a w => fieldAt_of 1 12 1 1 Try.underlying13 rfl (HasI.size (P := Try.prog) (E := 12) (s := 1) (by_ := 8) inferInstance) (by decide) a w⟩
instance : IsAgg Try.prog 14 true := ⟨Try.isAgg14⟩
instance : HasI Try.prog 14 2 24 := ⟨by kernel_rfl⟩
instance : HasZ Try.prog 14 (.agg ([.string ⟨#[]⟩, .int .u64 0] : List Value).toArray) := ⟨fun _ => by kernel_rfl⟩
instance : HasF Try.prog 14 0 0 := ⟨fun a w => fieldAt_of 0 9 0 1 Try.underlying14 rfl (HasI.size (P := Try.prog) (E := 9) (s := 1) (by_ := 16) inferInstance) (by decide) a w⟩
instance : HasF Try.prog 14 1 1 := ⟨fun a w => fieldAt_of 1 12 1 1 Try.underlying14 rfl (HasI.size (P := Try.prog) (E := 12) (s := 1) (by_ := 8) inferInstance) (by decide) a w⟩
instance : HasU Try.prog 15 (.pointer 85) := ⟨Try.underlying15⟩
instance : IsAgg Try.prog 15 false := ⟨Try.isAgg15⟩
instance : HasI Try.prog 15 1 8 := ⟨by kernel_rfl⟩
instance : HasZ Try.prog 15 (.pointer none) := ⟨Try.zeroValue15⟩
instance : HasU Try.prog 16 (.pointer 88) := ⟨Try.underlying16⟩
instance : IsAgg Try.prog 16 false := ⟨Try.isAgg16⟩
instance : HasI Try.prog 16 1 8 := ⟨by kernel_rfl⟩
instance : HasZ Try.prog 16 (.pointer none) := ⟨Try.zeroValue16⟩
instance : HasU Try.prog 17 (.pointer 97) := ⟨Try.underlying17⟩
instance : IsAgg Try.prog 17 false := ⟨Try.isAgg17⟩
instance : HasI Try.prog 17 1 8 := ⟨by kernel_rfl⟩
instance : HasZ Try.prog 17 (.pointer none) := ⟨Try.zeroValue17⟩
instance : IsAgg Try.prog 18 true := ⟨Try.isAgg18⟩
instance : HasI Try.prog 18 1 8 := ⟨by kernel_rfl⟩
instance : HasZ Try.prog 18 (.agg ([.pointer none] : List Value).toArray) := ⟨fun _ => by kernel_rfl⟩
instance : HasF Try.prog 18 0 0 := ⟨fun a w => fieldAt_of 0 17 0 1 Try.underlying18 rfl (HasI.size (P := Try.prog) (E := 17) (s := 1) (by_ := 8) inferInstance) (by decide) a w⟩
instance : IsAgg Try.prog 19 true := ⟨Try.isAgg19⟩
instance : HasI Try.prog 19 1 8 := ⟨by kernel_rfl⟩
instance : HasZ Try.prog 19 (.agg ([.pointer none] : List Value).toArray) := ⟨fun _ => by kernel_rfl⟩
instance : HasF Try.prog 19 0 0 := ⟨fun a w => fieldAt_of 0 17 0 1 Try.underlying19 rfl (HasI.size (P := Try.prog) (E := 17) (s := 1) (by_ := 8) inferInstance) (by decide) a w⟩
instance : IsAgg Try.prog 20 false := ⟨Try.isAgg20⟩
instance : HasI Try.prog 20 1 16 := ⟨by kernel_rfl⟩
instance : HasZ Try.prog 20 (.nilIface) := ⟨Try.zeroValue20⟩
instance : HasU Try.prog 21 (.int .i32) := ⟨Try.underlying21⟩
instance : IsAgg Try.prog 21 false := ⟨Try.isAgg21⟩
instance : HasI Try.prog 21 1 4 := ⟨by kernel_rfl⟩
instance : HasZ Try.prog 21 (.int .i32 0) := ⟨Try.zeroValue21⟩
instance : IsAgg Try.prog 22 false := ⟨Try.isAgg22⟩
instance : HasI Try.prog 22 1 8 := ⟨by kernel_rfl⟩
instance : HasZ Try.prog 22 (.nilFunc) := ⟨Try.zeroValue22⟩
instance : HasU Try.prog 23 (.pointer 57) := ⟨Try.underlying23⟩
instance : IsAgg Try.prog 23 false := ⟨Try.isAgg23⟩
instance : HasI Try.prog 23 1 8 := ⟨by kernel_rfl⟩
instance : HasZ Try.prog 23 (.pointer none) := ⟨Try.zeroValue23⟩
instance : IsAgg Try.prog 24 false := ⟨Try.isAgg24⟩
instance : HasI Try.prog 24 1 8 := ⟨by kernel_rfl⟩
instance : HasZ Try.prog 24 (.nilFunc) := ⟨Try.zeroValue24⟩
instance : HasU Try.prog 25 (.pointer 59) := ⟨Try.underlying25⟩
instance : IsAgg Try.prog 25 false := ⟨Try.isAgg25⟩
instance : HasI Try.prog 25 1 8 := ⟨by kernel_rfl⟩
instance : HasZ Try.prog 25 (.pointer none) := ⟨Try.zeroValue25⟩
instance : HasU Try.prog 26 (.int .i64) := ⟨Try.underlying26⟩
instance : IsAgg Try.prog 26 false := ⟨Try.isAgg26⟩
instance : HasI Try.prog 26 1 8 := ⟨by kernel_rfl⟩
instance : HasZ Try.prog 26 (.int .i64 0) := ⟨Try.zeroValue26⟩
instance : IsAgg Try.prog 28 false := ⟨Try.isAgg28⟩
instance : HasI Try.prog 28 1 8 := ⟨by kernel_rfl⟩
instance : HasZ Try.prog 28 (.nilFunc) := ⟨Try.zeroValue28⟩
instance : IsAgg Try.prog 29 false := ⟨Try.isAgg29⟩
instance : HasI Try.prog 29 1 8 := ⟨by kernel_rfl⟩
instance : HasZ Try.prog 29 (.nilFunc) := ⟨Try.zeroValue29⟩
instance : HasU Try.prog 30 (.slice 5) := ⟨Try.underlying30⟩
instance : IsAgg Try.prog 30 false := ⟨Try.isAgg30⟩
instance : HasI Try.prog 30 1 24 := ⟨by kernel_rfl⟩
instance : HasZ Try.prog 30 (.slice none 0 0) := ⟨Try.zeroValue30⟩
instance : IsAgg Try.prog 31 false := ⟨Try.isAgg31⟩
instance : HasI Try.prog 31 1 8 := ⟨by kernel_rfl⟩
instance : HasZ Try.prog 31 (.nilFunc) := ⟨Try.zeroValue31⟩
instance : IsAgg Try.prog 32 false := ⟨Try.isAgg32⟩
instance : HasI Try.prog 32 1 8 := ⟨by kernel_rfl⟩
instance : HasZ Try.prog 32 (.nilFunc) := ⟨Try.zeroValue32⟩
instance : HasU Try.prog 33 (.slice 30) := ⟨Try.underlying33⟩
instance : IsAgg Try.prog 33 false := ⟨Try.isAgg33⟩
instance : HasI Try.prog 33 1 24 := ⟨by kernel_rfl⟩
instance : HasZ Try.prog 33 (.slice none 0 0) := ⟨Try.zeroValue33⟩
instance : IsAgg Try.prog 34 false := ⟨Try.isAgg34⟩
instance : HasI Try.prog 34 1 8 := ⟨by kernel_rfl⟩
instance : HasZ Try.prog 34 (.nilFunc) := ⟨Try.zeroValue34⟩
instance : IsAgg Try.prog 35 false := ⟨Try.isAgg35⟩
instance : HasI Try.prog 35 1 8 := ⟨by kernel_rfl⟩
instance : HasZ Try.prog 35 (.nilFunc) := ⟨Try.zeroValue35⟩
instance : IsAgg Try.prog 36 false := ⟨Try.isAgg36⟩
instance : HasI Try.prog 36 1 8 := ⟨by kernel_rfl⟩
instance : HasZ Try.prog 36 (.nilFunc) := ⟨Try.zeroValue36⟩
instance : IsAgg Try.prog 37 false := ⟨Try.isAgg37⟩
instance : HasI Try.prog 37 1 8 := ⟨by kernel_rfl⟩
instance : HasZ Try.prog 37 (.nilFunc) := ⟨Try.zeroValue37⟩
instance : IsAgg Try.prog 38 false := ⟨Try.isAgg38⟩
instance : HasI Try.prog 38 1 8 := ⟨by kernel_rfl⟩
instance : HasZ Try.prog 38 (.nilFunc) := ⟨Try.zeroValue38⟩
instance : IsAgg Try.prog 39 false := ⟨Try.isAgg39⟩
instance : HasI Try.prog 39 1 8 := ⟨by kernel_rfl⟩
instance : HasZ Try.prog 39 (.nilFunc) := ⟨Try.zeroValue39⟩
instance : HasU Try.prog 40 (.slice 33) := ⟨Try.underlying40⟩
instance : IsAgg Try.prog 40 false := ⟨Try.isAgg40⟩
instance : HasI Try.prog 40 1 24 := ⟨by kernel_rfl⟩
instance : HasZ Try.prog 40 (.slice none 0 0) := ⟨Try.zeroValue40⟩
instance : IsAgg Try.prog 41 false := ⟨Try.isAgg41⟩
instance : HasI Try.prog 41 1 8 := ⟨by kernel_rfl⟩
instance : HasZ Try.prog 41 (.nilFunc) := ⟨Try.zeroValue41⟩
instance : IsAgg Try.prog 42 false := ⟨Try.isAgg42⟩
instance : HasI Try.prog 42 1 8 := ⟨by kernel_rfl⟩
instance : HasZ Try.prog 42 (.nilFunc) := ⟨Try.zeroValue42⟩
instance : HasU Try.prog 43 (.slice 44) := ⟨Try.underlying43⟩
instance : IsAgg Try.prog 43 false := ⟨Try.isAgg43⟩
instance : HasI Try.prog 43 1 24 := ⟨by kernel_rfl⟩
instance : HasZ Try.prog 43 (.slice none 0 0) := ⟨Try.zeroValue43⟩
instance : HasU Try.prog 44 (.slice 4) := ⟨Try.underlying44⟩
instance : IsAgg Try.prog 44 false := ⟨Try.isAgg44⟩
instance : HasI Try.prog 44 1 24 := ⟨by kernel_rfl⟩
instance : HasZ Try.prog 44 (.slice none 0 0) := ⟨Try.zeroValue44⟩
instance : IsAgg Try.prog 45 false := ⟨Try.isAgg45⟩
instance : HasI Try.prog 45 1 8 := ⟨by kernel_rfl⟩
instance : HasZ Try.prog 45 (.nilFunc) := ⟨Try.zeroValue45⟩
instance : IsAgg Try.prog 46 false := ⟨Try.isAgg46⟩
instance : HasI Try.prog 46 1 8 := ⟨by kernel_rfl⟩
instance : HasZ Try.prog 46 (.nilFunc) := ⟨Try.zeroValue46⟩
instance : IsAgg Try.prog 47 false := ⟨Try.isAgg47⟩
instance : HasI Try.prog 47 1 8 := ⟨by kernel_rfl⟩
instance : HasZ Try.prog 47 (.nilFunc) := ⟨Try.zeroValue47⟩
instance : IsAgg Try.prog 48 false := ⟨Try.isAgg48⟩
instance : HasI Try.prog 48 1 8 := ⟨by kernel_rfl⟩
instance : HasZ Try.prog 48 (.nilFunc) := ⟨Try.zeroValue48⟩
instance : HasU Try.prog 49 (.slice 51) := ⟨Try.underlying49⟩
instance : IsAgg Try.prog 49 false := ⟨Try.isAgg49⟩
instance : HasI Try.prog 49 1 24 := ⟨by kernel_rfl⟩
instance : HasZ Try.prog 49 (.slice none 0 0) := ⟨Try.zeroValue49⟩
instance : IsAgg Try.prog 50 true := ⟨Try.isAgg50⟩
instance : HasI Try.prog 50 3 56 := ⟨by kernel_rfl⟩
instance : HasZ Try.prog 50 (.agg ([.slice none 0 0, .int .i64 0, .slice none 0 0] : List Value).toArray) := ⟨fun _ => by kernel_rfl⟩
instance : HasF Try.prog 50 0 0 := ⟨fun a w => fieldAt_of 0 33 0 1 Try.underlying50 rfl (HasI.size (P := Try.prog) (E := 33) (s := 1) (by_ := 24) inferInstance) (by decide) a w⟩
instance : HasF Try.prog 50 1 1 := ⟨fun a w => fieldAt_of 1 3 1 1 Try.underlying50 rfl (HasI.size (P := Try.prog) (E := 3) (s := 1) (by_ := 8) inferInstance) (by decide) a w⟩
instance : HasF Try.prog 50 2 2 := ⟨fun a w => fieldAt_of 2 44 2 1 Try.underlying50 rfl (HasI.size (P := Try.prog) (E := 44) (s := 1) (by_ := 24) inferInstance) (by decide) a w⟩
instance : IsAgg Try.prog 51 true := ⟨Try.isAgg51⟩
instance : HasI Try.prog 51 3 56 := ⟨by kernel_rfl⟩
instance : HasZ Try.prog 51 (.agg ([.slice none 0 0, .int .i64 0, .slice none 0 0] : List Value).toArray) := ⟨fun _ => by kernel_rfl⟩
instance : HasF Try.prog 51 0 0 := ⟨fun a w => fieldAt_of 0 33 0 1 Try.underlying51 rfl (HasI.size (P := Try.prog) (E := 33) (s := 1) (by_ := 24) inferInstance) (by decide) a w⟩
instance : HasF Try.prog 51 1 1 := ⟨fun a w => fieldAt_of 1 3 1 1 Try.underlying51 rfl (HasI.size (P := Try.prog) (E := 3) (s := 1) (by_ := 8) inferInstance) (by decide) a w⟩
instance : HasF Try.prog 51 2 2 := ⟨fun a w => fieldAt_of 2 44 2 1 Try.underlying51 rfl (HasI.size (P := Try.prog) (E := 44) (s := 1) (by_ := 24) inferInstance) (by decide) a w⟩
instance : IsAgg Try.prog 52 false := ⟨Try.isAgg52⟩
instance : HasI Try.prog 52 1 8 := ⟨by kernel_rfl⟩
instance : HasZ Try.prog 52 (.nilFunc) := ⟨Try.zeroValue52⟩
instance : IsAgg Try.prog 53 false := ⟨Try.isAgg53⟩
instance : HasI Try.prog 53 1 8 := ⟨by kernel_rfl⟩
instance : HasZ Try.prog 53 (.nilFunc) := ⟨Try.zeroValue53⟩
instance : HasU Try.prog 54 (.slice 74) := ⟨Try.underlying54⟩
instance : IsAgg Try.prog 54 false := ⟨Try.isAgg54⟩
instance : HasI Try.prog 54 1 24 := ⟨by kernel_rfl⟩
instance : HasZ Try.prog 54 (.slice none 0 0) := ⟨Try.zeroValue54⟩
instance : HasU Try.prog 55 (.slice 76) := ⟨Try.underlying55⟩
instance : IsAgg Try.prog 55 false := ⟨Try.isAgg55⟩
instance : HasI Try.prog 55 1 24 := ⟨by kernel_rfl⟩
instance : HasZ Try.prog 55 (.slice none 0 0) := ⟨Try.zeroValue55⟩
instance : IsAgg Try.prog 56 true := ⟨Try.isAgg56⟩
instance : HasI Try.prog 56 5 88 := ⟨by kernel_rfl⟩
instance : HasZ Try.prog 56 (.agg ([.slice none 0 0, .slice none 0 0, .slice none 0 0, .int .i64 0, .bool false] : List Value).toArray) := ⟨fun _ => by kernel_rfl⟩
instance : HasF Try.prog 56 0 0 := ⟨fun a w => fieldAt_of 0 54 0 1 Try.underlying56 rfl (HasI.size (P := Try.prog) (E := 54) (s := 1) (by_ := 24) inferInstance) (by decide) a w⟩
instance : HasF Try.prog 56 1 1 := ⟨fun a w => fieldAt_of 1 54 1 1 Try.underlying56 rfl (HasI.size (P := Try.prog) (E := 54) (s := 1) (by_ := 24) inferInstance) (by decide) a w⟩
instance : HasF Try.prog 56 2 2 := ⟨fun a w => fieldAt_of 2 55 2 1 Try.underlying56 rfl (HasI.size (P := Try.prog) (E := 55) (s := 1) (by_ := 24) inferInstance) (by decide) a w⟩
instance : HasF Try.prog 56 3 3 := ⟨fun a w => fieldAt_of 3 3 3 1 Try.underlying56 rfl (HasI.size (P := Try.prog) (E := 3) (s := 1) (by_ := 8) inferInstance) (by decide) a w⟩
instance : HasF Try.prog 56 4 4 := ⟨fun a w => fieldAt_of 4 4 4 1 Try.underlying56 rfl (HasI.size (P := Try.prog) (E := 4) (s := 1) (by_ := 1) inferInstance) (by decide) a w⟩
instance : IsAgg Try.prog 57 true := ⟨Try.isAgg57⟩
instance : HasI Try.prog 57 5 88 := ⟨by kernel_rfl⟩
instance : HasZ Try.prog 57 (.agg ([.slice none 0 0, .slice none 0 0, .slice none 0 0, .int .i64 0, .bool false] : List Value).toArray) := ⟨fun _ => by kernel_rfl⟩
instance : HasF Try.prog 57 0 0 := ⟨fun a w => fieldAt_of 0 54 0 1 Try.underlying57 rfl (HasI.size (P := Try.prog) (E := 54) (s := 1) (by_ := 24) inferInstance) (by decide) a w⟩
instance : HasF Try.prog 57 1 1 := ⟨fun a w => fieldAt_of 1 54 1 1 Try.underlying57 rfl (HasI.size (P := Try.prog) (E := 54) (s := 1) (by_ := 24) inferInstance) (by decide) a w⟩
instance : HasF Try.prog 57 2 2 := ⟨fun a w => fieldAt_of 2 55 2 1 Try.underlying57 rfl (HasI.size (P := Try.prog) (E := 55) (s := 1) (by_ := 24) inferInstance) (by decide) a w⟩
instance : HasF Try.prog 57 3 3 := ⟨fun a w => fieldAt_of 3 3 3 1 Try.underlying57 rfl (HasI.size (P := Try.prog) (E := 3) (s := 1) (by_ := 8) inferInstance) (by decide) a w⟩
instance : HasF Try.prog 57 4 4 := ⟨fun a w => fieldAt_of 4 4 4 1 Try.underlying57 rfl (HasI.size (P := Try.prog) (E := 4) (s := 1) (by_ := 1) inferInstance) (by decide) a w⟩
instance : IsAgg Try.prog 58 true := ⟨Try.isAgg58⟩
instance : HasI Try.prog 58 8 80 := ⟨by kernel_rfl⟩
instance : HasZ Try.prog 58 (.agg ([.pointer none] ++ ((List.replicate 5 0).map (Value.int .i64) ++ ([.slice none 0 0, .bool false])) : List Value).toArray) := ⟨fun _ => by kernel_rfl⟩
instance : HasF Try.prog 58 0 0 := ⟨fun a w => fieldAt_of 0 23 0 1 Try.underlying58 rfl (HasI.size (P := Try.prog) (E := 23) (s := 1) (by_ := 8) inferInstance) (by decide) a w⟩
instance : HasF Try.prog 58 1 1 := ⟨fun a w => fieldAt_of 1 3 1 1 Try.underlying58 rfl (HasI.size (P := Try.prog) (E := 3) (s := 1) (by_ := 8) inferInstance) (by decide) a w⟩
instance : HasF Try.prog 58 2 2 := ⟨fun a w => fieldAt_of 2 3 2 1 Try.underlying58 rfl (HasI.size (P := Try.prog) (E := 3) (s := 1) (by_ := 8) inferInstance) (by decide) a w⟩
instance : HasF Try.prog 58 3 3 := ⟨fun a w => fieldAt_of 3 3 3 1 Try.underlying58 rfl (HasI.size (P := Try.prog) (E := 3) (s := 1) (by_ := 8) inferInstance) (by decide) a w⟩
instance : HasF Try.prog 58 4 4 := ⟨fun a w => fieldAt_of 4 3 4 1 Try.underlying58 rfl (HasI.size (P := Try.prog) (E := 3) (s := 1) (by_ := 8) inferInstance) (by decide) a w⟩
instance : HasF Try.prog 58 5 5 := ⟨fun a w => fieldAt_of 5 3 5 1 Try.underlying58 rfl (HasI.size (P := Try.prog) (E := 3) (s := 1) (by_ := 8) inferInstance) (by decide) a w⟩
instance : HasF Try.prog 58 6 6 := ⟨fun a w => fieldAt_of 6 33 6 1 Try.underlying58 rfl (HasI.size (P := Try.prog) (E := 33) (s := 1) (by_ := 24) inferInstance) (by decide) a w⟩
instance : HasF Try.prog 58 7 7 := ⟨fun a w => fieldAt_of 7 4 7 1 Try.underlying58 rfl (HasI.size (P := Try.prog) (E := 4) (s := 1) (by_ := 1) inferInstance) (by decide) a w⟩
instance : IsAgg Try.prog 59 true := ⟨Try.isAgg59⟩
instance : HasI Try.prog 59 8 80 := ⟨by kernel_rfl⟩
instance : HasZ Try.prog 59 (.agg ([.pointer none] ++ ((List.replicate 5 0).map (Value.int .i64) ++ ([.slice none 0 0, .bool false])) : List Value).toArray) := ⟨fun _ => by kernel_rfl⟩
instance : HasF Try.prog 59 0 0 := ⟨fun a w => fieldAt_of 0 23 0 1 Try.underlying59 rfl (HasI.size (P := Try.prog) (E := 23) (s := 1) (by_ := 8) inferInstance) (by decide) a w⟩
instance : HasF Try.prog 59 1 1 := ⟨fun a w => fieldAt_of 1 3 1 1 Try.underlying59 rfl (HasI.size (P := Try.prog) (E := 3) (s := 1) (by_ := 8) inferInstance) (by decide) a w⟩
instance : HasF Try.prog 59 2 2 := ⟨fun a w => fieldAt_of 2 3 2 1 Try.underlying59 rfl (HasI.size (P := Try.prog) (E := 3) (s := 1) (by_ := 8) inferInstance) (by decide) a w⟩
instance : HasF Try.prog 59 3 3 := ⟨fun a w => fieldAt_of 3 3 3 1 Try.underlying59 rfl (HasI.size (P := Try.prog) (E := 3) (s := 1) (by_ := 8) inferInstance) (by decide) a w⟩
instance : HasF Try.prog 59 4 4 := ⟨fun a w => fieldAt_of 4 3 4 1 Try.underlying59 rfl (HasI.size (P := Try.prog) (E := 3) (s := 1) (by_ := 8) inferInstance) (by decide) a w⟩
instance : HasF Try.prog 59 5 5 := ⟨fun a w => fieldAt_of 5 3 5 1 Try.underlying59 rfl (HasI.size (P := Try.prog) (E := 3) (s := 1) (by_ := 8) inferInstance) (by decide) a w⟩
instance : HasF Try.prog 59 6 6 := ⟨fun a w => fieldAt_of 6 33 6 1 Try.underlying59 rfl (HasI.size (P := Try.prog) (E := 33) (s := 1) (by_ := 24) inferInstance) (by decide) a w⟩
instance : HasF Try.prog 59 7 7 := ⟨fun a w => fieldAt_of 7 4 7 1 Try.underlying59 rfl (HasI.size (P := Try.prog) (E := 4) (s := 1) (by_ := 1) inferInstance) (by decide) a w⟩
instance : IsAgg Try.prog 60 true := ⟨Try.isAgg60⟩
instance : HasI Try.prog 60 6 64 := ⟨by kernel_rfl⟩
instance : HasZ Try.prog 60 (.agg ((List.replicate 5 0).map (Value.int .i64) ++ ([.slice none 0 0]) : List Value).toArray) := ⟨fun _ => by kernel_rfl⟩
instance : HasF Try.prog 60 0 0 := ⟨fun a w => fieldAt_of 0 3 0 1 Try.underlying60 rfl (HasI.size (P := Try.prog) (E := 3) (s := 1) (by_ := 8) inferInstance) (by decide) a w⟩
instance : HasF Try.prog 60 1 1 := ⟨fun a w => fieldAt_of 1 3 1 1 Try.underlying60 rfl (HasI.size (P := Try.prog) (E := 3) (s := 1) (by_ := 8) inferInstance) (by decide) a w⟩
instance : HasF Try.prog 60 2 2 := ⟨fun a w => fieldAt_of 2 3 2 1 Try.underlying60 rfl (HasI.size (P := Try.prog) (E := 3) (s := 1) (by_ := 8) inferInstance) (by decide) a w⟩
instance : HasF Try.prog 60 3 3 := ⟨fun a w => fieldAt_of 3 3 3 1 Try.underlying60 rfl (HasI.size (P := Try.prog) (E := 3) (s := 1) (by_ := 8) inferInstance) (by decide) a w⟩
instance : HasF Try.prog 60 4 4 := ⟨fun a w => fieldAt_of 4 3 4 1 Try.underlying60 rfl (HasI.size (P := Try.prog) (E := 3) (s := 1) (by_ := 8) inferInstance) (by decide) a w⟩
instance : HasF Try.prog 60 5 5 := ⟨fun a w => fieldAt_of 5 30 5 1 Try.underlying60 rfl (HasI.size (P := Try.prog) (E := 30) (s := 1) (by_ := 24) inferInstance) (by decide) a w⟩
instance : IsAgg Try.prog 61 true := ⟨Try.isAgg61⟩
instance : HasI Try.prog 61 6 64 := ⟨by kernel_rfl⟩
instance : HasZ Try.prog 61 (.agg ((List.replicate 5 0).map (Value.int .i64) ++ ([.slice none 0 0]) : List Value).toArray) := ⟨fun _ => by kernel_rfl⟩
instance : HasF Try.prog 61 0 0 := ⟨fun a w => fieldAt_of 0 3 0 1 Try.underlying61 rfl (HasI.size (P := Try.prog) (E := 3) (s := 1) (by_ := 8) inferInstance) (by decide) a w⟩
instance : HasF Try.prog 61 1 1 := ⟨fun a w => fieldAt_of 1 3 1 1 Try.underlying61 rfl (HasI.size (P := Try.prog) (E := 3) (s := 1) (by_ := 8) inferInstance) (by decide) a w⟩
instance : HasF Try.prog 61 2 2 := ⟨fun a w => fieldAt_of 2 3 2 1 Try.underlying61 rfl (HasI.size (P := Try.prog) (E := 3) (s := 1) (by_ := 8) inferInstance) (by decide) a w⟩
instance : HasF Try.prog 61 3 3 := ⟨fun a w => fieldAt_of 3 3 3 1 Try.underlying61 rfl (HasI.size (P := Try.prog) (E := 3) (s := 1) (by_ := 8) inferInstance) (by decide) a w⟩
instance : HasF Try.prog 61 4 4 := ⟨fun a w => fieldAt_of 4 3 4 1 Try.underlying61 rfl (HasI.size (P := Try.prog) (E := 3) (s := 1) (by_ := 8) inferInstance) (by decide) a w⟩
instance : HasF Try.prog 61 5 5 := ⟨fun a w => fieldAt_of 5 30 5 1 Try.underlying61 rfl (HasI.size (P := Try.prog) (E := 30) (s := 1) (by_ := 24) inferInstance) (by decide) a w⟩
instance : IsAgg Try.prog 63 false := ⟨Try.isAgg63⟩
instance : HasI Try.prog 63 1 8 := ⟨by kernel_rfl⟩
instance : HasZ Try.prog 63 (.nilFunc) := ⟨Try.zeroValue63⟩
instance : IsAgg Try.prog 65 false := ⟨Try.isAgg65⟩
instance : HasI Try.prog 65 1 8 := ⟨by kernel_rfl⟩
instance : HasZ Try.prog 65 (.nilFunc) := ⟨Try.zeroValue65⟩
instance : IsAgg Try.prog 66 false := ⟨Try.isAgg66⟩
instance : HasI Try.prog 66 1 8 := ⟨by kernel_rfl⟩
instance : HasZ Try.prog 66 (.nilFunc) := ⟨Try.zeroValue66⟩
instance : IsAgg Try.prog 67 false := ⟨Try.isAgg67⟩
instance : HasI Try.prog 67 1 8 := ⟨by kernel_rfl⟩
instance : HasZ Try.prog 67 (.nilFunc) := ⟨Try.zeroValue67⟩
instance : IsAgg Try.prog 68 false := ⟨Try.isAgg68⟩
instance : HasI Try.prog 68 1 8 := ⟨by kernel_rfl⟩
instance : HasZ Try.prog 68 (.nilFunc) := ⟨Try.zeroValue68⟩
instance : IsAgg Try.prog 69 false := ⟨Try.isAgg69⟩
instance : HasI Try.prog 69 1 8 := ⟨by kernel_rfl⟩
instance : HasZ Try.prog 69 (.nilFunc) := ⟨Try.zeroValue69⟩
instance : IsAgg Try.prog 70 false := ⟨Try.isAgg70⟩
instance : HasI Try.prog 70 1 8 := ⟨by kernel_rfl⟩
instance : HasZ Try.prog 70 (.nilFunc) := ⟨Try.zeroValue70⟩
instance : IsAgg Try.prog 71 false := ⟨Try.isAgg71⟩
instance : HasI Try.prog 71 1 8 := ⟨by kernel_rfl⟩
instance : HasZ Try.prog 71 (.nilFunc) := ⟨Try.zeroValue71⟩
instance : IsAgg Try.prog 73 false := ⟨Try.isAgg73⟩
instance : HasI Try.prog 73 1 8 := ⟨by kernel_rfl⟩
instance : HasZ Try.prog 73 (.nilFunc) := ⟨Try.zeroValue73⟩
instance : HasU Try.prog 74 (.array 64 5) := ⟨Try.underlying74⟩
instance : IsAgg Try.prog 74 true := ⟨Try.isAgg74⟩
instance : HasI Try.prog 74 64 64 := ⟨by kernel_rfl⟩
instance : HasZI Try.prog 74 .u8 64 := ⟨fun _ => by kernel_rfl⟩
instance : IsAgg Try.prog 75 true := ⟨Try.isAgg75⟩
instance : HasI Try.prog 75 65 72 := ⟨by kernel_rfl⟩
instance : HasZ Try.prog 75 (.agg ([.int .i64 0] ++ ((List.replicate 64 0).map (Value.int .u8)) : List Value).toArray) := ⟨fun _ => by kernel_rfl⟩
instance : HasF Try.prog 75 0 0 := ⟨fun a w => fieldAt_of 0 3 0 1 Try.underlying75 rfl (HasI.size (P := Try.prog) (E := 3) (s := 1) (by_ := 8) inferInstance) (by decide) a w⟩
instance : HasF Try.prog 75 1 1 := ⟨fun a w => fieldAt_of 1 74 1 64 Try.underlying75 rfl (HasI.size (P := Try.prog) (E := 74) (s := 64) (by_ := 64) inferInstance) (by decide) a w⟩
instance : IsAgg Try.prog 76 true := ⟨Try.isAgg76⟩
instance : HasI Try.prog 76 65 72 := ⟨by kernel_rfl⟩
instance : HasZ Try.prog 76 (.agg ([.int .i64 0] ++ ((List.replicate 64 0).map (Value.int .u8)) : List Value).toArray) := ⟨fun _ => by kernel_rfl⟩
instance : HasF Try.prog 76 0 0 := ⟨fun a w => fieldAt_of 0 3 0 1 Try.underlying76 rfl (HasI.size (P := Try.prog) (E := 3) (s := 1) (by_ := 8) inferInstance) (by decide) a w⟩
instance : HasF Try.prog 76 1 1 := ⟨fun a w => fieldAt_of 1 74 1 64 Try.underlying76 rfl (HasI.size (P := Try.prog) (E := 74) (s := 64) (by_ := 64) inferInstance) (by decide) a w⟩
instance : IsAgg Try.prog 77 false := ⟨Try.isAgg77⟩
instance : HasI Try.prog 77 1 8 := ⟨by kernel_rfl⟩
instance : HasZ Try.prog 77 (.nilFunc) := ⟨Try.zeroValue77⟩
instance : IsAgg Try.prog 78 false := ⟨Try.isAgg78⟩
instance : HasI Try.prog 78 1 8 := ⟨by kernel_rfl⟩
instance : HasZ Try.prog 78 (.nilFunc) := ⟨Try.zeroValue78⟩
instance : IsAgg Try.prog 79 false := ⟨Try.isAgg79⟩
instance : HasI Try.prog 79 1 8 := ⟨by kernel_rfl⟩
instance : HasZ Try.prog 79 (.nilFunc) := ⟨Try.zeroValue79⟩
instance : IsAgg Try.prog 80 false := ⟨Try.isAgg80⟩
instance : HasI Try.prog 80 1 8 := ⟨by kernel_rfl⟩
instance : HasZ Try.prog 80 (.nilFunc) := ⟨Try.zeroValue80⟩
instance : HasU Try.prog 81 (.int .u64) := ⟨Try.underlying81⟩
instance : IsAgg Try.prog 81 false := ⟨Try.isAgg81⟩
instance : HasI Try.prog 81 1 8 := ⟨by kernel_rfl⟩
instance : HasZ Try.prog 81 (.int .u64 0) := ⟨Try.zeroValue81⟩
instance : IsAgg Try.prog 82 false := ⟨Try.isAgg82⟩
instance : HasI Try.prog 82 1 8 := ⟨by kernel_rfl⟩
instance : HasZ Try.prog 82 (.nilFunc) := ⟨Try.zeroValue82⟩
instance : IsAgg Try.prog 83 false := ⟨Try.isAgg83⟩
instance : HasI Try.prog 83 1 8 := ⟨by kernel_rfl⟩
instance : HasZ Try.prog 83 (.nilFunc) := ⟨Try.zeroValue83⟩
instance : IsAgg Try.prog 84 true := ⟨Try.isAgg84⟩
instance : HasI Try.prog 84 4 40 := ⟨by kernel_rfl⟩
instance : HasZ Try.prog 84 (.agg ([.pointer none, .pointer none, .pointer none, .string ⟨#[]⟩] : List Value).toArray) := ⟨fun _ => by kernel_rfl⟩
instance : HasF Try.prog 84 0 0 := ⟨fun a w => fieldAt_of 0 17 0 1 Try.underlying84 rfl (HasI.size (P := Try.prog) (E := 17) (s := 1) (by_ := 8) inferInstance) (by decide) a w⟩
instance : HasF Try.prog 84 1 1 := ⟨fun a w => fieldAt_of 1 17 1 1 Try.underlying84 rfl (HasI.size (P := Try.prog) (E := 17) (s := 1) (by_ := 8) inferInstance) (by decide) a w⟩
instance : HasF Try.prog 84 2 2 := ⟨fun a w => fieldAt_of 2 17 2 1 Try.underlying84 rfl (HasI.size (P := Try.prog) (E := 17) (s := 1) (by_ := 8) inferInstance) (by decide) a w⟩
instance : HasF Try.prog 84 3 3 := ⟨fun a w => fieldAt_of 3 9 3 1 Try.underlying84 rfl (HasI.size (P := Try.prog) (E := 9) (s := 1) (by_ := 16) inferInstance) (by decide) a w⟩
instance : IsAgg Try.prog 85 true := ⟨Try.isAgg85⟩
instance : HasI Try.prog 85 4 40 := ⟨by kernel_rfl⟩
instance : HasZ Try.prog 85 (.agg ([.pointer none, .pointer none, .pointer none, .string ⟨#[]⟩] : List Value).toArray) := ⟨fun _ => by kernel_rfl⟩
instance : HasF Try.prog 85 0 0 := ⟨fun a w => fieldAt_of 0 17 0 1 Try.underlying85 rfl (HasI.size (P := Try.prog) (E := 17) (s := 1) (by_ := 8) inferInstance) (by decide) a w⟩
instance : HasF Try.prog 85 1 1 := ⟨fun a w => fieldAt_of 1 17 1 1 Try.underlying85 rfl (HasI.size (P := Try.prog) (E := 17) (s := 1) (by_ := 8) inferInstance) (by decide) a w⟩
instance : HasF Try.prog 85 2 2 := ⟨fun a w => fieldAt_of 2 17 2 1 Try.underlying85 rfl (HasI.size (P := Try.prog) (E := 17) (s := 1) (by_ := 8) inferInstance) (by decide) a w⟩
instance : HasF Try.prog 85 3 3 := ⟨fun a w => fieldAt_of 3 9 3 1 Try.underlying85 rfl (HasI.size (P := Try.prog) (E := 9) (s := 1) (by_ := 16) inferInstance) (by decide) a w⟩
instance : HasU Try.prog 86 (.array 0 16) := ⟨Try.underlying86⟩
instance : IsAgg Try.prog 86 true := ⟨Try.isAgg86⟩
instance : HasI Try.prog 86 0 0 := ⟨by kernel_rfl⟩
instance : HasZ Try.prog 86 (.agg ([] : List Value).toArray) := ⟨fun _ => by kernel_rfl⟩
instance : IsAgg Try.prog 87 true := ⟨Try.isAgg87⟩
instance : HasI Try.prog 87 0 0 := ⟨by kernel_rfl⟩
instance : HasZ Try.prog 87 (.agg ([] : List Value).toArray) := ⟨fun _ => by kernel_rfl⟩
instance : IsAgg Try.prog 88 true := ⟨Try.isAgg88⟩
instance : HasI Try.prog 88 0 0 := ⟨by kernel_rfl⟩
instance : HasZ Try.prog 88 (.agg ([] : List Value).toArray) := ⟨fun _ => by kernel_rfl⟩
instance : HasU Try.prog 89 (.int .u32) := ⟨Try.underlying89⟩
instance : IsAgg Try.prog 89 false := ⟨Try.isAgg89⟩
instance : HasI Try.prog 89 1 4 := ⟨by kernel_rfl⟩
instance : HasZ Try.prog 89 (.int .u32 0) := ⟨Try.zeroValue89⟩
instance : HasU Try.prog 90 (.int .u8) := ⟨Try.underlying90⟩
instance : IsAgg Try.prog 90 false := ⟨Try.isAgg90⟩
instance : HasI Try.prog 90 1 1 := ⟨by kernel_rfl⟩
instance : HasZ Try.prog 90 (.int .u8 0) := ⟨Try.zeroValue90⟩
instance : HasU Try.prog 91 (.int .u8) := ⟨Try.underlying91⟩
instance : IsAgg Try.prog 91 false := ⟨Try.isAgg91⟩
instance : HasI Try.prog 91 1 1 := ⟨by kernel_rfl⟩
instance : HasZ Try.prog 91 (.int .u8 0) := ⟨Try.zeroValue91⟩
instance : IsAgg Try.prog 92 false := ⟨Try.isAgg92⟩
instance : HasI Try.prog 92 1 8 := ⟨by kernel_rfl⟩
instance : HasZ Try.prog 92 (.nilFunc) := ⟨Try.zeroValue92⟩
instance : HasU Try.prog 93 (.pointer 5) := ⟨Try.underlying93⟩
instance : IsAgg Try.prog 93 false := ⟨Try.isAgg93⟩
instance : HasI Try.prog 93 1 8 := ⟨by kernel_rfl⟩
instance : HasZ Try.prog 93 (.pointer none) := ⟨Try.zeroValue93⟩
instance : HasU Try.prog 94 (.int .i32) := ⟨Try.underlying94⟩
instance : IsAgg Try.prog 94 false := ⟨Try.isAgg94⟩
instance : HasI Try.prog 94 1 4 := ⟨by kernel_rfl⟩
instance : HasZ Try.prog 94 (.int .i32 0) := ⟨Try.zeroValue94⟩
instance : HasU Try.prog 95 (.int .i32) := ⟨Try.underlying95⟩
instance : IsAgg Try.prog 95 false := ⟨Try.isAgg95⟩
instance : HasI Try.prog 95 1 4 := ⟨by kernel_rfl⟩
instance : HasZ Try.prog 95 (.int .i32 0) := ⟨Try.zeroValue95⟩
instance : IsAgg Try.prog 96 true := ⟨Try.isAgg96⟩
instance : HasI Try.prog 96 11 48 := ⟨by kernel_rfl⟩
instance : HasZ Try.prog 96 (.agg ([.int .u64 0, .int .u64 0, .int .u32 0, .int .u8 0, .int .u8 0, .int .u8 0, .int .u8 0, .nilFunc, .pointer none, .int .i32 0, .int .i32 0] : List Value).toArray) := ⟨fun _ => by kernel_rfl⟩
instance : HasF Try.prog 96 0 0 := ⟨fun a w => fieldAt_of 0 12 0 1 Try.underlying96 rfl (HasI.size (P := Try.prog) (E := 12) (s := 1) (by_ := 8) inferInstance) (by decide) a w⟩
instance : HasF Try.prog 96 1 1 := ⟨fun a w => fieldAt_of 1 12 1 1 Try.underlying96 rfl (HasI.size (P := Try.prog) (E := 12) (s := 1) (by_ := 8) inferInstance) (by decide) a w⟩
instance : HasF Try.prog 96 2 2 := ⟨fun a w => fieldAt_of 2 89 2 1 Try.underlying96 rfl (HasI.size (P := Try.prog) (E := 89) (s := 1) (by_ := 4) inferInstance) (by decide) a w⟩
instance : HasF Try.prog 96 3 3 := ⟨fun a w => fieldAt_of 3 90 3 1 Try.underlying96 rfl (HasI.size (P := Try.prog) (E := 90) (s := 1) (by_ := 1) inferInstance) (by decide) a w⟩
instance : HasF Try.prog 96 4 4 := ⟨fun a w => fieldAt_of 4 5 4 1 Try.underlying96 rfl (HasI.size (P := Try.prog) (E := 5) (s := 1) (by_ := 1) inferInstance) (by decide) a w⟩
instance : HasF Try.prog 96 5 5 := ⟨fun a w => fieldAt_of 5 5 5 1 Try.underlying96 rfl (HasI.size (P := Try.prog) (E := 5) (s := 1) (by_ := 1) inferInstance) (by decide) a w⟩
instance : HasF Try.prog 96 6 6 := ⟨fun a w => fieldAt_of 6 91 6 1 Try.underlying96 rfl (HasI.size (P := Try.prog) (E := 91) (s := 1) (by_ := 1) inferInstance) (by decide) a w⟩
instance : HasF Try.prog 96 7 7 := ⟨fun a w => fieldAt_of 7 92 7 1 Try.underlying96 rfl (HasI.size (P := Try.prog) (E := 92) (s := 1) (by_ := 8) inferInstance) (by decide) a w⟩
instance : HasF Try.prog 96 8 8 := ⟨fun a w => fieldAt_of 8 93 8 1 Try.underlying96 rfl (HasI.size (P := Try.prog) (E := 93) (s := 1) (by_ := 8) inferInstance) (by decide) a w⟩
instance : HasF Try.prog 96 9 9 := ⟨fun a w => fieldAt_of 9 94 9 1 Try.underlying96 rfl (HasI.size (P := Try.prog) (E := 94) (s := 1) (by_ := 4) inferInstance) (by decide) a w⟩
instance : HasF Try.prog 96 10 10 := ⟨fun a w => fieldAt_of 10 95 10 1 Try.underlying96 rfl (HasI.size (P := Try.prog) (E := 95) (s := 1) (by_ := 4) inferInstance) (by decide) a w⟩
instance : IsAgg Try.prog 97 true := ⟨Try.isAgg97⟩
instance : HasI Try.prog 97 11 48 := ⟨by kernel_rfl⟩
instance : HasZ Try.prog 97 (.agg ([.int .u64 0, .int .u64 0, .int .u32 0, .int .u8 0, .int .u8 0, .int .u8 0, .int .u8 0, .nilFunc, .pointer none, .int .i32 0, .int .i32 0] : List Value).toArray) := ⟨fun _ => by kernel_rfl⟩
instance : HasF Try.prog 97 0 0 := ⟨fun a w => fieldAt_of 0 12 0 1 Try.underlying97 rfl (HasI.size (P := Try.prog) (E := 12) (s := 1) (by_ := 8) inferInstance) (by decide) a w⟩
instance : HasF Try.prog 97 1 1 := ⟨fun a w => fieldAt_of 1 12 1 1 Try.underlying97 rfl (HasI.size (P := Try.prog) (E := 12) (s := 1) (by_ := 8) inferInstance) (by decide) a w⟩
instance : HasF Try.prog 97 2 2 := ⟨fun a w => fieldAt_of 2 89 2 1 Try.underlying97 rfl (HasI.size (P := Try.prog) (E := 89) (s := 1) (by_ := 4) inferInstance) (by decide) a w⟩
instance : HasF Try.prog 97 3 3 := ⟨fun a w => fieldAt_of 3 90 3 1 Try.underlying97 rfl (HasI.size (P := Try.prog) (E := 90) (s := 1) (by_ := 1) inferInstance) (by decide) a w⟩
instance : HasF Try.prog 97 4 4 := ⟨fun a w => fieldAt_of 4 5 4 1 Try.underlying97 rfl (HasI.size (P := Try.prog) (E := 5) (s := 1) (by_ := 1) inferInstance) (by decide) a w⟩
instance : HasF Try.prog 97 5 5 := ⟨fun a w => fieldAt_of 5 5 5 1 Try.underlying97 rfl (HasI.size (P := Try.prog) (E := 5) (s := 1) (by_ := 1) inferInstance) (by decide) a w⟩
instance : HasF Try.prog 97 6 6 := ⟨fun a w => fieldAt_of 6 91 6 1 Try.underlying97 rfl (HasI.size (P := Try.prog) (E := 91) (s := 1) (by_ := 1) inferInstance) (by decide) a w⟩
instance : HasF Try.prog 97 7 7 := ⟨fun a w => fieldAt_of 7 92 7 1 Try.underlying97 rfl (HasI.size (P := Try.prog) (E := 92) (s := 1) (by_ := 8) inferInstance) (by decide) a w⟩
instance : HasF Try.prog 97 8 8 := ⟨fun a w => fieldAt_of 8 93 8 1 Try.underlying97 rfl (HasI.size (P := Try.prog) (E := 93) (s := 1) (by_ := 8) inferInstance) (by decide) a w⟩
instance : HasF Try.prog 97 9 9 := ⟨fun a w => fieldAt_of 9 94 9 1 Try.underlying97 rfl (HasI.size (P := Try.prog) (E := 94) (s := 1) (by_ := 4) inferInstance) (by decide) a w⟩
instance : HasF Try.prog 97 10 10 := ⟨fun a w => fieldAt_of 10 95 10 1 Try.underlying97 rfl (HasI.size (P := Try.prog) (E := 95) (s := 1) (by_ := 4) inferInstance) (by decide) a w⟩
instance : IsAgg Try.prog 98 false := ⟨Try.isAgg98⟩
instance : HasI Try.prog 98 1 8 := ⟨by kernel_rfl⟩
instance : HasZ Try.prog 98 (.pointer none) := ⟨Try.zeroValue98⟩
instance : HasFn Try.prog 2 := ⟨Try.call2⟩
instance : HasFn Try.prog 3 := ⟨Try.call3⟩
instance : HasFn Try.prog 4 := ⟨Try.call4⟩
instance : HasFn Try.prog 5 := ⟨Try.call5⟩
instance : HasFn Try.prog 6 := ⟨Try.call6⟩
instance : HasFn Try.prog 7 := ⟨Try.call7⟩
instance : HasFn Try.prog 8 := ⟨Try.call8⟩
instance : HasFn Try.prog 9 := ⟨Try.call9⟩
instance : HasFn Try.prog 10 := ⟨Try.call10⟩
instance : HasFn Try.prog 11 := ⟨Try.call11⟩
instance : HasFn Try.prog 12 := ⟨Try.call12⟩
instance : HasFn Try.prog 13 := ⟨Try.call13⟩
instance : HasFn Try.prog 14 := ⟨Try.call14⟩
instance : HasFn Try.prog 15 := ⟨Try.call15⟩
instance : HasFn Try.prog 16 := ⟨Try.call16⟩
instance : HasFn Try.prog 17 := ⟨Try.call17⟩
instance : HasFn Try.prog 18 := ⟨Try.call18⟩
instance : HasFn Try.prog 19 := ⟨Try.call19⟩
instance : HasFn Try.prog 20 := ⟨Try.call20⟩
instance : HasFn Try.prog 21 := ⟨Try.call21⟩
instance : HasFn Try.prog 22 := ⟨Try.call22⟩
instance : HasFn Try.prog 23 := ⟨Try.call23⟩
instance : HasFn Try.prog 24 := ⟨Try.call24⟩
instance : HasFn Try.prog 25 := ⟨Try.call25⟩
instance : HasFn Try.prog 26 := ⟨Try.call26⟩
instance : HasFn Try.prog 27 := ⟨Try.call27⟩
instance : HasFn Try.prog 28 := ⟨Try.call28⟩
instance : HasFn Try.prog 29 := ⟨Try.call29⟩
instance : HasFn Try.prog 30 := ⟨Try.call30⟩
instance : HasFn Try.prog 31 := ⟨Try.call31⟩
instance : HasFn Try.prog 32 := ⟨Try.call32⟩
instance : HasFn Try.prog 33 := ⟨Try.call33⟩
instance : HasFn Try.prog 34 := ⟨Try.call34⟩
instance : HasFn Try.prog 35 := ⟨Try.call35⟩
instance : HasFn Try.prog 36 := ⟨Try.call36⟩
instance : HasFn Try.prog 37 := ⟨Try.call37⟩
instance : HasFn Try.prog 38 := ⟨Try.call38⟩
instance : HasFn Try.prog 39 := ⟨Try.call39⟩
instance : HasFn Try.prog 40 := ⟨Try.call40⟩
instance : HasFn Try.prog 41 := ⟨Try.call41⟩
instance : HasFn Try.prog 42 := ⟨Try.call42⟩
end Go.Proofs.Ytgfpibojgkleiaa.MX
