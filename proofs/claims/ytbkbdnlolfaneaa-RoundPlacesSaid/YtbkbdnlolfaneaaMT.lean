/- What the seat's types and functions are, as instances. -/
import Derived.Test.YtbkbdnlolfaneaaProg
import Derived.Test.YtbkbdnlolfaneaaMXM
namespace Go.Proofs.Ytbkbdnlolfaneaa.MX
open Go Go.RowKit
instance : IsAgg Try.prog 1 false := ⟨Try.isAgg1⟩
instance : HasI Try.prog 1 1 8 := ⟨by kernel_rfl⟩
instance : HasZ Try.prog 1 (.nilFunc) := ⟨Try.zeroValue1⟩
instance : HasU Try.prog 2 (.int .i64) := ⟨Try.underlying2⟩
instance : IsAgg Try.prog 2 false := ⟨Try.isAgg2⟩
instance : HasI Try.prog 2 1 8 := ⟨by kernel_rfl⟩
instance : HasZ Try.prog 2 (.int .i64 0) := ⟨Try.zeroValue2⟩
instance : HasU Try.prog 3 (.int .i64) := ⟨Try.underlying3⟩
instance : IsAgg Try.prog 3 false := ⟨Try.isAgg3⟩
instance : HasI Try.prog 3 1 8 := ⟨by kernel_rfl⟩
instance : HasZ Try.prog 3 (.int .i64 0) := ⟨Try.zeroValue3⟩
instance : HasU Try.prog 4 .bool := ⟨Try.underlying4⟩
instance : IsAgg Try.prog 4 false := ⟨Try.isAgg4⟩
instance : HasI Try.prog 4 1 1 := ⟨by kernel_rfl⟩
instance : HasZ Try.prog 4 (.bool false) := ⟨Try.zeroValue4⟩
instance : HasU Try.prog 5 (.int .u8) := ⟨Try.underlying5⟩
instance : IsAgg Try.prog 5 false := ⟨Try.isAgg5⟩
instance : HasI Try.prog 5 1 1 := ⟨by kernel_rfl⟩
instance : HasZ Try.prog 5 (.int .u8 0) := ⟨Try.zeroValue5⟩
instance : HasU Try.prog 6 (.int .u8) := ⟨Try.underlying6⟩
instance : IsAgg Try.prog 6 false := ⟨Try.isAgg6⟩
instance : HasI Try.prog 6 1 1 := ⟨by kernel_rfl⟩
instance : HasZ Try.prog 6 (.int .u8 0) := ⟨Try.zeroValue6⟩
instance : IsAgg Try.prog 7 true := ⟨Try.isAgg7⟩
instance : HasI Try.prog 7 4 24 := ⟨by kernel_rfl⟩
instance : HasZ Try.prog 7 (.agg ([.int .i64 0, .int .i64 0, .bool false, .int .u8 0] : List Value).toArray) := ⟨fun _ => by kernel_rfl⟩
instance : HasF Try.prog 7 0 0 := ⟨fun a w => fieldAt_of 0 2 0 1 Try.underlying7 rfl (HasI.size (P := Try.prog) (E := 2) (s := 1) (by_ := 8) inferInstance) (by decide) a w⟩
instance : HasF Try.prog 7 1 1 := ⟨fun a w => fieldAt_of 1 3 1 1 Try.underlying7 rfl (HasI.size (P := Try.prog) (E := 3) (s := 1) (by_ := 8) inferInstance) (by decide) a w⟩
instance : HasF Try.prog 7 2 2 := ⟨fun a w => fieldAt_of 2 4 2 1 Try.underlying7 rfl (HasI.size (P := Try.prog) (E := 4) (s := 1) (by_ := 1) inferInstance) (by decide) a w⟩
instance : HasF Try.prog 7 3 3 := ⟨fun a w => fieldAt_of 3 6 3 1 Try.underlying7 rfl (HasI.size (P := Try.prog) (E := 6) (s := 1) (by_ := 1) inferInstance) (by decide) a w⟩
instance : IsAgg Try.prog 8 true := ⟨Try.isAgg8⟩
instance : HasI Try.prog 8 4 24 := ⟨by kernel_rfl⟩
instance : HasZ Try.prog 8 (.agg ([.int .i64 0, .int .i64 0, .bool false, .int .u8 0] : List Value).toArray) := ⟨fun _ => by kernel_rfl⟩
instance : HasF Try.prog 8 0 0 := ⟨fun a w => fieldAt_of 0 2 0 1 Try.underlying8 rfl (HasI.size (P := Try.prog) (E := 2) (s := 1) (by_ := 8) inferInstance) (by decide) a w⟩
instance : HasF Try.prog 8 1 1 := ⟨fun a w => fieldAt_of 1 3 1 1 Try.underlying8 rfl (HasI.size (P := Try.prog) (E := 3) (s := 1) (by_ := 8) inferInstance) (by decide) a w⟩
instance : HasF Try.prog 8 2 2 := ⟨fun a w => fieldAt_of 2 4 2 1 Try.underlying8 rfl (HasI.size (P := Try.prog) (E := 4) (s := 1) (by_ := 1) inferInstance) (by decide) a w⟩
instance : HasF Try.prog 8 3 3 := ⟨fun a w => fieldAt_of 3 6 3 1 Try.underlying8 rfl (HasI.size (P := Try.prog) (E := 6) (s := 1) (by_ := 1) inferInstance) (by decide) a w⟩
instance : HasU Try.prog 9 .string := ⟨Try.underlying9⟩
instance : IsAgg Try.prog 9 false := ⟨Try.isAgg9⟩
instance : HasI Try.prog 9 1 16 := ⟨by kernel_rfl⟩
instance : HasZ Try.prog 9 (.string ⟨#[]⟩) := ⟨Try.zeroValue9⟩
instance : HasU Try.prog 10 .string := ⟨Try.underlying10⟩
instance : IsAgg Try.prog 10 false := ⟨Try.isAgg10⟩
instance : HasI Try.prog 10 1 16 := ⟨by kernel_rfl⟩
instance : HasZ Try.prog 10 (.string ⟨#[]⟩) := ⟨Try.zeroValue10⟩
instance : HasU Try.prog 11 .string := ⟨Try.underlying11⟩
instance : IsAgg Try.prog 11 false := ⟨Try.isAgg11⟩
instance : HasI Try.prog 11 1 16 := ⟨by kernel_rfl⟩
instance : HasZ Try.prog 11 (.string ⟨#[]⟩) := ⟨Try.zeroValue11⟩
instance : HasU Try.prog 12 (.int .u64) := ⟨Try.underlying12⟩
instance : IsAgg Try.prog 12 false := ⟨Try.isAgg12⟩
instance : HasI Try.prog 12 1 8 := ⟨by kernel_rfl⟩
instance : HasZ Try.prog 12 (.int .u64 0) := ⟨Try.zeroValue12⟩
instance : IsAgg Try.prog 13 true := ⟨Try.isAgg13⟩
instance : HasI Try.prog 13 2 24 := ⟨by kernel_rfl⟩
instance : HasZ Try.prog 13 (.agg ([.string ⟨#[]⟩, .int .u64 0] : List Value).toArray) := ⟨fun _ => by kernel_rfl⟩
instance : HasF Try.prog 13 0 0 := ⟨fun a w => fieldAt_of 0 9 0 1 Try.underlying13 rfl (HasI.size (P := Try.prog) (E := 9) (s := 1) (by_ := 16) inferInstance) (by decide) a w⟩
instance : HasF Try.prog 13 1 1 := ⟨fun a w => fieldAt_of 1 12 1 1 Try.underlying13 rfl (HasI.size (P := Try.prog) (E := 12) (s := 1) (by_ := 8) inferInstance) (by decide) a w⟩
instance : IsAgg Try.prog 14 true := ⟨Try.isAgg14⟩
instance : HasI Try.prog 14 2 24 := ⟨by kernel_rfl⟩
instance : HasZ Try.prog 14 (.agg ([.string ⟨#[]⟩, .int .u64 0] : List Value).toArray) := ⟨fun _ => by kernel_rfl⟩
instance : HasF Try.prog 14 0 0 := ⟨fun a w => fieldAt_of 0 9 0 1 Try.underlying14 rfl (HasI.size (P := Try.prog) (E := 9) (s := 1) (by_ := 16) inferInstance) (by decide) a w⟩
instance : HasF Try.prog 14 1 1 := ⟨fun a w => fieldAt_of 1 12 1 1 Try.underlying14 rfl (HasI.size (P := Try.prog) (E := 12) (s := 1) (by_ := 8) inferInstance) (by decide) a w⟩
instance : HasU Try.prog 15 (.pointer 58) := ⟨Try.underlying15⟩
instance : IsAgg Try.prog 15 false := ⟨Try.isAgg15⟩
instance : HasI Try.prog 15 1 8 := ⟨by kernel_rfl⟩
instance : HasZ Try.prog 15 (.pointer none) := ⟨Try.zeroValue15⟩
instance : HasU Try.prog 16 (.pointer 61) := ⟨Try.underlying16⟩
instance : IsAgg Try.prog 16 false := ⟨Try.isAgg16⟩
instance : HasI Try.prog 16 1 8 := ⟨by kernel_rfl⟩
instance : HasZ Try.prog 16 (.pointer none) := ⟨Try.zeroValue16⟩
instance : HasU Try.prog 17 (.pointer 71) := ⟨Try.underlying17⟩
instance : IsAgg Try.prog 17 false := ⟨Try.isAgg17⟩
instance : HasI Try.prog 17 1 8 := ⟨by kernel_rfl⟩
instance : HasZ Try.prog 17 (.pointer none) := ⟨Try.zeroValue17⟩
instance : IsAgg Try.prog 18 true := ⟨Try.isAgg18⟩
instance : HasI Try.prog 18 1 8 := ⟨by kernel_rfl⟩
instance : HasZ Try.prog 18 (.agg ([.pointer none] : List Value).toArray) := ⟨fun _ => by kernel_rfl⟩
instance : HasF Try.prog 18 0 0 := ⟨fun a w => fieldAt_of 0 17 0 1 Try.underlying18 rfl (HasI.size (P := Try.prog) (E := 17) (s := 1) (by_ := 8) inferInstance) (by decide) a w⟩
instance : IsAgg Try.prog 19 true := ⟨Try.isAgg19⟩
instance : HasI Try.prog 19 1 8 := ⟨by kernel_rfl⟩
instance : HasZ Try.prog 19 (.agg ([.pointer none] : List Value).toArray) := ⟨fun _ => by kernel_rfl⟩
instance : HasF Try.prog 19 0 0 := ⟨fun a w => fieldAt_of 0 17 0 1 Try.underlying19 rfl (HasI.size (P := Try.prog) (E := 17) (s := 1) (by_ := 8) inferInstance) (by decide) a w⟩
instance : IsAgg Try.prog 20 false := ⟨Try.isAgg20⟩
instance : HasI Try.prog 20 1 16 := ⟨by kernel_rfl⟩
instance : HasZ Try.prog 20 (.nilIface) := ⟨Try.zeroValue20⟩
instance : HasU Try.prog 21 (.int .i32) := ⟨Try.underlying21⟩
instance : IsAgg Try.prog 21 false := ⟨Try.isAgg21⟩
instance : HasI Try.prog 21 1 4 := ⟨by kernel_rfl⟩
instance : HasZ Try.prog 21 (.int .i32 0) := ⟨Try.zeroValue21⟩
instance : IsAgg Try.prog 22 false := ⟨Try.isAgg22⟩
instance : HasI Try.prog 22 1 8 := ⟨by kernel_rfl⟩
instance : HasZ Try.prog 22 (.nilFunc) := ⟨Try.zeroValue22⟩
instance : IsAgg Try.prog 23 false := ⟨Try.isAgg23⟩
instance : HasI Try.prog 23 1 8 := ⟨by kernel_rfl⟩
instance : HasZ Try.prog 23 (.nilFunc) := ⟨Try.zeroValue23⟩
instance : IsAgg Try.prog 25 false := ⟨Try.isAgg25⟩
instance : HasI Try.prog 25 1 8 := ⟨by kernel_rfl⟩
instance : HasZ Try.prog 25 (.nilFunc) := ⟨Try.zeroValue25⟩
instance : IsAgg Try.prog 26 false := ⟨Try.isAgg26⟩
instance : HasI Try.prog 26 1 8 := ⟨by kernel_rfl⟩
instance : HasZ Try.prog 26 (.nilFunc) := ⟨Try.zeroValue26⟩
instance : HasU Try.prog 27 (.int .u64) := ⟨Try.underlying27⟩
instance : IsAgg Try.prog 27 false := ⟨Try.isAgg27⟩
instance : HasI Try.prog 27 1 8 := ⟨by kernel_rfl⟩
instance : HasZ Try.prog 27 (.int .u64 0) := ⟨Try.zeroValue27⟩
instance : IsAgg Try.prog 28 false := ⟨Try.isAgg28⟩
instance : HasI Try.prog 28 1 8 := ⟨by kernel_rfl⟩
instance : HasZ Try.prog 28 (.nilFunc) := ⟨Try.zeroValue28⟩
instance : HasU Try.prog 29 (.slice 3) := ⟨Try.underlying29⟩
instance : IsAgg Try.prog 29 false := ⟨Try.isAgg29⟩
instance : HasI Try.prog 29 1 24 := ⟨by kernel_rfl⟩
instance : HasZ Try.prog 29 (.slice none 0 0) := ⟨Try.zeroValue29⟩
instance : HasU Try.prog 30 (.slice 5) := ⟨Try.underlying30⟩
instance : IsAgg Try.prog 30 false := ⟨Try.isAgg30⟩
instance : HasI Try.prog 30 1 24 := ⟨by kernel_rfl⟩
instance : HasZ Try.prog 30 (.slice none 0 0) := ⟨Try.zeroValue30⟩
instance : IsAgg Try.prog 32 false := ⟨Try.isAgg32⟩
instance : HasI Try.prog 32 1 8 := ⟨by kernel_rfl⟩
instance : HasZ Try.prog 32 (.nilFunc) := ⟨Try.zeroValue32⟩
instance : IsAgg Try.prog 33 false := ⟨Try.isAgg33⟩
instance : HasI Try.prog 33 1 8 := ⟨by kernel_rfl⟩
instance : HasZ Try.prog 33 (.nilFunc) := ⟨Try.zeroValue33⟩
instance : IsAgg Try.prog 34 false := ⟨Try.isAgg34⟩
instance : HasI Try.prog 34 1 8 := ⟨by kernel_rfl⟩
instance : HasZ Try.prog 34 (.nilFunc) := ⟨Try.zeroValue34⟩
instance : IsAgg Try.prog 35 false := ⟨Try.isAgg35⟩
instance : HasI Try.prog 35 1 8 := ⟨by kernel_rfl⟩
instance : HasZ Try.prog 35 (.nilFunc) := ⟨Try.zeroValue35⟩
instance : IsAgg Try.prog 37 false := ⟨Try.isAgg37⟩
instance : HasI Try.prog 37 1 8 := ⟨by kernel_rfl⟩
instance : HasZ Try.prog 37 (.nilFunc) := ⟨Try.zeroValue37⟩
instance : IsAgg Try.prog 38 false := ⟨Try.isAgg38⟩
instance : HasI Try.prog 38 1 8 := ⟨by kernel_rfl⟩
instance : HasZ Try.prog 38 (.nilFunc) := ⟨Try.zeroValue38⟩
instance : IsAgg Try.prog 39 false := ⟨Try.isAgg39⟩
instance : HasI Try.prog 39 1 8 := ⟨by kernel_rfl⟩
instance : HasZ Try.prog 39 (.nilFunc) := ⟨Try.zeroValue39⟩
instance : IsAgg Try.prog 40 false := ⟨Try.isAgg40⟩
instance : HasI Try.prog 40 1 8 := ⟨by kernel_rfl⟩
instance : HasZ Try.prog 40 (.nilFunc) := ⟨Try.zeroValue40⟩
instance : IsAgg Try.prog 41 false := ⟨Try.isAgg41⟩
instance : HasI Try.prog 41 1 8 := ⟨by kernel_rfl⟩
instance : HasZ Try.prog 41 (.nilFunc) := ⟨Try.zeroValue41⟩
instance : IsAgg Try.prog 42 false := ⟨Try.isAgg42⟩
instance : HasI Try.prog 42 1 8 := ⟨by kernel_rfl⟩
instance : HasZ Try.prog 42 (.nilFunc) := ⟨Try.zeroValue42⟩
instance : IsAgg Try.prog 43 false := ⟨Try.isAgg43⟩
instance : HasI Try.prog 43 1 8 := ⟨by kernel_rfl⟩
instance : HasZ Try.prog 43 (.nilFunc) := ⟨Try.zeroValue43⟩
instance : IsAgg Try.prog 44 false := ⟨Try.isAgg44⟩
instance : HasI Try.prog 44 1 8 := ⟨by kernel_rfl⟩
instance : HasZ Try.prog 44 (.nilFunc) := ⟨Try.zeroValue44⟩
instance : HasU Try.prog 45 (.slice 46) := ⟨Try.underlying45⟩
instance : IsAgg Try.prog 45 false := ⟨Try.isAgg45⟩
instance : HasI Try.prog 45 1 24 := ⟨by kernel_rfl⟩
instance : HasZ Try.prog 45 (.slice none 0 0) := ⟨Try.zeroValue45⟩
instance : HasU Try.prog 46 (.slice 4) := ⟨Try.underlying46⟩
instance : IsAgg Try.prog 46 false := ⟨Try.isAgg46⟩
instance : HasI Try.prog 46 1 24 := ⟨by kernel_rfl⟩
instance : HasZ Try.prog 46 (.slice none 0 0) := ⟨Try.zeroValue46⟩
instance : IsAgg Try.prog 47 false := ⟨Try.isAgg47⟩
instance : HasI Try.prog 47 1 8 := ⟨by kernel_rfl⟩
instance : HasZ Try.prog 47 (.nilFunc) := ⟨Try.zeroValue47⟩
instance : HasU Try.prog 48 (.slice 29) := ⟨Try.underlying48⟩
instance : IsAgg Try.prog 48 false := ⟨Try.isAgg48⟩
instance : HasI Try.prog 48 1 24 := ⟨by kernel_rfl⟩
instance : HasZ Try.prog 48 (.slice none 0 0) := ⟨Try.zeroValue48⟩
instance : IsAgg Try.prog 50 false := ⟨Try.isAgg50⟩
instance : HasI Try.prog 50 1 8 := ⟨by kernel_rfl⟩
instance : HasZ Try.prog 50 (.nilFunc) := ⟨Try.zeroValue50⟩
instance : IsAgg Try.prog 51 false := ⟨Try.isAgg51⟩
instance : HasI Try.prog 51 1 8 := ⟨by kernel_rfl⟩
instance : HasZ Try.prog 51 (.nilFunc) := ⟨Try.zeroValue51⟩
instance : IsAgg Try.prog 52 false := ⟨Try.isAgg52⟩
instance : HasI Try.prog 52 1 8 := ⟨by kernel_rfl⟩
instance : HasZ Try.prog 52 (.nilFunc) := ⟨Try.zeroValue52⟩
instance : IsAgg Try.prog 53 false := ⟨Try.isAgg53⟩
instance : HasI Try.prog 53 1 8 := ⟨by kernel_rfl⟩
instance : HasZ Try.prog 53 (.nilFunc) := ⟨Try.zeroValue53⟩
instance : IsAgg Try.prog 54 false := ⟨Try.isAgg54⟩
instance : HasI Try.prog 54 1 8 := ⟨by kernel_rfl⟩
instance : HasZ Try.prog 54 (.nilFunc) := ⟨Try.zeroValue54⟩
instance : IsAgg Try.prog 55 false := ⟨Try.isAgg55⟩
instance : HasI Try.prog 55 1 8 := ⟨by kernel_rfl⟩
instance : HasZ Try.prog 55 (.nilFunc) := ⟨Try.zeroValue55⟩
instance : IsAgg Try.prog 56 false := ⟨Try.isAgg56⟩
instance : HasI Try.prog 56 1 8 := ⟨by kernel_rfl⟩
instance : HasZ Try.prog 56 (.nilFunc) := ⟨Try.zeroValue56⟩
instance : IsAgg Try.prog 57 true := ⟨Try.isAgg57⟩
instance : HasI Try.prog 57 4 40 := ⟨by kernel_rfl⟩
instance : HasZ Try.prog 57 (.agg ([.pointer none, .pointer none, .pointer none, .string ⟨#[]⟩] : List Value).toArray) := ⟨fun _ => by kernel_rfl⟩
instance : HasF Try.prog 57 0 0 := ⟨fun a w => fieldAt_of 0 17 0 1 Try.underlying57 rfl (HasI.size (P := Try.prog) (E := 17) (s := 1) (by_ := 8) inferInstance) (by decide) a w⟩
instance : HasF Try.prog 57 1 1 := ⟨fun a w => fieldAt_of 1 17 1 1 Try.underlying57 rfl (HasI.size (P := Try.prog) (E := 17) (s := 1) (by_ := 8) inferInstance) (by decide) a w⟩
instance : HasF Try.prog 57 2 2 := ⟨fun a w => fieldAt_of 2 17 2 1 Try.underlying57 rfl (HasI.size (P := Try.prog) (E := 17) (s := 1) (by_ := 8) inferInstance) (by decide) a w⟩
instance : HasF Try.prog 57 3 3 := ⟨fun a w => fieldAt_of 3 9 3 1 Try.underlying57 rfl (HasI.size (P := Try.prog) (E := 9) (s := 1) (by_ := 16) inferInstance) (by decide) a w⟩
instance : IsAgg Try.prog 58 true := ⟨Try.isAgg58⟩
instance : HasI Try.prog 58 4 40 := ⟨by kernel_rfl⟩
instance : HasZ Try.prog 58 (.agg ([.pointer none, .pointer none, .pointer none, .string ⟨#[]⟩] : List Value).toArray) := ⟨fun _ => by kernel_rfl⟩
instance : HasF Try.prog 58 0 0 := ⟨fun a w => fieldAt_of 0 17 0 1 Try.underlying58 rfl (HasI.size (P := Try.prog) (E := 17) (s := 1) (by_ := 8) inferInstance) (by decide) a w⟩
instance : HasF Try.prog 58 1 1 := ⟨fun a w => fieldAt_of 1 17 1 1 Try.underlying58 rfl (HasI.size (P := Try.prog) (E := 17) (s := 1) (by_ := 8) inferInstance) (by decide) a w⟩
instance : HasF Try.prog 58 2 2 := ⟨fun a w => fieldAt_of 2 17 2 1 Try.underlying58 rfl (HasI.size (P := Try.prog) (E := 17) (s := 1) (by_ := 8) inferInstance) (by decide) a w⟩
instance : HasF Try.prog 58 3 3 := ⟨fun a w => fieldAt_of 3 9 3 1 Try.underlying58 rfl (HasI.size (P := Try.prog) (E := 9) (s := 1) (by_ := 16) inferInstance) (by decide) a w⟩
instance : HasU Try.prog 59 (.array 0 16) := ⟨Try.underlying59⟩
instance : IsAgg Try.prog 59 true := ⟨Try.isAgg59⟩
instance : HasI Try.prog 59 0 0 := ⟨by kernel_rfl⟩
instance : HasZ Try.prog 59 (.agg ([] : List Value).toArray) := ⟨fun _ => by kernel_rfl⟩
instance : IsAgg Try.prog 60 true := ⟨Try.isAgg60⟩
instance : HasI Try.prog 60 0 0 := ⟨by kernel_rfl⟩
instance : HasZ Try.prog 60 (.agg ([] : List Value).toArray) := ⟨fun _ => by kernel_rfl⟩
instance : IsAgg Try.prog 61 true := ⟨Try.isAgg61⟩
instance : HasI Try.prog 61 0 0 := ⟨by kernel_rfl⟩
instance : HasZ Try.prog 61 (.agg ([] : List Value).toArray) := ⟨fun _ => by kernel_rfl⟩
instance : IsAgg Try.prog 62 false := ⟨Try.isAgg62⟩
instance : HasI Try.prog 62 1 8 := ⟨by kernel_rfl⟩
instance : HasZ Try.prog 62 (.nilFunc) := ⟨Try.zeroValue62⟩
instance : HasU Try.prog 63 (.int .u32) := ⟨Try.underlying63⟩
instance : IsAgg Try.prog 63 false := ⟨Try.isAgg63⟩
instance : HasI Try.prog 63 1 4 := ⟨by kernel_rfl⟩
instance : HasZ Try.prog 63 (.int .u32 0) := ⟨Try.zeroValue63⟩
instance : HasU Try.prog 64 (.int .u8) := ⟨Try.underlying64⟩
instance : IsAgg Try.prog 64 false := ⟨Try.isAgg64⟩
instance : HasI Try.prog 64 1 1 := ⟨by kernel_rfl⟩
instance : HasZ Try.prog 64 (.int .u8 0) := ⟨Try.zeroValue64⟩
instance : HasU Try.prog 65 (.int .u8) := ⟨Try.underlying65⟩
instance : IsAgg Try.prog 65 false := ⟨Try.isAgg65⟩
instance : HasI Try.prog 65 1 1 := ⟨by kernel_rfl⟩
instance : HasZ Try.prog 65 (.int .u8 0) := ⟨Try.zeroValue65⟩
instance : IsAgg Try.prog 66 false := ⟨Try.isAgg66⟩
instance : HasI Try.prog 66 1 8 := ⟨by kernel_rfl⟩
instance : HasZ Try.prog 66 (.nilFunc) := ⟨Try.zeroValue66⟩
instance : HasU Try.prog 67 (.pointer 5) := ⟨Try.underlying67⟩
instance : IsAgg Try.prog 67 false := ⟨Try.isAgg67⟩
instance : HasI Try.prog 67 1 8 := ⟨by kernel_rfl⟩
instance : HasZ Try.prog 67 (.pointer none) := ⟨Try.zeroValue67⟩
instance : HasU Try.prog 68 (.int .i32) := ⟨Try.underlying68⟩
instance : IsAgg Try.prog 68 false := ⟨Try.isAgg68⟩
instance : HasI Try.prog 68 1 4 := ⟨by kernel_rfl⟩
instance : HasZ Try.prog 68 (.int .i32 0) := ⟨Try.zeroValue68⟩
instance : HasU Try.prog 69 (.int .i32) := ⟨Try.underlying69⟩
instance : IsAgg Try.prog 69 false := ⟨Try.isAgg69⟩
instance : HasI Try.prog 69 1 4 := ⟨by kernel_rfl⟩
instance : HasZ Try.prog 69 (.int .i32 0) := ⟨Try.zeroValue69⟩
instance : IsAgg Try.prog 70 true := ⟨Try.isAgg70⟩
instance : HasI Try.prog 70 11 48 := ⟨by kernel_rfl⟩
instance : HasZ Try.prog 70 (.agg ([.int .u64 0, .int .u64 0, .int .u32 0, .int .u8 0, .int .u8 0, .int .u8 0, .int .u8 0, .nilFunc, .pointer none, .int .i32 0, .int .i32 0] : List Value).toArray) := ⟨fun _ => by kernel_rfl⟩
instance : HasF Try.prog 70 0 0 := ⟨fun a w => fieldAt_of 0 12 0 1 Try.underlying70 rfl (HasI.size (P := Try.prog) (E := 12) (s := 1) (by_ := 8) inferInstance) (by decide) a w⟩
instance : HasF Try.prog 70 1 1 := ⟨fun a w => fieldAt_of 1 12 1 1 Try.underlying70 rfl (HasI.size (P := Try.prog) (E := 12) (s := 1) (by_ := 8) inferInstance) (by decide) a w⟩
instance : HasF Try.prog 70 2 2 := ⟨fun a w => fieldAt_of 2 63 2 1 Try.underlying70 rfl (HasI.size (P := Try.prog) (E := 63) (s := 1) (by_ := 4) inferInstance) (by decide) a w⟩
instance : HasF Try.prog 70 3 3 := ⟨fun a w => fieldAt_of 3 64 3 1 Try.underlying70 rfl (HasI.size (P := Try.prog) (E := 64) (s := 1) (by_ := 1) inferInstance) (by decide) a w⟩
instance : HasF Try.prog 70 4 4 := ⟨fun a w => fieldAt_of 4 5 4 1 Try.underlying70 rfl (HasI.size (P := Try.prog) (E := 5) (s := 1) (by_ := 1) inferInstance) (by decide) a w⟩
instance : HasF Try.prog 70 5 5 := ⟨fun a w => fieldAt_of 5 5 5 1 Try.underlying70 rfl (HasI.size (P := Try.prog) (E := 5) (s := 1) (by_ := 1) inferInstance) (by decide) a w⟩
instance : HasF Try.prog 70 6 6 := ⟨fun a w => fieldAt_of 6 65 6 1 Try.underlying70 rfl (HasI.size (P := Try.prog) (E := 65) (s := 1) (by_ := 1) inferInstance) (by decide) a w⟩
instance : HasF Try.prog 70 7 7 := ⟨fun a w => fieldAt_of 7 66 7 1 Try.underlying70 rfl (HasI.size (P := Try.prog) (E := 66) (s := 1) (by_ := 8) inferInstance) (by decide) a w⟩
instance : HasF Try.prog 70 8 8 := ⟨fun a w => fieldAt_of 8 67 8 1 Try.underlying70 rfl (HasI.size (P := Try.prog) (E := 67) (s := 1) (by_ := 8) inferInstance) (by decide) a w⟩
instance : HasF Try.prog 70 9 9 := ⟨fun a w => fieldAt_of 9 68 9 1 Try.underlying70 rfl (HasI.size (P := Try.prog) (E := 68) (s := 1) (by_ := 4) inferInstance) (by decide) a w⟩
instance : HasF Try.prog 70 10 10 := ⟨fun a w => fieldAt_of 10 69 10 1 Try.underlying70 rfl (HasI.size (P := Try.prog) (E := 69) (s := 1) (by_ := 4) inferInstance) (by decide) a w⟩
instance : IsAgg Try.prog 71 true := ⟨Try.isAgg71⟩
instance : HasI Try.prog 71 11 48 := ⟨by kernel_rfl⟩
instance : HasZ Try.prog 71 (.agg ([.int .u64 0, .int .u64 0, .int .u32 0, .int .u8 0, .int .u8 0, .int .u8 0, .int .u8 0, .nilFunc, .pointer none, .int .i32 0, .int .i32 0] : List Value).toArray) := ⟨fun _ => by kernel_rfl⟩
instance : HasF Try.prog 71 0 0 := ⟨fun a w => fieldAt_of 0 12 0 1 Try.underlying71 rfl (HasI.size (P := Try.prog) (E := 12) (s := 1) (by_ := 8) inferInstance) (by decide) a w⟩
instance : HasF Try.prog 71 1 1 := ⟨fun a w => fieldAt_of 1 12 1 1 Try.underlying71 rfl (HasI.size (P := Try.prog) (E := 12) (s := 1) (by_ := 8) inferInstance) (by decide) a w⟩
instance : HasF Try.prog 71 2 2 := ⟨fun a w => fieldAt_of 2 63 2 1 Try.underlying71 rfl (HasI.size (P := Try.prog) (E := 63) (s := 1) (by_ := 4) inferInstance) (by decide) a w⟩
instance : HasF Try.prog 71 3 3 := ⟨fun a w => fieldAt_of 3 64 3 1 Try.underlying71 rfl (HasI.size (P := Try.prog) (E := 64) (s := 1) (by_ := 1) inferInstance) (by decide) a w⟩
instance : HasF Try.prog 71 4 4 := ⟨fun a w => fieldAt_of 4 5 4 1 Try.underlying71 rfl (HasI.size (P := Try.prog) (E := 5) (s := 1) (by_ := 1) inferInstance) (by decide) a w⟩
instance : HasF Try.prog 71 5 5 := ⟨fun a w => fieldAt_of 5 5 5 1 Try.underlying71 rfl (HasI.size (P := Try.prog) (E := 5) (s := 1) (by_ := 1) inferInstance) (by decide) a w⟩
instance : HasF Try.prog 71 6 6 := ⟨fun a w => fieldAt_of 6 65 6 1 Try.underlying71 rfl (HasI.size (P := Try.prog) (E := 65) (s := 1) (by_ := 1) inferInstance) (by decide) a w⟩
instance : HasF Try.prog 71 7 7 := ⟨fun a w => fieldAt_of 7 66 7 1 Try.underlying71 rfl (HasI.size (P := Try.prog) (E := 66) (s := 1) (by_ := 8) inferInstance) (by decide) a w⟩
instance : HasF Try.prog 71 8 8 := ⟨fun a w => fieldAt_of 8 67 8 1 Try.underlying71 rfl (HasI.size (P := Try.prog) (E := 67) (s := 1) (by_ := 8) inferInstance) (by decide) a w⟩
instance : HasF Try.prog 71 9 9 := ⟨fun a w => fieldAt_of 9 68 9 1 Try.underlying71 rfl (HasI.size (P := Try.prog) (E := 68) (s := 1) (by_ := 4) inferInstance) (by decide) a w⟩
instance : HasF Try.prog 71 10 10 := ⟨fun a w => fieldAt_of 10 69 10 1 Try.underlying71 rfl (HasI.size (P := Try.prog) (E := 69) (s := 1) (by_ := 4) inferInstance) (by decide) a w⟩
instance : IsAgg Try.prog 72 false := ⟨Try.isAgg72⟩
instance : HasI Try.prog 72 1 8 := ⟨by kernel_rfl⟩
instance : HasZ Try.prog 72 (.pointer none) := ⟨Try.zeroValue72⟩
instance : HasFn Try.prog 2 := ⟨Try.call2⟩
instance : HasFn Try.prog 3 := ⟨Try.call3⟩
instance : HasFn Try.prog 4 := ⟨Try.call4⟩
instance : HasFn Try.prog 5 := ⟨Try.call5⟩
instance : HasFn Try.prog 6 := ⟨Try.call6⟩
instance : HasFn Try.prog 7 := ⟨Try.call7⟩
instance : HasFn Try.prog 8 := ⟨Try.call8⟩
instance : HasFn Try.prog 9 := ⟨Try.call9⟩
instance : HasFn Try.prog 10 := ⟨Try.call10⟩
instance : HasFn Try.prog 11 := ⟨Try.call11⟩
instance : HasFn Try.prog 12 := ⟨Try.call12⟩
instance : HasFn Try.prog 13 := ⟨Try.call13⟩
instance : HasFn Try.prog 14 := ⟨Try.call14⟩
instance : HasFn Try.prog 15 := ⟨Try.call15⟩
instance : HasFn Try.prog 16 := ⟨Try.call16⟩
instance : HasFn Try.prog 17 := ⟨Try.call17⟩
instance : HasFn Try.prog 18 := ⟨Try.call18⟩
instance : HasFn Try.prog 19 := ⟨Try.call19⟩
instance : HasFn Try.prog 20 := ⟨Try.call20⟩
instance : HasFn Try.prog 21 := ⟨Try.call21⟩
instance : HasFn Try.prog 22 := ⟨Try.call22⟩
instance : HasFn Try.prog 23 := ⟨Try.call23⟩
instance : HasFn Try.prog 24 := ⟨Try.call24⟩
instance : HasFn Try.prog 25 := ⟨Try.call25⟩
instance : HasFn Try.prog 26 := ⟨Try.call26⟩
instance : HasFn Try.prog 27 := ⟨Try.call27⟩
instance : HasFn Try.prog 28 := ⟨Try.call28⟩
instance : HasFn Try.prog 29 := ⟨Try.call29⟩
instance : HasFn Try.prog 30 := ⟨Try.call30⟩
instance : HasFn Try.prog 31 := ⟨Try.call31⟩
instance : HasFn Try.prog 32 := ⟨Try.call32⟩
instance : HasFn Try.prog 33 := ⟨Try.call33⟩
instance : HasFn Try.prog 34 := ⟨Try.call34⟩
instance : HasFn Try.prog 35 := ⟨Try.call35⟩
end Go.Proofs.Ytbkbdnlolfaneaa.MX
