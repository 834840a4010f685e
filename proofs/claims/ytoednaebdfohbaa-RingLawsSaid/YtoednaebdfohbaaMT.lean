/- What the seat's types and functions are, as instances. -/
import Derived.Test.YtoednaebdfohbaaProg
import Derived.Test.YtoednaebdfohbaaMXM
namespace Go.Proofs.Ytoednaebdfohbaa.MX
open Go Go.RowKit
instance : IsAgg Try.prog 1 false := ⟨Try.isAgg1⟩
instance : HasI Try.prog 1 1 8 := ⟨by kernel_rfl⟩
instance : HasZ Try.prog 1 (.nilFunc) := ⟨Try.zeroValue1⟩
instance : HasU Try.prog 2 (.int .i64) := ⟨Try.underlying2⟩
instance : IsAgg Try.prog 2 false := ⟨Try.isAgg2⟩
instance : HasI Try.prog 2 1 8 := ⟨by kernel_rfl⟩
instance : HasZ Try.prog 2 (.int .i64 0) := ⟨Try.zeroValue2⟩
instance : HasU Try.prog 3 (.int .i64) := ⟨Try.underlying3⟩
instance : IsAgg Try.prog 3 false := ⟨Try.isAgg3⟩
instance : HasI Try.prog 3 1 8 := ⟨by kernel_rfl⟩
instance : HasZ Try.prog 3 (.int .i64 0) := ⟨Try.zeroValue3⟩
instance : HasU Try.prog 4 .bool := ⟨Try.underlying4⟩
instance : IsAgg Try.prog 4 false := ⟨Try.isAgg4⟩
instance : HasI Try.prog 4 1 1 := ⟨by kernel_rfl⟩
instance : HasZ Try.prog 4 (.bool false) := ⟨Try.zeroValue4⟩
instance : HasU Try.prog 5 (.int .u8) := ⟨Try.underlying5⟩
instance : IsAgg Try.prog 5 false := ⟨Try.isAgg5⟩
instance : HasI Try.prog 5 1 1 := ⟨by kernel_rfl⟩
instance : HasZ Try.prog 5 (.int .u8 0) := ⟨Try.zeroValue5⟩
instance : HasU Try.prog 6 (.int .u8) := ⟨Try.underlying6⟩
instance : IsAgg Try.prog 6 false := ⟨Try.isAgg6⟩
instance : HasI Try.prog 6 1 1 := ⟨by kernel_rfl⟩
instance : HasZ Try.prog 6 (.int .u8 0) := ⟨Try.zeroValue6⟩
instance : IsAgg Try.prog 7 true := ⟨Try.isAgg7⟩
instance : HasI Try.prog 7 4 24 := ⟨by kernel_rfl⟩
instance : HasZ Try.prog 7 (.agg ([.int .i64 0, .int .i64 0, .bool false, .int .u8 0] : List Value).toArray) := ⟨fun _ => by kernel_rfl⟩
instance : HasF Try.prog 7 0 0 := ⟨fun a w => fieldAt_of 0 2 0 1 Try.underlying7 rfl (HasI.size (P := Try.prog) (E := 2) (s := 1) (by_ := 8) inferInstance) (by decide) a w⟩
instance : HasF Try.prog 7 1 1 := ⟨fun a w => fieldAt_of 1 3 1 1 Try.underlying7 rfl (HasI.size (P := Try.prog) (E := 3) (s := 1) (by_ := 8) inferInstance) (by decide) a w⟩
instance : HasF Try.prog 7 2 2 := ⟨fun a w => fieldAt_of 2 4 2 1 Try.underlying7 rfl (HasI.size (P := Try.prog) (E := 4) (s := 1) (by_ := 1) inferInstance) (by decide) a w⟩
instance : HasF Try.prog 7 3 3 := ⟨fun a w => fieldAt_of 3 6 3 1 Try.underlying7 rfl (HasI.size (P := Try.prog) (E := 6) (s := 1) (by_ := 1) inferInstance) (by decide) a w⟩
instance : IsAgg Try.prog 8 true := ⟨Try.isAgg8⟩
instance : HasI Try.prog 8 4 24 := ⟨by kernel_rfl⟩
instance : HasZ Try.prog 8 (.agg ([.int .i64 0, .int .i64 0, .bool false, .int .u8 0] : List Value).toArray) := ⟨fun _ => by kernel_rfl⟩
instance : HasF Try.prog 8 0 0 := ⟨fun a w => fieldAt_of 0 2 0 1 Try.underlying8 rfl (HasI.size (P := Try.prog) (E := 2) (s := 1) (by_ := 8) inferInstance) (by decide) a w⟩
instance : HasF Try.prog 8 1 1 := ⟨fun a w => fieldAt_of 1 3 1 1 Try.underlying8 rfl (HasI.size (P := Try.prog) (E := 3) (s := 1) (by_ := 8) inferInstance) (by decide) a w⟩
instance : HasF Try.prog 8 2 2 := ⟨fun a w => fieldAt_of 2 4 2 1 Try.underlying8 rfl (HasI.size (P := Try.prog) (E := 4) (s := 1) (by_ := 1) inferInstance) (by decide) a w⟩
instance : HasF Try.prog 8 3 3 := ⟨fun a w => fieldAt_of 3 6 3 1 Try.underlying8 rfl (HasI.size (P := Try.prog) (E := 6) (s := 1) (by_ := 1) inferInstance) (by decide) a w⟩
instance : HasU Try.prog 9 .string := ⟨Try.underlying9⟩
instance : IsAgg Try.prog 9 false := ⟨Try.isAgg9⟩
instance : HasI Try.prog 9 1 16 := ⟨by kernel_rfl⟩
instance : HasZ Try.prog 9 (.string ⟨#[]⟩) := ⟨Try.zeroValue9⟩
instance : HasU Try.prog 10 .string := ⟨Try.underlying10⟩
instance : IsAgg Try.prog 10 false := ⟨Try.isAgg10⟩
instance : HasI Try.prog 10 1 16 := ⟨by kernel_rfl⟩
instance : HasZ Try.prog 10 (.string ⟨#[]⟩) := ⟨Try.zeroValue10⟩
instance : HasU Try.prog 11 .string := ⟨Try.underlying11⟩
instance : IsAgg Try.prog 11 false := ⟨Try.isAgg11⟩
instance : HasI Try.prog 11 1 16 := ⟨by kernel_rfl⟩
instance : HasZ Try.prog 11 (.string ⟨#[]⟩) := ⟨Try.zeroValue11⟩
instance : HasU Try.prog 12 (.int .u64) := ⟨Try.underlying12⟩
instance : IsAgg Try.prog 12 false := ⟨Try.isAgg12⟩
instance : HasI Try.prog 12 1 8 := ⟨by kernel_rfl⟩
instance : HasZ Try.prog 12 (.int .u64 0) := ⟨Try.zeroValue12⟩
instance : IsAgg Try.prog 13 true := ⟨Try.isAgg13⟩
instance : HasI Try.prog 13 2 24 := ⟨by kernel_rfl⟩
instance : HasZ Try.prog 13 (.agg ([.string ⟨#[]⟩, .int .u64 0] : List Value).toArray) := ⟨fun _ => by kernel_rfl⟩
instance : HasF Try.prog 13 0 0 := ⟨fun a w => fieldAt_of 0 9 0 1 Try.underlying13 rfl (HasI.size (P := Try.prog) (E := 9) (s := 1) (by_ := 16) inferInstance) (by decide) a w⟩
instance : HasF Try.prog 13 1 1 := ⟨fun a w => fieldAt_of 1 12 1 1 Try.underlying13 rfl (HasI.size (P := Try.prog) (E := 12) (s := 1) (by_ := 8) inferInstance) (by decide) a w⟩
instance : IsAgg Try.prog 14 true := ⟨Try.isAgg14⟩
instance : HasI Try.prog 14 2 24 := ⟨by kernel_rfl⟩
instance : HasZ Try.prog 14 (.agg ([.string ⟨#[]⟩, .int .u64 0] : List Value).toArray) := ⟨fun _ => by kernel_rfl⟩
instance : HasF Try.prog 14 0 0 := ⟨fun a w => fieldAt_of 0 9 0 1 Try.underlying14 rfl (HasI.size (P := Try.prog) (E := 9) (s := 1) (by_ := 16) inferInstance) (by decide) a w⟩
instance : HasF Try.prog 14 1 1 := ⟨fun a w => fieldAt_of 1 12 1 1 Try.underlying14 rfl (HasI.size (P := Try.prog) (E := 12) (s := 1) (by_ := 8) inferInstance) (by decide) a w⟩
instance : HasU Try.prog 15 (.pointer 43) := ⟨Try.underlying15⟩
instance : IsAgg Try.prog 15 false := ⟨Try.isAgg15⟩
instance : HasI Try.prog 15 1 8 := ⟨by kernel_rfl⟩
instance : HasZ Try.prog 15 (.pointer none) := ⟨Try.zeroValue15⟩
instance : HasU Try.prog 16 (.pointer 46) := ⟨Try.underlying16⟩
instance : IsAgg Try.prog 16 false := ⟨Try.isAgg16⟩
instance : HasI Try.prog 16 1 8 := ⟨by kernel_rfl⟩
instance : HasZ Try.prog 16 (.pointer none) := ⟨Try.zeroValue16⟩
instance : HasU Try.prog 17 (.pointer 56) := ⟨Try.underlying17⟩
instance : IsAgg Try.prog 17 false := ⟨Try.isAgg17⟩
instance : HasI Try.prog 17 1 8 := ⟨by kernel_rfl⟩
instance : HasZ Try.prog 17 (.pointer none) := ⟨Try.zeroValue17⟩
instance : IsAgg Try.prog 18 true := ⟨Try.isAgg18⟩
instance : HasI Try.prog 18 1 8 := ⟨by kernel_rfl⟩
instance : HasZ Try.prog 18 (.agg ([.pointer none] : List Value).toArray) := ⟨fun _ => by kernel_rfl⟩
instance : HasF Try.prog 18 0 0 := ⟨fun a w => fieldAt_of 0 17 0 1 Try.underlying18 rfl (HasI.size (P := Try.prog) (E := 17) (s := 1) (by_ := 8) inferInstance) (by decide) a w⟩
instance : IsAgg Try.prog 19 true := ⟨Try.isAgg19⟩
instance : HasI Try.prog 19 1 8 := ⟨by kernel_rfl⟩
instance : HasZ Try.prog 19 (.agg ([.pointer none] : List Value).toArray) := ⟨fun _ => by kernel_rfl⟩
instance : HasF Try.prog 19 0 0 := ⟨fun a w => fieldAt_of 0 17 0 1 Try.underlying19 rfl (HasI.size (P := Try.prog) (E := 17) (s := 1) (by_ := 8) inferInstance) (by decide) a w⟩
instance : IsAgg Try.prog 20 false := ⟨Try.isAgg20⟩
instance : HasI Try.prog 20 1 16 := ⟨by kernel_rfl⟩
instance : HasZ Try.prog 20 (.nilIface) := ⟨Try.zeroValue20⟩
instance : HasU Try.prog 21 (.int .i32) := ⟨Try.underlying21⟩
instance : IsAgg Try.prog 21 false := ⟨Try.isAgg21⟩
instance : HasI Try.prog 21 1 4 := ⟨by kernel_rfl⟩
instance : HasZ Try.prog 21 (.int .i32 0) := ⟨Try.zeroValue21⟩
instance : HasU Try.prog 22 (.slice 3) := ⟨Try.underlying22⟩
instance : IsAgg Try.prog 22 false := ⟨Try.isAgg22⟩
instance : HasI Try.prog 22 1 24 := ⟨by kernel_rfl⟩
instance : HasZ Try.prog 22 (.slice none 0 0) := ⟨Try.zeroValue22⟩
instance : IsAgg Try.prog 23 false := ⟨Try.isAgg23⟩
instance : HasI Try.prog 23 1 8 := ⟨by kernel_rfl⟩
instance : HasZ Try.prog 23 (.nilFunc) := ⟨Try.zeroValue23⟩
instance : IsAgg Try.prog 24 false := ⟨Try.isAgg24⟩
instance : HasI Try.prog 24 1 8 := ⟨by kernel_rfl⟩
instance : HasZ Try.prog 24 (.nilFunc) := ⟨Try.zeroValue24⟩
instance : IsAgg Try.prog 26 false := ⟨Try.isAgg26⟩
instance : HasI Try.prog 26 1 8 := ⟨by kernel_rfl⟩
instance : HasZ Try.prog 26 (.nilFunc) := ⟨Try.zeroValue26⟩
instance : IsAgg Try.prog 27 false := ⟨Try.isAgg27⟩
instance : HasI Try.prog 27 1 8 := ⟨by kernel_rfl⟩
instance : HasZ Try.prog 27 (.nilFunc) := ⟨Try.zeroValue27⟩
instance : IsAgg Try.prog 28 false := ⟨Try.isAgg28⟩
instance : HasI Try.prog 28 1 8 := ⟨by kernel_rfl⟩
instance : HasZ Try.prog 28 (.nilFunc) := ⟨Try.zeroValue28⟩
instance : IsAgg Try.prog 29 false := ⟨Try.isAgg29⟩
instance : HasI Try.prog 29 1 8 := ⟨by kernel_rfl⟩
instance : HasZ Try.prog 29 (.nilFunc) := ⟨Try.zeroValue29⟩
instance : IsAgg Try.prog 30 false := ⟨Try.isAgg30⟩
instance : HasI Try.prog 30 1 8 := ⟨by kernel_rfl⟩
instance : HasZ Try.prog 30 (.nilFunc) := ⟨Try.zeroValue30⟩
instance : IsAgg Try.prog 31 false := ⟨Try.isAgg31⟩
instance : HasI Try.prog 31 1 8 := ⟨by kernel_rfl⟩
instance : HasZ Try.prog 31 (.nilFunc) := ⟨Try.zeroValue31⟩
instance : IsAgg Try.prog 32 false := ⟨Try.isAgg32⟩
instance : HasI Try.prog 32 1 8 := ⟨by kernel_rfl⟩
instance : HasZ Try.prog 32 (.nilFunc) := ⟨Try.zeroValue32⟩
instance : IsAgg Try.prog 33 false := ⟨Try.isAgg33⟩
instance : HasI Try.prog 33 1 8 := ⟨by kernel_rfl⟩
instance : HasZ Try.prog 33 (.nilFunc) := ⟨Try.zeroValue33⟩
instance : IsAgg Try.prog 34 false := ⟨Try.isAgg34⟩
instance : HasI Try.prog 34 1 8 := ⟨by kernel_rfl⟩
instance : HasZ Try.prog 34 (.nilFunc) := ⟨Try.zeroValue34⟩
instance : IsAgg Try.prog 35 false := ⟨Try.isAgg35⟩
instance : HasI Try.prog 35 1 8 := ⟨by kernel_rfl⟩
instance : HasZ Try.prog 35 (.nilFunc) := ⟨Try.zeroValue35⟩
instance : HasU Try.prog 36 (.array 256 3) := ⟨Try.underlying36⟩
instance : IsAgg Try.prog 36 true := ⟨Try.isAgg36⟩
instance : HasI Try.prog 36 256 2048 := ⟨by kernel_rfl⟩
instance : HasZI Try.prog 36 .i64 256 := ⟨fun _ => by kernel_rfl⟩
instance : IsAgg Try.prog 37 false := ⟨Try.isAgg37⟩
instance : HasI Try.prog 37 1 8 := ⟨by kernel_rfl⟩
instance : HasZ Try.prog 37 (.nilFunc) := ⟨Try.zeroValue37⟩
instance : IsAgg Try.prog 38 false := ⟨Try.isAgg38⟩
instance : HasI Try.prog 38 1 8 := ⟨by kernel_rfl⟩
instance : HasZ Try.prog 38 (.nilFunc) := ⟨Try.zeroValue38⟩
instance : IsAgg Try.prog 39 false := ⟨Try.isAgg39⟩
instance : HasI Try.prog 39 1 8 := ⟨by kernel_rfl⟩
instance : HasZ Try.prog 39 (.nilFunc) := ⟨Try.zeroValue39⟩
instance : HasU Try.prog 40 (.int .u64) := ⟨Try.underlying40⟩
instance : IsAgg Try.prog 40 false := ⟨Try.isAgg40⟩
instance : HasI Try.prog 40 1 8 := ⟨by kernel_rfl⟩
instance : HasZ Try.prog 40 (.int .u64 0) := ⟨Try.zeroValue40⟩
instance : IsAgg Try.prog 41 false := ⟨Try.isAgg41⟩
instance : HasI Try.prog 41 1 8 := ⟨by kernel_rfl⟩
instance : HasZ Try.prog 41 (.nilFunc) := ⟨Try.zeroValue41⟩
instance : IsAgg Try.prog 42 true := ⟨Try.isAgg42⟩
instance : HasI Try.prog 42 4 40 := ⟨by kernel_rfl⟩
instance : HasZ Try.prog 42 (.agg ([.pointer none, .pointer none, .pointer none, .string ⟨#[]⟩] : List Value).toArray) := ⟨fun _ => by kernel_rfl⟩
instance : HasF Try.prog 42 0 0 := ⟨fun a w => fieldAt_of 0 17 0 1 Try.underlying42 rfl (HasI.size (P := Try.prog) (E := 17) (s := 1) (by_ := 8) inferInstance) (by decide) a w⟩
instance : HasF Try.prog 42 1 1 := ⟨fun a w => fieldAt_of 1 17 1 1 Try.underlying42 rfl (HasI.size (P := Try.prog) (E := 17) (s := 1) (by_ := 8) inferInstance) (by decide) a w⟩
instance : HasF Try.prog 42 2 2 := ⟨fun a w => fieldAt_of 2 17 2 1 Try.underlying42 rfl (HasI.size (P := Try.prog) (E := 17) (s := 1) (by_ := 8) inferInstance) (by decide) a w⟩
instance : HasF Try.prog 42 3 3 := ⟨fun a w => fieldAt_of 3 9 3 1 Try.underlying42 rfl (HasI.size (P := Try.prog) (E := 9) (s := 1) (by_ := 16) inferInstance) (by decide) a w⟩
instance : IsAgg Try.prog 43 true := ⟨Try.isAgg43⟩
instance : HasI Try.prog 43 4 40 := ⟨by kernel_rfl⟩
instance : HasZ Try.prog 43 (.agg ([.pointer none, .pointer none, .pointer none, .string ⟨#[]⟩] : List Value).toArray) := ⟨fun _ => by kernel_rfl⟩
instance : HasF Try.prog 43 0 0 := ⟨fun a w => fieldAt_of 0 17 0 1 Try.underlying43 rfl (HasI.size (P := Try.prog) (E := 17) (s := 1) (by_ := 8) inferInstance) (by decide) a w⟩
instance : HasF Try.prog 43 1 1 := ⟨fun a w => fieldAt_of 1 17 1 1 Try.underlying43 rfl (HasI.size (P := Try.prog) (E := 17) (s := 1) (by_ := 8) inferInstance) (by decide) a w⟩
instance : HasF Try.prog 43 2 2 := ⟨fun a w => fieldAt_of 2 17 2 1 Try.underlying43 rfl (HasI.size (P := Try.prog) (E := 17) (s := 1) (by_ := 8) inferInstance) (by decide) a w⟩
instance : HasF Try.prog 43 3 3 := ⟨fun a w => fieldAt_of 3 9 3 1 Try.underlying43 rfl (HasI.size (P := Try.prog) (E := 9) (s := 1) (by_ := 16) inferInstance) (by decide) a w⟩
instance : HasU Try.prog 44 (.array 0 16) := ⟨Try.underlying44⟩
instance : IsAgg Try.prog 44 true := ⟨Try.isAgg44⟩
instance : HasI Try.prog 44 0 0 := ⟨by kernel_rfl⟩
instance : HasZ Try.prog 44 (.agg ([] : List Value).toArray) := ⟨fun _ => by kernel_rfl⟩
instance : IsAgg Try.prog 45 true := ⟨Try.isAgg45⟩
instance : HasI Try.prog 45 0 0 := ⟨by kernel_rfl⟩
instance : HasZ Try.prog 45 (.agg ([] : List Value).toArray) := ⟨fun _ => by kernel_rfl⟩
instance : IsAgg Try.prog 46 true := ⟨Try.isAgg46⟩
instance : HasI Try.prog 46 0 0 := ⟨by kernel_rfl⟩
instance : HasZ Try.prog 46 (.agg ([] : List Value).toArray) := ⟨fun _ => by kernel_rfl⟩
instance : IsAgg Try.prog 47 false := ⟨Try.isAgg47⟩
instance : HasI Try.prog 47 1 8 := ⟨by kernel_rfl⟩
instance : HasZ Try.prog 47 (.nilFunc) := ⟨Try.zeroValue47⟩
instance : HasU Try.prog 48 (.int .u32) := ⟨Try.underlying48⟩
instance : IsAgg Try.prog 48 false := ⟨Try.isAgg48⟩
instance : HasI Try.prog 48 1 4 := ⟨by kernel_rfl⟩
instance : HasZ Try.prog 48 (.int .u32 0) := ⟨Try.zeroValue48⟩
instance : HasU Try.prog 49 (.int .u8) := ⟨Try.underlying49⟩
instance : IsAgg Try.prog 49 false := ⟨Try.isAgg49⟩
instance : HasI Try.prog 49 1 1 := ⟨by kernel_rfl⟩
instance : HasZ Try.prog 49 (.int .u8 0) := ⟨Try.zeroValue49⟩
instance : HasU Try.prog 50 (.int .u8) := ⟨Try.underlying50⟩
instance : IsAgg Try.prog 50 false := ⟨Try.isAgg50⟩
instance : HasI Try.prog 50 1 1 := ⟨by kernel_rfl⟩
instance : HasZ Try.prog 50 (.int .u8 0) := ⟨Try.zeroValue50⟩
instance : IsAgg Try.prog 51 false := ⟨Try.isAgg51⟩
instance : HasI Try.prog 51 1 8 := ⟨by kernel_rfl⟩
instance : HasZ Try.prog 51 (.nilFunc) := ⟨Try.zeroValue51⟩
instance : HasU Try.prog 52 (.pointer 5) := ⟨Try.underlying52⟩
instance : IsAgg Try.prog 52 false := ⟨Try.isAgg52⟩
instance : HasI Try.prog 52 1 8 := ⟨by kernel_rfl⟩
instance : HasZ Try.prog 52 (.pointer none) := ⟨Try.zeroValue52⟩
instance : HasU Try.prog 53 (.int .i32) := ⟨Try.underlying53⟩
instance : IsAgg Try.prog 53 false := ⟨Try.isAgg53⟩
instance : HasI Try.prog 53 1 4 := ⟨by kernel_rfl⟩
instance : HasZ Try.prog 53 (.int .i32 0) := ⟨Try.zeroValue53⟩
instance : HasU Try.prog 54 (.int .i32) := ⟨Try.underlying54⟩
instance : IsAgg Try.prog 54 false := ⟨Try.isAgg54⟩
instance : HasI Try.prog 54 1 4 := ⟨by kernel_rfl⟩
instance : HasZ Try.prog 54 (.int .i32 0) := ⟨Try.zeroValue54⟩
instance : IsAgg Try.prog 55 true := ⟨Try.isAgg55⟩
instance : HasI Try.prog 55 11 48 := ⟨by kernel_rfl⟩
instance : HasZ Try.prog 55 (.agg ([.int .u64 0, .int .u64 0, .int .u32 0, .int .u8 0, .int .u8 0, .int .u8 0, .int .u8 0, .nilFunc, .pointer none, .int .i32 0, .int .i32 0] : List Value).toArray) := ⟨fun _ => by kernel_rfl⟩
instance : HasF Try.prog 55 0 0 := ⟨fun a w => fieldAt_of 0 12 0 1 Try.underlying55 rfl (HasI.size (P := Try.prog) (E := 12) (s := 1) (by_ := 8) inferInstance) (by decide) a w⟩
instance : HasF Try.prog 55 1 1 := ⟨fun a w => fieldAt_of 1 12 1 1 Try.underlying55 rfl (HasI.size (P := Try.prog) (E := 12) (s := 1) (by_ := 8) inferInstance) (by decide) a w⟩
instance : HasF Try.prog 55 2 2 := ⟨fun a w => fieldAt_of 2 48 2 1 Try.underlying55 rfl (HasI.size (P := Try.prog) (E := 48) (s := 1) (by_ := 4) inferInstance) (by decide) a w⟩
instance : HasF Try.prog 55 3 3 := ⟨fun a w => fieldAt_of 3 49 3 1 Try.underlying55 rfl (HasI.size (P := Try.prog) (E := 49) (s := 1) (by_ := 1) inferInstance) (by decide) a w⟩
instance : HasF Try.prog 55 4 4 := ⟨fun a w => fieldAt_of 4 5 4 1 Try.underlying55 rfl (HasI.size (P := Try.prog) (E := 5) (s := 1) (by_ := 1) inferInstance) (by decide) a w⟩
instance : HasF Try.prog 55 5 5 := ⟨fun a w => fieldAt_of 5 5 5 1 Try.underlying55 rfl (HasI.size (P := Try.prog) (E := 5) (s := 1) (by_ := 1) inferInstance) (by decide) a w⟩
instance : HasF Try.prog 55 6 6 := ⟨fun a w => fieldAt_of 6 50 6 1 Try.underlying55 rfl (HasI.size (P := Try.prog) (E := 50) (s := 1) (by_ := 1) inferInstance) (by decide) a w⟩
instance : HasF Try.prog 55 7 7 := ⟨fun a w => fieldAt_of 7 51 7 1 Try.underlying55 rfl (HasI.size (P := Try.prog) (E := 51) (s := 1) (by_ := 8) inferInstance) (by decide) a w⟩
instance : HasF Try.prog 55 8 8 := ⟨fun a w => fieldAt_of 8 52 8 1 Try.underlying55 rfl (HasI.size (P := Try.prog) (E := 52) (s := 1) (by_ := 8) inferInstance) (by decide) a w⟩
instance : HasF Try.prog 55 9 9 := ⟨fun a w => fieldAt_of 9 53 9 1 Try.underlying55 rfl (HasI.size (P := Try.prog) (E := 53) (s := 1) (by_ := 4) inferInstance) (by decide) a w⟩
instance : HasF Try.prog 55 10 10 := ⟨fun a w => fieldAt_of 10 54 10 1 Try.underlying55 rfl (HasI.size (P := Try.prog) (E := 54) (s := 1) (by_ := 4) inferInstance) (by decide) a w⟩
instance : IsAgg Try.prog 56 true := ⟨Try.isAgg56⟩
instance : HasI Try.prog 56 11 48 := ⟨by kernel_rfl⟩
instance : HasZ Try.prog 56 (.agg ([.int .u64 0, .int .u64 0, .int .u32 0, .int .u8 0, .int .u8 0, .int .u8 0, .int .u8 0, .nilFunc, .pointer none, .int .i32 0, .int .i32 0] : List Value).toArray) := ⟨fun _ => by kernel_rfl⟩
instance : HasF Try.prog 56 0 0 := ⟨fun a w => fieldAt_of 0 12 0 1 Try.underlying56 rfl (HasI.size (P := Try.prog) (E := 12) (s := 1) (by_ := 8) inferInstance) (by decide) a w⟩
instance : HasF Try.prog 56 1 1 := ⟨fun a w => fieldAt_of 1 12 1 1 Try.underlying56 rfl (HasI.size (P := Try.prog) (E := 12) (s := 1) (by_ := 8) inferInstance) (by decide) a w⟩
instance : HasF Try.prog 56 2 2 := ⟨fun a w => fieldAt_of 2 48 2 1 Try.underlying56 rfl (HasI.size (P := Try.prog) (E := 48) (s := 1) (by_ := 4) inferInstance) (by decide) a w⟩
instance : HasF Try.prog 56 3 3 := ⟨fun a w => fieldAt_of 3 49 3 1 Try.underlying56 rfl (HasI.size (P := Try.prog) (E := 49) (s := 1) (by_ := 1) inferInstance) (by decide) a w⟩
instance : HasF Try.prog 56 4 4 := ⟨fun a w => fieldAt_of 4 5 4 1 Try.underlying56 rfl (HasI.size (P := Try.prog) (E := 5) (s := 1) (by_ := 1) inferInstance) (by decide) a w⟩
instance : HasF Try.prog 56 5 5 := ⟨fun a w => fieldAt_of 5 5 5 1 Try.underlying56 rfl (HasI.size (P := Try.prog) (E := 5) (s := 1) (by_ := 1) inferInstance) (by decide) a w⟩
instance : HasF Try.prog 56 6 6 := ⟨fun a w => fieldAt_of 6 50 6 1 Try.underlying56 rfl (HasI.size (P := Try.prog) (E := 50) (s := 1) (by_ := 1) inferInstance) (by decide) a w⟩
instance : HasF Try.prog 56 7 7 := ⟨fun a w => fieldAt_of 7 51 7 1 Try.underlying56 rfl (HasI.size (P := Try.prog) (E := 51) (s := 1) (by_ := 8) inferInstance) (by decide) a w⟩
instance : HasF Try.prog 56 8 8 := ⟨fun a w => fieldAt_of 8 52 8 1 Try.underlying56 rfl (HasI.size (P := Try.prog) (E := 52) (s := 1) (by_ := 8) inferInstance) (by decide) a w⟩
instance : HasF Try.prog 56 9 9 := ⟨fun a w => fieldAt_of 9 53 9 1 Try.underlying56 rfl (HasI.size (P := Try.prog) (E := 53) (s := 1) (by_ := 4) inferInstance) (by decide) a w⟩
instance : HasF Try.prog 56 10 10 := ⟨fun a w => fieldAt_of 10 54 10 1 Try.underlying56 rfl (HasI.size (P := Try.prog) (E := 54) (s := 1) (by_ := 4) inferInstance) (by decide) a w⟩
instance : IsAgg Try.prog 57 false := ⟨Try.isAgg57⟩
instance : HasI Try.prog 57 1 8 := ⟨by kernel_rfl⟩
instance : HasZ Try.prog 57 (.pointer none) := ⟨Try.zeroValue57⟩
instance : HasFn Try.prog 2 := ⟨Try.call2⟩
instance : HasFn Try.prog 3 := ⟨Try.call3⟩
instance : HasFn Try.prog 4 := ⟨Try.call4⟩
instance : HasFn Try.prog 5 := ⟨Try.call5⟩
instance : HasFn Try.prog 6 := ⟨Try.call6⟩
instance : HasFn Try.prog 7 := ⟨Try.call7⟩
instance : HasFn Try.prog 8 := ⟨Try.call8⟩
instance : HasFn Try.prog 9 := ⟨Try.call9⟩
instance : HasFn Try.prog 10 := ⟨Try.call10⟩
instance : HasFn Try.prog 11 := ⟨Try.call11⟩
instance : HasFn Try.prog 12 := ⟨Try.call12⟩
instance : HasFn Try.prog 13 := ⟨Try.call13⟩
instance : HasFn Try.prog 14 := ⟨Try.call14⟩
instance : HasFn Try.prog 15 := ⟨Try.call15⟩
instance : HasFn Try.prog 16 := ⟨Try.call16⟩
instance : HasFn Try.prog 17 := ⟨Try.call17⟩
instance : HasFn Try.prog 18 := ⟨Try.call18⟩
instance : HasFn Try.prog 19 := ⟨Try.call19⟩
instance : HasFn Try.prog 20 := ⟨Try.call20⟩
instance : HasFn Try.prog 21 := ⟨Try.call21⟩
instance : HasFn Try.prog 22 := ⟨Try.call22⟩
instance : HasFn Try.prog 23 := ⟨Try.call23⟩
instance : HasFn Try.prog 24 := ⟨Try.call24⟩
instance : HasFn Try.prog 25 := ⟨Try.call25⟩
instance : HasFn Try.prog 26 := ⟨Try.call26⟩
instance : HasFn Try.prog 27 := ⟨Try.call27⟩
instance : HasFn Try.prog 28 := ⟨Try.call28⟩
instance : HasFn Try.prog 29 := ⟨Try.call29⟩
instance : HasFn Try.prog 30 := ⟨Try.call30⟩
instance : HasFn Try.prog 31 := ⟨Try.call31⟩
instance : HasFn Try.prog 32 := ⟨Try.call32⟩
instance : HasFn Try.prog 33 := ⟨Try.call33⟩
instance : HasFn Try.prog 34 := ⟨Try.call34⟩
instance : HasFn Try.prog 35 := ⟨Try.call35⟩
instance : HasFn Try.prog 36 := ⟨Try.call36⟩
end Go.Proofs.Ytoednaebdfohbaa.MX
