/- What the seat's types and functions are, as instances. -/
import Derived.Test.YtfkhdhdbfejbpaaProg
import Derived.Test.YtfkhdhdbfejbpaaMXM
namespace Go.Proofs.Ytfkhdhdbfejbpaa.MX
open Go Go.RowKit
instance : IsAgg Try.prog 1 false := ⟨Try.isAgg1⟩
instance : HasI Try.prog 1 1 8 := ⟨by kernel_rfl⟩
instance : HasZ Try.prog 1 (.nilFunc) := ⟨Try.zeroValue1⟩
instance : HasU Try.prog 2 (.int .i64) := ⟨Try.underlying2⟩
instance : IsAgg Try.prog 2 false := ⟨Try.isAgg2⟩
instance : HasI Try.prog 2 1 8 := ⟨by kernel_rfl⟩
instance : HasZ Try.prog 2 (.int .i64 0) := ⟨Try.zeroValue2⟩
instance : HasU Try.prog 3 (.int .i64) := ⟨Try.underlying3⟩
instance : IsAgg Try.prog 3 false := ⟨Try.isAgg3⟩
instance : HasI Try.prog 3 1 8 := ⟨by kernel_rfl⟩
instance : HasZ Try.prog 3 (.int .i64 0) := ⟨Try.zeroValue3⟩
instance : HasU Try.prog 4 .bool := ⟨Try.underlying4⟩
instance : IsAgg Try.prog 4 false := ⟨Try.isAgg4⟩
instance : HasI Try.prog 4 1 1 := ⟨by kernel_rfl⟩
instance : HasZ Try.prog 4 (.bool false) := ⟨Try.zeroValue4⟩
instance : HasU Try.prog 5 (.int .u8) := ⟨Try.underlying5⟩
instance : IsAgg Try.prog 5 false := ⟨Try.isAgg5⟩
instance : HasI Try.prog 5 1 1 := ⟨by kernel_rfl⟩
instance : HasZ Try.prog 5 (.int .u8 0) := ⟨Try.zeroValue5⟩
instance : HasU Try.prog 6 (.int .u8) := ⟨Try.underlying6⟩
instance : IsAgg Try.prog 6 false := ⟨Try.isAgg6⟩
instance : HasI Try.prog 6 1 1 := ⟨by kernel_rfl⟩
instance : HasZ Try.prog 6 (.int .u8 0) := ⟨Try.zeroValue6⟩
instance : IsAgg Try.prog 7 true := ⟨Try.isAgg7⟩
instance : HasI Try.prog 7 4 24 := ⟨by kernel_rfl⟩
instance : HasZ Try.prog 7 (.agg ([.int .i64 0, .int .i64 0, .bool false, .int .u8 0] : List Value).toArray) := ⟨fun _ => by kernel_rfl⟩
instance : HasF Try.prog 7 0 0 := ⟨fun a w => fieldAt_of 0 2 0 1 Try.underlying7 rfl (HasI.size (P := Try.prog) (E := 2) (s := 1) (by_ := 8) inferInstance) (by decide) a w⟩
instance : HasF Try.prog 7 1 1 := ⟨fun a w => fieldAt_of 1 3 1 1 Try.underlying7 rfl (HasI.size (P := Try.prog) (E := 3) (s := 1) (by_ := 8) inferInstance) (by decide) a w⟩
instance : HasF Try.prog 7 2 2 := ⟨fun a w => fieldAt_of 2 4 2 1 Try.underlying7 rfl (HasI.size (P := Try.prog) (E := 4) (s := 1) (by_ := 1) inferInstance) (by decide) a w⟩
instance : HasF Try.prog 7 3 3 := ⟨fun a w => fieldAt_of 3 6 3 1 Try.underlying7 rfl (HasI.size (P := Try.prog) (E := 6) (s := 1) (by_ := 1) inferInstance) (by decide) a w⟩
instance : IsAgg Try.prog 8 true := ⟨Try.isAgg8⟩
instance : HasI Try.prog 8 4 24 := ⟨by kernel_rfl⟩
instance : HasZ Try.prog 8 (.agg ([.int .i64 0, .int .i64 0, .bool false, .int .u8 0] : List Value).toArray) := ⟨fun _ => by kernel_rfl⟩
instance : HasF Try.prog 8 0 0 := ⟨fun a w => fieldAt_of 0 2 0 1 Try.underlying8 rfl (HasI.size (P := Try.prog) (E := 2) (s := 1) (by_ := 8) inferInstance) (by decide) a w⟩
instance : HasF Try.prog 8 1 1 := ⟨fun a w => fieldAt_of 1 3 1 1 Try.underlying8 rfl (HasI.size (P := Try.prog) (E := 3) (s := 1) (by_ := 8) inferInstance) (by decide) a w⟩
instance : HasF Try.prog 8 2 2 := ⟨fun a w => fieldAt_of 2 4 2 1 Try.underlying8 rfl (HasI.size (P := Try.prog) (E := 4) (s := 1) (by_ := 1) inferInstance) (by decide) a w⟩
instance : HasF Try.prog 8 3 3 := ⟨fun a w => fieldAt_of 3 6 3 1 Try.underlying8 rfl (HasI.size (P := Try.prog) (E := 6) (s := 1) (by_ := 1) inferInstance) (by decide) a w⟩
instance : HasU Try.prog 9 .string := ⟨Try.underlying9⟩
instance : IsAgg Try.prog 9 false := ⟨Try.isAgg9⟩
instance : HasI Try.prog 9 1 16 := ⟨by kernel_rfl⟩
instance : HasZ Try.prog 9 (.string ⟨#[]⟩) := ⟨Try.zeroValue9⟩
instance : HasU Try.prog 10 .string := ⟨Try.underlying10⟩
instance : IsAgg Try.prog 10 false := ⟨Try.isAgg10⟩
instance : HasI Try.prog 10 1 16 := ⟨by kernel_rfl⟩
instance : HasZ Try.prog 10 (.string ⟨#[]⟩) := ⟨Try.zeroValue10⟩
instance : HasU Try.prog 11 .string := ⟨Try.underlying11⟩
instance : IsAgg Try.prog 11 false := ⟨Try.isAgg11⟩
instance : HasI Try.prog 11 1 16 := ⟨by kernel_rfl⟩
instance : HasZ Try.prog 11 (.string ⟨#[]⟩) := ⟨Try.zeroValue11⟩
instance : HasU Try.prog 12 (.int .u64) := ⟨Try.underlying12⟩
instance : IsAgg Try.prog 12 false := ⟨Try.isAgg12⟩
instance : HasI Try.prog 12 1 8 := ⟨by kernel_rfl⟩
instance : HasZ Try.prog 12 (.int .u64 0) := ⟨Try.zeroValue12⟩
instance : IsAgg Try.prog 13 true := ⟨Try.isAgg13⟩
instance : HasI Try.prog 13 2 24 := ⟨by kernel_rfl⟩
instance : HasZ Try.prog 13 (.agg ([.string ⟨#[]⟩, .int .u64 0] : List Value).toArray) := ⟨fun _ => by kernel_rfl⟩
instance : HasF Try.prog 13 0 0 := ⟨fun a w => fieldAt_of 0 9 0 1 Try.underlying13 rfl (HasI.size (P := Try.prog) (E := 9) (s := 1) (by_ := 16) inferInstance) (by decide) a w⟩
instance : HasF Try.prog 13 1 1 := ⟨fun a w => fieldAt_of 1 12 1 1 Try.underlying13 rfl (HasI.size (P := Try.prog) (E := 12) (s := 1) (by_ := 8) inferInstance) (by decide) a w⟩
instance : IsAgg Try.prog 14 true := ⟨Try.isAgg14⟩
instance : HasI Try.prog 14 2 24 := ⟨by kernel_rfl⟩
instance : HasZ Try.prog 14 (.agg ([.string ⟨#[]⟩, .int .u64 0] : List Value).toArray) := ⟨fun _ => by kernel_rfl⟩
instance : HasF Try.prog 14 0 0 := ⟨fun a w => fieldAt_of 0 9 0 1 Try.underlying14 rfl (HasI.size (P := Try.prog) (E := 9) (s := 1) (by_ := 16) inferInstance) (by decide) a w⟩
instance : HasF Try.prog 14 1 1 := ⟨fun a w => fieldAt_of 1 12 1 1 Try.underlying14 rfl (HasI.size (P := Try.prog) (E := 12) (s := 1) (by_ := 8) inferInstance) (by decide) a w⟩
instance : HasU Try.prog 15 (.pointer 66) := ⟨Try.underlying15⟩
instance : IsAgg Try.prog 15 false := ⟨Try.isAgg15⟩
instance : HasI Try.prog 15 1 8 := ⟨by kernel_rfl⟩
instance : HasZ Try.prog 15 (.pointer none) := ⟨Try.zeroValue15⟩
instance : HasU Try.prog 16 (.pointer 69) := ⟨Try.underlying16⟩
instance : IsAgg Try.prog 16 false := ⟨Try.isAgg16⟩
instance : HasI Try.prog 16 1 8 := ⟨by kernel_rfl⟩
instance : HasZ Try.prog 16 (.pointer none) := ⟨Try.zeroValue16⟩
instance : HasU Try.prog 17 (.pointer 79) := ⟨Try.underlying17⟩
instance : IsAgg Try.prog 17 false := ⟨Try.isAgg17⟩
instance : HasI Try.prog 17 1 8 := ⟨by kernel_rfl⟩
instance : HasZ Try.prog 17 (.pointer none) := ⟨Try.zeroValue17⟩
instance : IsAgg Try.prog 18 true := ⟨Try.isAgg18⟩
instance : HasI Try.prog 18 1 8 := ⟨by kernel_rfl⟩
instance : HasZ Try.prog 18 (.agg ([.pointer none] : List Value).toArray) := ⟨fun _ => by kernel_rfl⟩
instance : HasF Try.prog 18 0 0 := ⟨fun a w => fieldAt_of 0 17 0 1 Try.underlying18 rfl (HasI.size (P := Try.prog) (E := 17) (s := 1) (by_ := 8) inferInstance) (by decide) a w⟩
instance : IsAgg Try.prog 19 true := ⟨Try.isAgg19⟩
instance : HasI Try.prog 19 1 8 := ⟨by kernel_rfl⟩
instance : HasZ Try.prog 19 (.agg ([.pointer none] : List Value).toArray) := ⟨fun _ => by kernel_rfl⟩
instance : HasF Try.prog 19 0 0 := ⟨fun a w => fieldAt_of 0 17 0 1 Try.underlying19 rfl (HasI.size (P := Try.prog) (E := 17) (s := 1) (by_ := 8) inferInstance) (by decide) a w⟩
instance : IsAgg Try.prog 20 false := ⟨Try.isAgg20⟩
instance : HasI Try.prog 20 1 16 := ⟨by kernel_rfl⟩
instance : HasZ Try.prog 20 (.nilIface) := ⟨Try.zeroValue20⟩
instance : HasU Try.prog 21 (.int .i32) := ⟨Try.underlying21⟩
instance : IsAgg Try.prog 21 false := ⟨Try.isAgg21⟩
instance : HasI Try.prog 21 1 4 := ⟨by kernel_rfl⟩
instance : HasZ Try.prog 21 (.int .i32 0) := ⟨Try.zeroValue21⟩
instance : HasU Try.prog 22 (.slice 9) := ⟨Try.underlying22⟩
instance : IsAgg Try.prog 22 false := ⟨Try.isAgg22⟩
instance : HasI Try.prog 22 1 24 := ⟨by kernel_rfl⟩
instance : HasZ Try.prog 22 (.slice none 0 0) := ⟨Try.zeroValue22⟩
instance : IsAgg Try.prog 23 false := ⟨Try.isAgg23⟩
instance : HasI Try.prog 23 1 8 := ⟨by kernel_rfl⟩
instance : HasZ Try.prog 23 (.nilFunc) := ⟨Try.zeroValue23⟩
instance : HasU Try.prog 24 (.pointer 48) := ⟨Try.underlying24⟩
instance : IsAgg Try.prog 24 false := ⟨Try.isAgg24⟩
instance : HasI Try.prog 24 1 8 := ⟨by kernel_rfl⟩
instance : HasZ Try.prog 24 (.pointer none) := ⟨Try.zeroValue24⟩
instance : IsAgg Try.prog 25 false := ⟨Try.isAgg25⟩
instance : HasI Try.prog 25 1 8 := ⟨by kernel_rfl⟩
instance : HasZ Try.prog 25 (.nilFunc) := ⟨Try.zeroValue25⟩
instance : IsAgg Try.prog 26 false := ⟨Try.isAgg26⟩
instance : HasI Try.prog 26 1 8 := ⟨by kernel_rfl⟩
instance : HasZ Try.prog 26 (.nilFunc) := ⟨Try.zeroValue26⟩
instance : IsAgg Try.prog 27 false := ⟨Try.isAgg27⟩
instance : HasI Try.prog 27 1 8 := ⟨by kernel_rfl⟩
instance : HasZ Try.prog 27 (.nilFunc) := ⟨Try.zeroValue27⟩
instance : IsAgg Try.prog 29 false := ⟨Try.isAgg29⟩
instance : HasI Try.prog 29 1 8 := ⟨by kernel_rfl⟩
instance : HasZ Try.prog 29 (.nilFunc) := ⟨Try.zeroValue29⟩
instance : IsAgg Try.prog 30 false := ⟨Try.isAgg30⟩
instance : HasI Try.prog 30 1 8 := ⟨by kernel_rfl⟩
instance : HasZ Try.prog 30 (.nilFunc) := ⟨Try.zeroValue30⟩
instance : HasU Try.prog 31 (.slice 3) := ⟨Try.underlying31⟩
instance : IsAgg Try.prog 31 false := ⟨Try.isAgg31⟩
instance : HasI Try.prog 31 1 24 := ⟨by kernel_rfl⟩
instance : HasZ Try.prog 31 (.slice none 0 0) := ⟨Try.zeroValue31⟩
instance : HasU Try.prog 32 (.slice 4) := ⟨Try.underlying32⟩
instance : IsAgg Try.prog 32 false := ⟨Try.isAgg32⟩
instance : HasI Try.prog 32 1 24 := ⟨by kernel_rfl⟩
instance : HasZ Try.prog 32 (.slice none 0 0) := ⟨Try.zeroValue32⟩
instance : HasU Try.prog 33 (.pointer 57) := ⟨Try.underlying33⟩
instance : IsAgg Try.prog 33 false := ⟨Try.isAgg33⟩
instance : HasI Try.prog 33 1 8 := ⟨by kernel_rfl⟩
instance : HasZ Try.prog 33 (.pointer none) := ⟨Try.zeroValue33⟩
instance : IsAgg Try.prog 34 false := ⟨Try.isAgg34⟩
instance : HasI Try.prog 34 1 8 := ⟨by kernel_rfl⟩
instance : HasZ Try.prog 34 (.nilFunc) := ⟨Try.zeroValue34⟩
instance : IsAgg Try.prog 36 false := ⟨Try.isAgg36⟩
instance : HasI Try.prog 36 1 8 := ⟨by kernel_rfl⟩
instance : HasZ Try.prog 36 (.nilFunc) := ⟨Try.zeroValue36⟩
instance : IsAgg Try.prog 37 false := ⟨Try.isAgg37⟩
instance : HasI Try.prog 37 1 8 := ⟨by kernel_rfl⟩
instance : HasZ Try.prog 37 (.nilFunc) := ⟨Try.zeroValue37⟩
instance : HasU Try.prog 38 (.slice 41) := ⟨Try.underlying38⟩
instance : IsAgg Try.prog 38 false := ⟨Try.isAgg38⟩
instance : HasI Try.prog 38 1 24 := ⟨by kernel_rfl⟩
instance : HasZ Try.prog 38 (.slice none 0 0) := ⟨Try.zeroValue38⟩
instance : HasU Try.prog 39 (.slice 43) := ⟨Try.underlying39⟩
instance : IsAgg Try.prog 39 false := ⟨Try.isAgg39⟩
instance : HasI Try.prog 39 1 24 := ⟨by kernel_rfl⟩
instance : HasZ Try.prog 39 (.slice none 0 0) := ⟨Try.zeroValue39⟩
instance : IsAgg Try.prog 40 true := ⟨Try.isAgg40⟩
instance : HasI Try.prog 40 3 24 := ⟨by kernel_rfl⟩
instance : HasZ Try.prog 40 (.agg ([.int .i64 0, .int .i64 0, .int .i64 0] : List Value).toArray) := ⟨fun _ => by kernel_rfl⟩
instance : HasF Try.prog 40 0 0 := ⟨fun a w => fieldAt_of 0 3 0 1 Try.underlying40 rfl (HasI.size (P := Try.prog) (E := 3) (s := 1) (by_ := 8) inferInstance) (by decide) a w⟩
instance : HasF Try.prog 40 1 1 := ⟨fun a w => fieldAt_of 1 3 1 1 Try.underlying40 rfl (HasI.size (P := Try.prog) (E := 3) (s := 1) (by_ := 8) inferInstance) (by decide) a w⟩
instance : HasF Try.prog 40 2 2 := ⟨fun a w => fieldAt_of 2 3 2 1 Try.underlying40 rfl (HasI.size (P := Try.prog) (E := 3) (s := 1) (by_ := 8) inferInstance) (by decide) a w⟩
instance : IsAgg Try.prog 41 true := ⟨Try.isAgg41⟩
instance : HasI Try.prog 41 3 24 := ⟨by kernel_rfl⟩
instance : HasZ Try.prog 41 (.agg ([.int .i64 0, .int .i64 0, .int .i64 0] : List Value).toArray) := ⟨fun _ => by kernel_rfl⟩
instance : HasF Try.prog 41 0 0 := ⟨fun a w => fieldAt_of 0 3 0 1 Try.underlying41 rfl (HasI.size (P := Try.prog) (E := 3) (s := 1) (by_ := 8) inferInstance) (by decide) a w⟩
instance : HasF Try.prog 41 1 1 := ⟨fun a w => fieldAt_of 1 3 1 1 Try.underlying41 rfl (HasI.size (P := Try.prog) (E := 3) (s := 1) (by_ := 8) inferInstance) (by decide) a w⟩
instance : HasF Try.prog 41 2 2 := ⟨fun a w => fieldAt_of 2 3 2 1 Try.underlying41 rfl (HasI.size (P := Try.prog) (E := 3) (s := 1) (by_ := 8) inferInstance) (by decide) a w⟩
instance : IsAgg Try.prog 42 true := ⟨Try.isAgg42⟩
instance : HasI Try.prog 42 4 48 := ⟨by kernel_rfl⟩
instance : HasZ Try.prog 42 (.agg ([.int .i64 0, .int .i64 0, .bool false, .slice none 0 0] : List Value).toArray) := ⟨fun _ => by kernel_rfl⟩
instance : HasF Try.prog 42 0 0 := ⟨fun a w => fieldAt_of 0 3 0 1 Try.underlying42 rfl (HasI.size (P := Try.prog) (E := 3) (s := 1) (by_ := 8) inferInstance) (by decide) a w⟩
instance : HasF Try.prog 42 1 1 := ⟨fun a w => fieldAt_of 1 3 1 1 Try.underlying42 rfl (HasI.size (P := Try.prog) (E := 3) (s := 1) (by_ := 8) inferInstance) (by decide) a w⟩
instance : HasF Try.prog 42 2 2 := ⟨fun a w => fieldAt_of 2 4 2 1 Try.underlying42 rfl (HasI.size (P := Try.prog) (E := 4) (s := 1) (by_ := 1) inferInstance) (by decide) a w⟩
instance : HasF Try.prog 42 3 3 := ⟨fun a w => fieldAt_of 3 31 3 1 Try.underlying42 rfl (HasI.size (P := Try.prog) (E := 31) (s := 1) (by_ := 24) inferInstance) (by decide) a w⟩
instance : IsAgg Try.prog 43 true := ⟨Try.isAgg43⟩
instance : HasI Try.prog 43 4 48 := ⟨by kernel_rfl⟩
instance : HasZ Try.prog 43 (.agg ([.int .i64 0, .int .i64 0, .bool false, .slice none 0 0] : List Value).toArray) := ⟨fun _ => by kernel_rfl⟩
instance : HasF Try.prog 43 0 0 := ⟨fun a w => fieldAt_of 0 3 0 1 Try.underlying43 rfl (HasI.size (P := Try.prog) (E := 3) (s := 1) (by_ := 8) inferInstance) (by decide) a w⟩
instance : HasF Try.prog 43 1 1 := ⟨fun a w => fieldAt_of 1 3 1 1 Try.underlying43 rfl (HasI.size (P := Try.prog) (E := 3) (s := 1) (by_ := 8) inferInstance) (by decide) a w⟩
instance : HasF Try.prog 43 2 2 := ⟨fun a w => fieldAt_of 2 4 2 1 Try.underlying43 rfl (HasI.size (P := Try.prog) (E := 4) (s := 1) (by_ := 1) inferInstance) (by decide) a w⟩
instance : HasF Try.prog 43 3 3 := ⟨fun a w => fieldAt_of 3 31 3 1 Try.underlying43 rfl (HasI.size (P := Try.prog) (E := 31) (s := 1) (by_ := 24) inferInstance) (by decide) a w⟩
instance : IsAgg Try.prog 44 false := ⟨Try.isAgg44⟩
instance : HasI Try.prog 44 1 8 := ⟨by kernel_rfl⟩
instance : HasZ Try.prog 44 (.nilFunc) := ⟨Try.zeroValue44⟩
instance : IsAgg Try.prog 45 false := ⟨Try.isAgg45⟩
instance : HasI Try.prog 45 1 8 := ⟨by kernel_rfl⟩
instance : HasZ Try.prog 45 (.nilFunc) := ⟨Try.zeroValue45⟩
instance : HasU Try.prog 46 (.slice 49) := ⟨Try.underlying46⟩
instance : IsAgg Try.prog 46 false := ⟨Try.isAgg46⟩
instance : HasI Try.prog 46 1 24 := ⟨by kernel_rfl⟩
instance : HasZ Try.prog 46 (.slice none 0 0) := ⟨Try.zeroValue46⟩
instance : IsAgg Try.prog 47 true := ⟨Try.isAgg47⟩
instance : HasI Try.prog 47 1 24 := ⟨by kernel_rfl⟩
instance : HasZ Try.prog 47 (.agg ([.slice none 0 0] : List Value).toArray) := ⟨fun _ => by kernel_rfl⟩
instance : HasF Try.prog 47 0 0 := ⟨fun a w => fieldAt_of 0 46 0 1 Try.underlying47 rfl (HasI.size (P := Try.prog) (E := 46) (s := 1) (by_ := 24) inferInstance) (by decide) a w⟩
instance : IsAgg Try.prog 48 true := ⟨Try.isAgg48⟩
instance : HasI Try.prog 48 1 24 := ⟨by kernel_rfl⟩
instance : HasZ Try.prog 48 (.agg ([.slice none 0 0] : List Value).toArray) := ⟨fun _ => by kernel_rfl⟩
instance : HasF Try.prog 48 0 0 := ⟨fun a w => fieldAt_of 0 46 0 1 Try.underlying48 rfl (HasI.size (P := Try.prog) (E := 46) (s := 1) (by_ := 24) inferInstance) (by decide) a w⟩
instance : HasU Try.prog 49 (.pointer 52) := ⟨Try.underlying49⟩
instance : IsAgg Try.prog 49 false := ⟨Try.isAgg49⟩
instance : HasI Try.prog 49 1 8 := ⟨by kernel_rfl⟩
instance : HasZ Try.prog 49 (.pointer none) := ⟨Try.zeroValue49⟩
instance : IsAgg Try.prog 50 false := ⟨Try.isAgg50⟩
instance : HasI Try.prog 50 1 8 := ⟨by kernel_rfl⟩
instance : HasZ Try.prog 50 (.chan none) := ⟨Try.zeroValue50⟩
instance : IsAgg Try.prog 51 true := ⟨Try.isAgg51⟩
instance : HasI Try.prog 51 2 16 := ⟨by kernel_rfl⟩
instance : HasZ Try.prog 51 (.agg ([.chan none, .int .i64 0] : List Value).toArray) := ⟨fun _ => by kernel_rfl⟩
instance : HasF Try.prog 51 0 0 := ⟨fun a w => fieldAt_of 0 50 0 1 Try.underlying51 rfl (HasI.size (P := Try.prog) (E := 50) (s := 1) (by_ := 8) inferInstance) (by decide) a w⟩
instance : HasF Try.prog 51 1 1 := ⟨fun a w => fieldAt_of 1 3 1 1 Try.underlying51 rfl (HasI.size (P := Try.prog) (E := 3) (s := 1) (by_ := 8) inferInstance) (by decide) a w⟩
instance : IsAgg Try.prog 52 true := ⟨Try.isAgg52⟩
instance : HasI Try.prog 52 2 16 := ⟨by kernel_rfl⟩
instance : HasZ Try.prog 52 (.agg ([.chan none, .int .i64 0] : List Value).toArray) := ⟨fun _ => by kernel_rfl⟩
instance : HasF Try.prog 52 0 0 := ⟨fun a w => fieldAt_of 0 50 0 1 Try.underlying52 rfl (HasI.size (P := Try.prog) (E := 50) (s := 1) (by_ := 8) inferInstance) (by decide) a w⟩
instance : HasF Try.prog 52 1 1 := ⟨fun a w => fieldAt_of 1 3 1 1 Try.underlying52 rfl (HasI.size (P := Try.prog) (E := 3) (s := 1) (by_ := 8) inferInstance) (by decide) a w⟩
instance : IsAgg Try.prog 53 false := ⟨Try.isAgg53⟩
instance : HasI Try.prog 53 1 8 := ⟨by kernel_rfl⟩
instance : HasZ Try.prog 53 (.nilFunc) := ⟨Try.zeroValue53⟩
instance : IsAgg Try.prog 54 false := ⟨Try.isAgg54⟩
instance : HasI Try.prog 54 1 8 := ⟨by kernel_rfl⟩
instance : HasZ Try.prog 54 (.nilFunc) := ⟨Try.zeroValue54⟩
instance : HasU Try.prog 55 (.slice 58) := ⟨Try.underlying55⟩
instance : IsAgg Try.prog 55 false := ⟨Try.isAgg55⟩
instance : HasI Try.prog 55 1 24 := ⟨by kernel_rfl⟩
instance : HasZ Try.prog 55 (.slice none 0 0) := ⟨Try.zeroValue55⟩
instance : IsAgg Try.prog 56 true := ⟨Try.isAgg56⟩
instance : HasI Try.prog 56 1 24 := ⟨by kernel_rfl⟩
instance : HasZ Try.prog 56 (.agg ([.slice none 0 0] : List Value).toArray) := ⟨fun _ => by kernel_rfl⟩
instance : HasF Try.prog 56 0 0 := ⟨fun a w => fieldAt_of 0 55 0 1 Try.underlying56 rfl (HasI.size (P := Try.prog) (E := 55) (s := 1) (by_ := 24) inferInstance) (by decide) a w⟩
instance : IsAgg Try.prog 57 true := ⟨Try.isAgg57⟩
instance : HasI Try.prog 57 1 24 := ⟨by kernel_rfl⟩
instance : HasZ Try.prog 57 (.agg ([.slice none 0 0] : List Value).toArray) := ⟨fun _ => by kernel_rfl⟩
instance : HasF Try.prog 57 0 0 := ⟨fun a w => fieldAt_of 0 55 0 1 Try.underlying57 rfl (HasI.size (P := Try.prog) (E := 55) (s := 1) (by_ := 24) inferInstance) (by decide) a w⟩
instance : HasU Try.prog 58 (.pointer 61) := ⟨Try.underlying58⟩
instance : IsAgg Try.prog 58 false := ⟨Try.isAgg58⟩
instance : HasI Try.prog 58 1 8 := ⟨by kernel_rfl⟩
instance : HasZ Try.prog 58 (.pointer none) := ⟨Try.zeroValue58⟩
instance : IsAgg Try.prog 59 false := ⟨Try.isAgg59⟩
instance : HasI Try.prog 59 1 8 := ⟨by kernel_rfl⟩
instance : HasZ Try.prog 59 (.chan none) := ⟨Try.zeroValue59⟩
instance : IsAgg Try.prog 60 true := ⟨Try.isAgg60⟩
instance : HasI Try.prog 60 2 16 := ⟨by kernel_rfl⟩
instance : HasZ Try.prog 60 (.agg ([.chan none, .int .i64 0] : List Value).toArray) := ⟨fun _ => by kernel_rfl⟩
instance : HasF Try.prog 60 0 0 := ⟨fun a w => fieldAt_of 0 59 0 1 Try.underlying60 rfl (HasI.size (P := Try.prog) (E := 59) (s := 1) (by_ := 8) inferInstance) (by decide) a w⟩
instance : HasF Try.prog 60 1 1 := ⟨fun a w => fieldAt_of 1 3 1 1 Try.underlying60 rfl (HasI.size (P := Try.prog) (E := 3) (s := 1) (by_ := 8) inferInstance) (by decide) a w⟩
instance : IsAgg Try.prog 61 true := ⟨Try.isAgg61⟩
instance : HasI Try.prog 61 2 16 := ⟨by kernel_rfl⟩
instance : HasZ Try.prog 61 (.agg ([.chan none, .int .i64 0] : List Value).toArray) := ⟨fun _ => by kernel_rfl⟩
instance : HasF Try.prog 61 0 0 := ⟨fun a w => fieldAt_of 0 59 0 1 Try.underlying61 rfl (HasI.size (P := Try.prog) (E := 59) (s := 1) (by_ := 8) inferInstance) (by decide) a w⟩
instance : HasF Try.prog 61 1 1 := ⟨fun a w => fieldAt_of 1 3 1 1 Try.underlying61 rfl (HasI.size (P := Try.prog) (E := 3) (s := 1) (by_ := 8) inferInstance) (by decide) a w⟩
instance : IsAgg Try.prog 62 false := ⟨Try.isAgg62⟩
instance : HasI Try.prog 62 1 8 := ⟨by kernel_rfl⟩
instance : HasZ Try.prog 62 (.nilFunc) := ⟨Try.zeroValue62⟩
instance : IsAgg Try.prog 63 false := ⟨Try.isAgg63⟩
instance : HasI Try.prog 63 1 8 := ⟨by kernel_rfl⟩
instance : HasZ Try.prog 63 (.nilFunc) := ⟨Try.zeroValue63⟩
instance : IsAgg Try.prog 64 false := ⟨Try.isAgg64⟩
instance : HasI Try.prog 64 1 8 := ⟨by kernel_rfl⟩
instance : HasZ Try.prog 64 (.nilFunc) := ⟨Try.zeroValue64⟩
instance : IsAgg Try.prog 65 true := ⟨Try.isAgg65⟩
instance : HasI Try.prog 65 4 40 := ⟨by kernel_rfl⟩
instance : HasZ Try.prog 65 (.agg ([.pointer none, .pointer none, .pointer none, .string ⟨#[]⟩] : List Value).toArray) := ⟨fun _ => by kernel_rfl⟩
instance : HasF Try.prog 65 0 0 := ⟨fun a w => fieldAt_of 0 17 0 1 Try.underlying65 rfl (HasI.size (P := Try.prog) (E := 17) (s := 1) (by_ := 8) inferInstance) (by decide) a w⟩
instance : HasF Try.prog 65 1 1 := ⟨fun a w => fieldAt_of 1 17 1 1 Try.underlying65 rfl (HasI.size (P := Try.prog) (E := 17) (s := 1) (by_ := 8) inferInstance) (by decide) a w⟩
instance : HasF Try.prog 65 2 2 := ⟨fun a w => fieldAt_of 2 17 2 1 Try.underlying65 rfl (HasI.size (P := Try.prog) (E := 17) (s := 1) (by_ := 8) inferInstance) (by decide) a w⟩
instance : HasF Try.prog 65 3 3 := ⟨fun a w => fieldAt_of 3 9 3 1 Try.underlying65 rfl (HasI.size (P := Try.prog) (E := 9) (s := 1) (by_ := 16) inferInstance) (by decide) a w⟩
instance : IsAgg Try.prog 66 true := ⟨Try.isAgg66⟩
instance : HasI Try.prog 66 4 40 := ⟨by kernel_rfl⟩
instance : HasZ Try.prog 66 (.agg ([.pointer none, .pointer none, .pointer none, .string ⟨#[]⟩] : List Value).toArray) := ⟨fun _ => by kernel_rfl⟩
instance : HasF Try.prog 66 0 0 := ⟨fun a w => fieldAt_of 0 17 0 1 Try.underlying66 rfl (HasI.size (P := Try.prog) (E := 17) (s := 1) (by_ := 8) inferInstance) (by decide) a w⟩
instance : HasF Try.prog 66 1 1 := ⟨fun a w => fieldAt_of 1 17 1 1 Try.underlying66 rfl (HasI.size (P := Try.prog) (E := 17) (s := 1) (by_ := 8) inferInstance) (by decide) a w⟩
instance : HasF Try.prog 66 2 2 := ⟨fun a w => fieldAt_of 2 17 2 1 Try.underlying66 rfl (HasI.size (P := Try.prog) (E := 17) (s := 1) (by_ := 8) inferInstance) (by decide) a w⟩
instance : HasF Try.prog 66 3 3 := ⟨fun a w => fieldAt_of 3 9 3 1 Try.underlying66 rfl (HasI.size (P := Try.prog) (E := 9) (s := 1) (by_ := 16) inferInstance) (by decide) a w⟩
instance : HasU Try.prog 67 (.array 0 16) := ⟨Try.underlying67⟩
instance : IsAgg Try.prog 67 true := ⟨Try.isAgg67⟩
instance : HasI Try.prog 67 0 0 := ⟨by kernel_rfl⟩
instance : HasZ Try.prog 67 (.agg ([] : List Value).toArray) := ⟨fun _ => by kernel_rfl⟩
instance : IsAgg Try.prog 68 true := ⟨Try.isAgg68⟩
instance : HasI Try.prog 68 0 0 := ⟨by kernel_rfl⟩
instance : HasZ Try.prog 68 (.agg ([] : List Value).toArray) := ⟨fun _ => by kernel_rfl⟩
instance : IsAgg Try.prog 69 true := ⟨Try.isAgg69⟩
instance : HasI Try.prog 69 0 0 := ⟨by kernel_rfl⟩
instance : HasZ Try.prog 69 (.agg ([] : List Value).toArray) := ⟨fun _ => by kernel_rfl⟩
instance : IsAgg Try.prog 70 false := ⟨Try.isAgg70⟩
instance : HasI Try.prog 70 1 8 := ⟨by kernel_rfl⟩
instance : HasZ Try.prog 70 (.nilFunc) := ⟨Try.zeroValue70⟩
instance : HasU Try.prog 71 (.int .u32) := ⟨Try.underlying71⟩
instance : IsAgg Try.prog 71 false := ⟨Try.isAgg71⟩
instance : HasI Try.prog 71 1 4 := ⟨by kernel_rfl⟩
instance : HasZ Try.prog 71 (.int .u32 0) := ⟨Try.zeroValue71⟩
instance : HasU Try.prog 72 (.int .u8) := ⟨Try.underlying72⟩
instance : IsAgg Try.prog 72 false := ⟨Try.isAgg72⟩
instance : HasI Try.prog 72 1 1 := ⟨by kernel_rfl⟩
instance : HasZ Try.prog 72 (.int .u8 0) := ⟨Try.zeroValue72⟩
instance : HasU Try.prog 73 (.int .u8) := ⟨Try.underlying73⟩
instance : IsAgg Try.prog 73 false := ⟨Try.isAgg73⟩
instance : HasI Try.prog 73 1 1 := ⟨by kernel_rfl⟩
instance : HasZ Try.prog 73 (.int .u8 0) := ⟨Try.zeroValue73⟩
instance : IsAgg Try.prog 74 false := ⟨Try.isAgg74⟩
instance : HasI Try.prog 74 1 8 := ⟨by kernel_rfl⟩
instance : HasZ Try.prog 74 (.nilFunc) := ⟨Try.zeroValue74⟩
instance : HasU Try.prog 75 (.pointer 5) := ⟨Try.underlying75⟩
instance : IsAgg Try.prog 75 false := ⟨Try.isAgg75⟩
instance : HasI Try.prog 75 1 8 := ⟨by kernel_rfl⟩
instance : HasZ Try.prog 75 (.pointer none) := ⟨Try.zeroValue75⟩
instance : HasU Try.prog 76 (.int .i32) := ⟨Try.underlying76⟩
instance : IsAgg Try.prog 76 false := ⟨Try.isAgg76⟩
instance : HasI Try.prog 76 1 4 := ⟨by kernel_rfl⟩
instance : HasZ Try.prog 76 (.int .i32 0) := ⟨Try.zeroValue76⟩
instance : HasU Try.prog 77 (.int .i32) := ⟨Try.underlying77⟩
instance : IsAgg Try.prog 77 false := ⟨Try.isAgg77⟩
instance : HasI Try.prog 77 1 4 := ⟨by kernel_rfl⟩
instance : HasZ Try.prog 77 (.int .i32 0) := ⟨Try.zeroValue77⟩
instance : IsAgg Try.prog 78 true := ⟨Try.isAgg78⟩
instance : HasI Try.prog 78 11 48 := ⟨by kernel_rfl⟩
instance : HasZ Try.prog 78 (.agg ([.int .u64 0, .int .u64 0, .int .u32 0, .int .u8 0, .int .u8 0, .int .u8 0, .int .u8 0, .nilFunc, .pointer none, .int .i32 0, .int .i32 0] : List Value).toArray) := ⟨fun _ => by kernel_rfl⟩
instance : HasF Try.prog 78 0 0 := ⟨fun a w => fieldAt_of 0 12 0 1 Try.underlying78 rfl (HasI.size (P := Try.prog) (E := 12) (s := 1) (by_ := 8) inferInstance) (by decide) a w⟩
instance : HasF Try.prog 78 1 1 := ⟨fun a w => fieldAt_of 1 12 1 1 Try.underlying78 rfl (HasI.size (P := Try.prog) (E := 12) (s := 1) (by_ := 8) inferInstance) (by decide) a w⟩
instance : HasF Try.prog 78 2 2 := ⟨fun a w => fieldAt_of 2 71 2 1 Try.underlying78 rfl (HasI.size (P := Try.prog) (E := 71) (s := 1) (by_ := 4) inferInstance) (by decide) a w⟩
instance : HasF Try.prog 78 3 3 := ⟨fun a w => fieldAt_of 3 72 3 1 Try.underlying78 rfl (HasI.size (P := Try.prog) (E := 72) (s := 1) (by_ := 1) inferInstance) (by decide) a w⟩
instance : HasF Try.prog 78 4 4 := ⟨fun a w => fieldAt_of 4 5 4 1 Try.underlying78 rfl (HasI.size (P := Try.prog) (E := 5) (s := 1) (by_ := 1) inferInstance) (by decide) a w⟩
instance : HasF Try.prog 78 5 5 := ⟨fun a w => fieldAt_of 5 5 5 1 Try.underlying78 rfl (HasI.size (P := Try.prog) (E := 5) (s := 1) (by_ := 1) inferInstance) (by decide) a w⟩
instance : HasF Try.prog 78 6 6 := ⟨fun a w => fieldAt_of 6 73 6 1 Try.underlying78 rfl (HasI.size (P := Try.prog) (E := 73) (s := 1) (by_ := 1) inferInstance) (by decide) a w⟩
instance : HasF Try.prog 78 7 7 := ⟨fun a w => fieldAt_of 7 74 7 1 Try.underlying78 rfl (HasI.size (P := Try.prog) (E := 74) (s := 1) (by_ := 8) inferInstance) (by decide) a w⟩
instance : HasF Try.prog 78 8 8 := ⟨fun a w => fieldAt_of 8 75 8 1 Try.underlying78 rfl (HasI.size (P := Try.prog) (E := 75) (s := 1) (by_ := 8) inferInstance) (by decide) a w⟩
instance : HasF Try.prog 78 9 9 := ⟨fun a w => fieldAt_of 9 76 9 1 Try.underlying78 rfl (HasI.size (P := Try.prog) (E := 76) (s := 1) (by_ := 4) inferInstance) (by decide) a w⟩
instance : HasF Try.prog 78 10 10 := ⟨fun a w => fieldAt_of 10 77 10 1 Try.underlying78 rfl (HasI.size (P := Try.prog) (E := 77) (s := 1) (by_ := 4) inferInstance) (by decide) a w⟩
instance : IsAgg Try.prog 79 true := ⟨Try.isAgg79⟩
instance : HasI Try.prog 79 11 48 := ⟨by kernel_rfl⟩
instance : HasZ Try.prog 79 (.agg ([.int .u64 0, .int .u64 0, .int .u32 0, .int .u8 0, .int .u8 0, .int .u8 0, .int .u8 0, .nilFunc, .pointer none, .int .i32 0, .int .i32 0] : List Value).toArray) := ⟨fun _ => by kernel_rfl⟩
instance : HasF Try.prog 79 0 0 := ⟨fun a w => fieldAt_of 0 12 0 1 Try.underlying79 rfl (HasI.size (P := Try.prog) (E := 12) (s := 1) (by_ := 8) inferInstance) (by decide) a w⟩
instance : HasF Try.prog 79 1 1 := ⟨fun a w => fieldAt_of 1 12 1 1 Try.underlying79 rfl (HasI.size (P := Try.prog) (E := 12) (s := 1) (by_ := 8) inferInstance) (by decide) a w⟩
instance : HasF Try.prog 79 2 2 := ⟨fun a w => fieldAt_of 2 71 2 1 Try.underlying79 rfl (HasI.size (P := Try.prog) (E := 71) (s := 1) (by_ := 4) inferInstance) (by decide) a w⟩
instance : HasF Try.prog 79 3 3 := ⟨fun a w => fieldAt_of 3 72 3 1 Try.underlying79 rfl (HasI.size (P := Try.prog) (E := 72) (s := 1) (by_ := 1) inferInstance) (by decide) a w⟩
instance : HasF Try.prog 79 4 4 := ⟨fun a w => fieldAt_of 4 5 4 1 Try.underlying79 rfl (HasI.size (P := Try.prog) (E := 5) (s := 1) (by_ := 1) inferInstance) (by decide) a w⟩
instance : HasF Try.prog 79 5 5 := ⟨fun a w => fieldAt_of 5 5 5 1 Try.underlying79 rfl (HasI.size (P := Try.prog) (E := 5) (s := 1) (by_ := 1) inferInstance) (by decide) a w⟩
instance : HasF Try.prog 79 6 6 := ⟨fun a w => fieldAt_of 6 73 6 1 Try.underlying79 rfl (HasI.size (P := Try.prog) (E := 73) (s := 1) (by_ := 1) inferInstance) (by decide) a w⟩
instance : HasF Try.prog 79 7 7 := ⟨fun a w => fieldAt_of 7 74 7 1 Try.underlying79 rfl (HasI.size (P := Try.prog) (E := 74) (s := 1) (by_ := 8) inferInstance) (by decide) a w⟩
instance : HasF Try.prog 79 8 8 := ⟨fun a w => fieldAt_of 8 75 8 1 Try.underlying79 rfl (HasI.size (P := Try.prog) (E := 75) (s := 1) (by_ := 8) inferInstance) (by decide) a w⟩
instance : HasF Try.prog 79 9 9 := ⟨fun a w => fieldAt_of 9 76 9 1 Try.underlying79 rfl (HasI.size (P := Try.prog) (E := 76) (s := 1) (by_ := 4) inferInstance) (by decide) a w⟩
instance : HasF Try.prog 79 10 10 := ⟨fun a w => fieldAt_of 10 77 10 1 Try.underlying79 rfl (HasI.size (P := Try.prog) (E := 77) (s := 1) (by_ := 4) inferInstance) (by decide) a w⟩
instance : IsAgg Try.prog 80 false := ⟨Try.isAgg80⟩
instance : HasI Try.prog 80 1 8 := ⟨by kernel_rfl⟩
instance : HasZ Try.prog 80 (.pointer none) := ⟨Try.zeroValue80⟩
instance : HasFn Try.prog 2 := ⟨Try.call2⟩
instance : HasFn Try.prog 3 := ⟨Try.call3⟩
instance : HasFn Try.prog 4 := ⟨Try.call4⟩
instance : HasFn Try.prog 5 := ⟨Try.call5⟩
instance : HasFn Try.prog 6 := ⟨Try.call6⟩
instance : HasFn Try.prog 7 := ⟨Try.call7⟩
instance : HasFn Try.prog 8 := ⟨Try.call8⟩
instance : HasFn Try.prog 9 := ⟨Try.call9⟩
instance : HasFn Try.prog 10 := ⟨Try.call10⟩
instance : HasFn Try.prog 11 := ⟨Try.call11⟩
instance : HasFn Try.prog 12 := ⟨Try.call12⟩
instance : HasFn Try.prog 13 := ⟨Try.call13⟩
instance : HasFn Try.prog 14 := ⟨Try.call14⟩
instance : HasFn Try.prog 15 := ⟨Try.call15⟩
instance : HasFn Try.prog 16 := ⟨Try.call16⟩
instance : HasFn Try.prog 17 := ⟨Try.call17⟩
instance : HasFn Try.prog 18 := ⟨Try.call18⟩
instance : HasFn Try.prog 19 := ⟨Try.call19⟩
instance : HasFn Try.prog 20 := ⟨Try.call20⟩
instance : HasFn Try.prog 21 := ⟨Try.call21⟩
instance : HasFn Try.prog 22 := ⟨Try.call22⟩
instance : HasFn Try.prog 23 := ⟨Try.call23⟩
end Go.Proofs.Ytfkhdhdbfejbpaa.MX
