/- The laid table of the rounds' numbers, as the walks ask for it. -/
import Derived.Test.YteogihkpplaioaaDoorNShake
import Derived.Test.YteogihkpplaioaaDoorRows
import Derived.Lib.LaidTab
namespace Go.Proofs.YteogihkpplaioaaDoor.NShake
open Go Go.RowKit Go.Proofs.YteogihkpplaioaaDoor.MX Go.Proofs.YteogihkpplaioaaDoor.PShake
set_option linter.unusedVariables false
set_option linter.unusedSimpArgs false
theorem ofLaid {W : World} (h : laidMet Tryd.prog [("chancery/shake.numbers", Rows.laid_chancery_shake_numbers)] W) : KAt W := fun j hj =>
  (Go.Lib.tabIs_of_head (k := .u64) (zs := RC) (rest := []) (g := 0) (t := 42) (e := 38) (n := 24) (by kernel_rfl) (by kernel_rfl) Tryd.underlying42 Tryd.underlying38 (by kernel_rfl) (by kernel_rfl) h).cell (by kernel_rfl) j hj
end Go.Proofs.YteogihkpplaioaaDoor.NShake
