/- The examples' sums, computed. No program in sight. -/
import Derived.Test.YteogihkpplaioaaDoorPShake
namespace Go.Proofs.YteogihkpplaioaaDoor.PShake
open Go
set_option linter.unusedVariables false
set_option linter.unusedSimpArgs false
theorem known128 : (outs 168 (sq 168 []) 0 4).getD 0 0 = 127 ∧ (outs 168 (sq 168 []) 0 4).getD 3 0 = 164 := by decide +kernel
theorem known256 : (outs 136 (sq 136 []) 0 4).getD 0 0 = 70 ∧ (outs 136 (sq 136 []) 0 4).getD 3 0 = 43 := by decide +kernel
end Go.Proofs.YteogihkpplaioaaDoor.PShake
