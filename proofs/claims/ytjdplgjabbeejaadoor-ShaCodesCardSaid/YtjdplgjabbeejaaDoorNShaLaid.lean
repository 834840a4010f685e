/- The laid table of sums' constants, as the walks ask for it. -/
import Derived.Test.YtjdplgjabbeejaaDoorNSha
import Derived.Test.YtjdplgjabbeejaaDoorRows
import Derived.Lib.LaidTab
namespace Go.Proofs.YtjdplgjabbeejaaDoor.NSha
open Go Go.RowKit Go.Proofs.YtjdplgjabbeejaaDoor.MX Go.Proofs.YtjdplgjabbeejaaDoor.PSha
set_option linter.unusedVariables false
set_option linter.unusedSimpArgs false
theorem ofLaid {W : World} (h : laidMet Tryd.prog [("chancery/sha.k", Rows.laid_chancery_sha_k)] W) : KAt KS W := fun j hj =>
  (Go.Lib.tabIs_of_head (k := .u32) (zs := KS) (rest := []) (g := 0) (t := 47) (e := 37) (n := 64) (by kernel_rfl) (by kernel_rfl) Tryd.underlying47 Tryd.underlying37 (by kernel_rfl) (by kernel_rfl) h).cell (by kernel_rfl) j hj
end Go.Proofs.YtjdplgjabbeejaaDoor.NSha
