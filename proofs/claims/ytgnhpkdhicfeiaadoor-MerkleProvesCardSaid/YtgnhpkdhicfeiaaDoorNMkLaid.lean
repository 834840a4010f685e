/- The laid tables, as the walks ask for them. -/
import Derived.Test.YtgnhpkdhicfeiaaDoorNMk2
import Derived.Test.YtgnhpkdhicfeiaaDoorRows
import Derived.Lib.LaidTab
import Derived.Stop.LaidErr
namespace Go.Proofs.YtgnhpkdhicfeiaaDoor.NMk
open Go Go.RowKit Go.Proofs.YtgnhpkdhicfeiaaDoor.MX Go.Proofs.YtgnhpkdhicfeiaaDoor.PSha Go.Proofs.YtgnhpkdhicfeiaaDoor.NSha
set_option linter.unusedVariables false
set_option linter.unusedSimpArgs false
def D64 : List Int := [0, 1, 56, 2, 57, 49, 28, 3, 61, 58, 42, 50, 38, 29, 17, 4, 62, 47, 59, 36, 45, 43, 51, 22, 53, 39, 33, 30, 24, 18, 12, 5, 63, 55, 48, 27, 60, 41, 37, 16, 46, 35, 44, 21, 52, 32, 23, 11, 54, 26, 40, 15, 34, 20, 31, 10, 25, 14, 19, 9, 13, 8, 7, 6]
theorem d64_fact : ∀ z, z < 8 → tzI z < 64 ∧ D64.getD (tzI z) 0 = (z : Int) := by decide +kernel
/-- What is laid. -/
def Laid (w : World) : Prop := KAt KS w ∧ TzAt w
theorem ofLaid {W : World} (h : laidMet Tryd.prog [("math/bits.deBruijn32tab", Rows.laid_math_bits_deBruijn32tab), ("math/bits.deBruijn64tab", Rows.laid_math_bits_deBruijn64tab), ("chancery/sha.k", Rows.laid_chancery_sha_k)] W) : Laid W :=
  ⟨fun j hj => (Go.Lib.tabIs_of_head (k := .u32) (zs := KS) (rest := []) (g := 2) (t := 62) (e := 60) (n := 64) (by kernel_rfl) (by kernel_rfl) Tryd.underlying62 Tryd.underlying60 (by kernel_rfl) (by kernel_rfl) h.tail.tail).cell (by kernel_rfl) j hj,
   fun z hz => by
    obtain ⟨h1, h2⟩ := d64_fact z hz
    have := (Go.Lib.tabIs_of_head (k := .u8) (zs := D64) (rest := [("chancery/sha.k", Rows.laid_chancery_sha_k)]) (g := 1) (t := 77) (e := 5) (n := 64) (by kernel_rfl) (by kernel_rfl) Tryd.underlying77 Tryd.underlying5 (by kernel_rfl) (by kernel_rfl) h.tail).cell (g := 1) (by kernel_rfl) (tzI z) h1
    rw [h2] at this
    exact this⟩
end Go.Proofs.YtgnhpkdhicfeiaaDoor.NMk
