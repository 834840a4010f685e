/- Slices of booleans that come in. -/
import Derived.Test.YtfkhdhdbfejbpaaMT
import Derived.Test.YtfkhdhdbfejbpaaMXB
import Derived.Test.YtfkhdhdbfejbpaaMXO
namespace Go.Proofs.Ytfkhdhdbfejbpaa.NPl
open Go Go.RowKit Go.Proofs.Ytfkhdhdbfejbpaa.MX
set_option linter.unusedVariables false
set_option linter.unusedSimpArgs false
set_option linter.unusedVariables false
def shBs := shSl Try.underlying32 (shBool Try.underlying4)
theorem bs_rdv {w : World} {ks : List Bool} {K : Option Addr} {kc : Nat} (h : shBs.has w [.slice K ks.length kc] (K, kc, ks)) : RdV w K kc 1 ks.length (ks.map Value.bool) := by
  have h0 := h
  obtain ⟨h1, h2, h3, h4, _, h5⟩ := h
  have hm : maxLen ≤ 9223372036854775807 := by decide
  refine ⟨h2, by have h3 : kc ≤ maxLen := h3; omega, h4, by simp, fun j v hj => ?_⟩
  rw [List.getElem?_map] at hj
  cases hk : ks[j]? with
  | none => rw [hk] at hj; cases hj
  | some b =>
    rw [hk] at hj
    obtain rfl := Option.some.inj hj
    obtain ⟨v, hv, h6⟩ := shSl_cell (by kernel_rfl) h0 (j := j) (x := b) hk
    have h6 : [v] = [Value.bool b] := h6
    rw [hv, (List.cons.inj h6).1]
end Go.Proofs.Ytfkhdhdbfejbpaa.NPl
