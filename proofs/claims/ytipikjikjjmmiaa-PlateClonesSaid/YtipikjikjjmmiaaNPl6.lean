/- What the laws of disks need: writes that are done; the slices of booleans that come in. -/
import Derived.Test.YtipikjikjjmmiaaNPl5
import Derived.Test.YtipikjikjjmmiaaMXO
namespace Go.Proofs.Ytipikjikjjmmiaa.NPl
open Go Go.RowKit Go.Proofs.Ytipikjikjjmmiaa.MX
set_option linter.unusedVariables false
set_option linter.unusedSimpArgs false
set_option linter.unusedVariables false
def shBs := shSl Try.underlying23 (shBool Try.underlying4)
theorem bs_rdv {w : World} {ks : List Bool} {K : Option Addr} {kc : Nat} (h : shBs.has w [.slice K ks.length kc] (K, kc, ks)) : RdV w K kc 1 ks.length (ks.map Value.bool) := by
  have h0 := h
  obtain ⟨h1, h2, h3, h4, _, h5⟩ := h
  have hm : maxLen ≤ 9223372036854775807 := by decide
  refine ⟨h2, by have h3 : kc ≤ maxLen := h3; omega, h4, by simp, fun j v hj => ?_⟩
  rw [List.getElem?_map] at hj
  cases hk : ks[j]? with
  | none => rw [hk] at hj; cases hj
  | some b =>
    rw [hk] at hj
    obtain rfl := Option.some.inj hj
    obtain ⟨v, hv, h6⟩ := shSl_cell (by kernel_rfl) h0 (j := j) (x := b) hk
    have h6 : [v] = [Value.bool b] := h6
    rw [hv, (List.cons.inj h6).1]
def rep (c : Int) : List Int := List.replicate 64 c
theorem stepP_done {p : Pl} (hd : p.down = false) (hl : p.left < 0) : stepP p = (p, true) := by
  rw [stepP, if_neg (by omega), if_neg (by omega), hd]
  rfl
theorem writeP_done {p : Pl} {i : Nat} {b : List Int} (hd : p.down = false) (hl : p.left < 0) (hi : i < p.n) (hb : b.length = 64) : writeP p i b = ({ p with now := p.now.set i b, loose := p.loose ++ [(i, b)] }, 0) := by
  have ht : thereP p i = 0 := by rw [thereP, if_neg (by simp [hd]), if_neg (by omega)]
  rw [writeP, if_neg (by simp [ht]), if_neg (by simp [hb]), if_neg (by rw [stepP_done hd hl]; simp), stepP_done hd hl]
  rfl
theorem rep0 (c : Int) : (rep c).getD 0 0 = c := rfl
theorem rep63 (c : Int) : (rep c).getD 63 0 = c := rfl
end Go.Proofs.Ytipikjikjjmmiaa.NPl
