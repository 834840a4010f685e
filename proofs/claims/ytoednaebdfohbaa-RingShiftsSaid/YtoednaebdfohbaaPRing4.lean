/- The reference's values, point by point, are the transform. No program in sight. -/
import Derived.Test.YtoednaebdfohbaaPRing3
namespace Go.Proofs.Ytoednaebdfohbaa.PRing
open Go
set_option linter.unusedVariables false
set_option linter.unusedSimpArgs false
/-- The reference's sum, from the highest place on: m places are in. -/
def hr (l : List Int) (p : Int) : Nat → Int
  | 0 => 0
  | m + 1 => (hr l p m * p + l.getD (255 - m) 0) % 8380417
theorem sm_first (f : Nat → Int) (n : Nat) : sm f (n + 1) = f 0 + sm (fun t => f (t + 1)) n := by
  rw [Nat.add_comm, sm_split]
  have : sm f 1 = f 0 := by simp [sm]
  rw [this]
  congr 1
  exact sm_eq fun t _ => by rw [Nat.add_comm]
theorem hr_cg (l : List Int) (p : Int) : ∀ m, m ≤ 256 → Cg (hr l p m) (sm (fun t => l.getD (256 - m + t) 0 * p ^ t) m)
  | 0, _ => Cg.refl _
  | m + 1, h => by
    have ih := hr_cg l p m (by omega)
    refine (Cg.mod _).trans (((ih.mulR p).add (Cg.refl _)).trans ?_)
    rw [sm_first]
    have e : sm (fun t => l.getD (256 - (m + 1) + (t + 1)) 0 * p ^ (t + 1)) m = sm (fun t => l.getD (256 - m + t) 0 * p ^ t) m * p := by
      rw [Int.mul_comm, ← sm_mul]
      exact sm_eq fun t _ => by rw [show 256 - (m + 1) + (t + 1) = 256 - m + t by omega, Int.pow_succ, ← Int.mul_assoc, Int.mul_comm]
    rw [e, show 256 - (m + 1) + 0 = 255 - m by omega]
    exact ⟨0, by rw [Int.pow_zero]; omega⟩
theorem hr_bd (l : List Int) (p : Int) : ∀ m, 0 ≤ hr l p m ∧ hr l p m < 8380417
  | 0 => ⟨Int.le_refl 0, by show (0 : Int) < 8380417; decide⟩
  | m + 1 => ⟨Int.emod_nonneg _ (by decide), Int.emod_lt_of_pos _ (by decide)⟩
theorem hr_thr {l : List Int} (hl : Ok l) {i : Nat} (hi : i < 256) : hr l (ptN i) 256 = (thr l).getD i 0 := by
  refine Cg.eq ?_ (hr_bd _ _ _) ((thr_ok hl).2 i hi)
  refine (hr_cg l (ptN i) 256 (Nat.le_refl _)).trans ?_
  refine Cg.trans ?_ (thr_ev l hi).symm
  unfold ev
  rw [sm_eq (g := fun t => l.getD t 0 * (ptN i : Int) ^ t) fun t _ => by rw [show 256 - 256 + t = t by omega]]
  exact Cg.refl _
/-- The powers, one by one. -/
def pk (k : Nat) : Int := ((1753 ^ k % 8380417 : Nat) : Int)
theorem pk_succ (k : Nat) : pk k * 1753 % 8380417 = pk (k + 1) := by
  unfold pk
  have e : 1753 ^ (k + 1) % 8380417 = (1753 ^ k % 8380417) * 1753 % 8380417 := by
    rw [Nat.pow_succ, Nat.mul_mod, Nat.mod_eq_of_lt (show 1753 < 8380417 by decide)]
  rw [e]
  omega
theorem pk_bd (k : Nat) : 0 ≤ pk k ∧ pk k < 8380417 := ⟨Int.natCast_nonneg _, by unfold pk; have := Nat.mod_lt (1753 ^ k) (show 0 < 8380417 by decide); omega⟩
/-- Bits turned round, step by step. -/
def rv (i : Nat) : Nat → Nat
  | 0 => 0
  | k + 1 => 2 * rv i k + i / 2 ^ k % 2
theorem rv_8 : ∀ i, i < 256 → rv i 8 = brv i ∧ brv i < 256 := by decide +kernel
theorem rv_bd (i : Nat) : ∀ k, rv i k < 2 ^ k
  | 0 => Nat.one_pos
  | k + 1 => by have := rv_bd i k; rw [rv, Nat.pow_succ]; omega
end Go.Proofs.Ytoednaebdfohbaa.PRing
