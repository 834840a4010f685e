/- Products at known polynomials. No program in sight. -/
import Derived.Test.YtoednaebdfohbaaPRing4
namespace Go.Proofs.Ytoednaebdfohbaa.PRing
open Go
set_option linter.unusedVariables false
set_option linter.unusedSimpArgs false
theorem sm_zero {f : Nat → Int} : ∀ {n : Nat}, (∀ t, t < n → f t = 0) → sm f n = 0
  | 0, _ => rfl
  | n + 1, h => by rw [sm, sm_zero fun t ht => h t (by omega), h n (by omega)]; rfl
theorem sm_one {f : Nat → Int} {k : Nat} : ∀ {n : Nat}, k < n → (∀ t, t < n → t ≠ k → f t = 0) → sm f n = f k
  | 0, hk, _ => absurd hk (Nat.not_lt_zero _)
  | n + 1, hk, h => by
    rw [sm]
    by_cases e : k = n
    · subst e
      rw [sm_zero fun t ht => h t (by omega) (by omega)]
      omega
    · rw [sm_one (n := n) (by omega) fun t ht hne => h t (by omega) hne, h n (by omega) (by omega)]
      omega
/-- c times X to the power k. -/
def ck (k : Nat) (c : Int) : List Int := (List.replicate 256 (0 : Int)).set k c
theorem ck_get {k : Nat} {c : Int} (hk : k < 256) (t : Nat) : (ck k c).getD t 0 = if t = k then c else 0 := by
  rw [ck, getD_set _ _ _ _ (by rw [List.length_replicate]; exact hk)]
  congr 1
  rw [List.getD_eq_getElem?_getD, List.getElem?_replicate]
  split <;> rfl
theorem ck_ok {k : Nat} {c : Int} (hk : k < 256) (hc : 0 ≤ c ∧ c < 8380417) : Ok (ck k c) := ⟨by rw [ck, List.length_set, List.length_replicate], fun i hi => by
  rw [ck_get hk]
  split
  · exact hc
  · decide⟩
theorem ev_ck {k : Nat} {c : Int} (hk : k < 256) (i : Nat) : ev (ck k c) i = c * (ptN i : Int) ^ k := by
  unfold ev
  rw [sm_one hk fun t _ hne => by rw [ck_get hk, if_neg hne, Int.zero_mul], ck_get hk, if_pos rfl]
theorem pt256 : ∀ i, i < 256 → ptN i ^ 256 % 8380417 = 8380416 := by decide +kernel
theorem pt256_cg {i : Nat} (hi : i < 256) : Cg ((ptN i : Int) ^ 256) (-1) := by
  have h := pt256 i hi
  have e : ((ptN i ^ 256 % 8380417 : Nat) : Int) = (ptN i : Int) ^ 256 % 8380417 := by simp
  refine (Cg.mod _).symm.trans ?_
  rw [← e, h]
  exact ⟨1, by omega⟩
/-- X to the power 255 times X. -/
theorem mul_known : bck (mk fun i => (thr (ck 255 1)).getD i 0 * (thr (ck 1 1)).getD i 0 % 8380417) = ck 0 8380416 := by
  have e : (mk fun i => (thr (ck 255 1)).getD i 0 * (thr (ck 1 1)).getD i 0 % 8380417) = thr (ck 0 8380416) := ok_eq (mod_ok fun i hi => ⟨_, rfl⟩) (thr_ok (ck_ok (by decide) (by decide))) fun i hi => by
    rw [mk_get _ _ hi]
    refine (Cg.mod _).trans (((thr_ev _ hi).mul (thr_ev _ hi)).trans (Cg.trans ?_ (thr_ev _ hi).symm))
    rw [ev_ck (by decide), ev_ck (by decide), ev_ck (by decide), Int.one_mul, Int.one_mul, Int.pow_zero, Int.pow_one, ← Int.pow_succ]
    exact (pt256_cg hi).trans ⟨-1, by decide⟩
  rw [e]
  exact bck_thr (ck_ok (by decide) (by decide))
theorem thr_known : (thr (ck 1 1)).getD 0 0 = 1753 ∧ (thr (ck 1 1)).getD 1 0 = 8378664 := by
  have hok := thr_ok (ck_ok (k := 1) (c := 1) (by decide) (by decide))
  have h : ∀ i, i < 256 → Cg ((thr (ck 1 1)).getD i 0) (ptN i) := fun i hi => (thr_ev _ hi).trans (by rw [ev_ck (by decide), Int.one_mul, Int.pow_one]; exact Cg.refl _)
  exact ⟨(h 0 (by decide)).eq (hok.2 0 (by decide)) (by decide +kernel) |>.trans (by decide +kernel), (h 1 (by decide)).eq (hok.2 1 (by decide)) (by decide +kernel) |>.trans (by decide +kernel)⟩
end Go.Proofs.Ytoednaebdfohbaa.PRing
