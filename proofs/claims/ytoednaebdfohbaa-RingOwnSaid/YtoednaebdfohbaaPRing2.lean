/- The ring's transforms: there are the values at the points; back undoes there, and there undoes back. No program in sight. -/
import Derived.Test.YtoednaebdfohbaaPRing
namespace Go.Proofs.Ytoednaebdfohbaa.PRing
open Go
set_option linter.unusedVariables false
set_option linter.unusedSimpArgs false
/-- Alike modulo q. -/
def Cg (x y : Int) : Prop := ∃ k, x = y + 8380417 * k
theorem Cg.refl (x : Int) : Cg x x := ⟨0, by omega⟩
theorem Cg.symm {x y : Int} : Cg x y → Cg y x := fun ⟨k, h⟩ => ⟨-k, by omega⟩
theorem Cg.trans {x y z : Int} : Cg x y → Cg y z → Cg x z := fun ⟨k, h⟩ ⟨l, g⟩ => ⟨k + l, by omega⟩
theorem Cg.add {x y a b : Int} : Cg x y → Cg a b → Cg (x + a) (y + b) := fun ⟨k, h⟩ ⟨l, g⟩ => ⟨k + l, by omega⟩
theorem Cg.sub {x y a b : Int} : Cg x y → Cg a b → Cg (x - a) (y - b) := fun ⟨k, h⟩ ⟨l, g⟩ => ⟨k - l, by omega⟩
theorem Cg.neg {x y : Int} : Cg x y → Cg (-x) (-y) := fun ⟨k, h⟩ => ⟨-k, by omega⟩
theorem Cg.mulL {x y : Int} (c : Int) : Cg x y → Cg (c * x) (c * y) := fun ⟨k, h⟩ => ⟨c * k, by rw [h, Int.mul_add, Int.mul_left_comm]⟩
theorem Cg.mulR {x y : Int} (c : Int) (h : Cg x y) : Cg (x * c) (y * c) := by rw [Int.mul_comm x, Int.mul_comm y]; exact h.mulL c
theorem Cg.mul {x y a b : Int} (h : Cg x y) (g : Cg a b) : Cg (x * a) (y * b) := (h.mulR a).trans (g.mulL y)
theorem Cg.mod (x : Int) : Cg (x % 8380417) x := ⟨-(x / 8380417), by omega⟩
theorem Cg.addq (x : Int) : Cg (x + 8380417) x := ⟨1, by omega⟩
theorem Cg.eq {x y : Int} (h : Cg x y) (hx : 0 ≤ x ∧ x < 8380417) (hy : 0 ≤ y ∧ y < 8380417) : x = y := by
  obtain ⟨k, h⟩ := h
  omega
theorem cg_of_emod {x y : Int} (h : x % 8380417 = y % 8380417) : Cg x y := (Cg.mod x).symm.trans (h ▸ Cg.mod y)
def zN (k : Nat) : Nat := 1753 ^ brv k % 8380417
def ptN (i : Nat) : Nat := 1753 ^ (2 * brv i + 1) % 8380417
theorem zs_get {k : Nat} (h : k < 256) : ZS.getD k 0 = (zN k : Int) := mk_get _ k h
theorem pt_pow : ∀ H, H ∈ L8 → ∀ i, i < 256 → ptN i ^ H % 8380417 = if i / H % 2 = 0 then zN (128 / H + i / (2 * H)) else 8380417 - zN (128 / H + i / (2 * H)) := by decide +kernel
theorem zz : ∀ H, H ∈ L8 → ∀ m, m < 128 / H → zN (256 / H - 1 - m) * zN (128 / H + m) % 8380417 = 8380416 := by decide +kernel
theorem zN_lt (k : Nat) : zN k < 8380417 := Nat.mod_lt _ (by decide)
/-- A sum of terms. -/
def sm (f : Nat → Int) : Nat → Int
  | 0 => 0
  | n + 1 => sm f n + f n
theorem sm_cg {f g : Nat → Int} : ∀ {n : Nat}, (∀ t, t < n → Cg (f t) (g t)) → Cg (sm f n) (sm g n)
  | 0, _ => Cg.refl _
  | n + 1, h => (sm_cg fun t ht => h t (by omega)).add (h n (by omega))
theorem sm_eq {f g : Nat → Int} : ∀ {n : Nat}, (∀ t, t < n → f t = g t) → sm f n = sm g n
  | 0, _ => rfl
  | n + 1, h => by rw [sm, sm, sm_eq fun t ht => h t (by omega), h n (by omega)]
theorem sm_add (f g : Nat → Int) : ∀ n, sm (fun t => f t + g t) n = sm f n + sm g n
  | 0 => rfl
  | n + 1 => by rw [sm, sm, sm, sm_add]; omega
theorem sm_mul (c : Int) (f : Nat → Int) : ∀ n, sm (fun t => c * f t) n = c * sm f n
  | 0 => by rw [sm, sm, Int.mul_zero]
  | n + 1 => by rw [sm, sm, sm_mul, Int.mul_add]
theorem sm_split (f : Nat → Int) (a : Nat) : ∀ b, sm f (a + b) = sm f a + sm (fun t => f (a + t)) b
  | 0 => by simp [sm]
  | b + 1 => by rw [← Nat.add_assoc, sm, sm, sm_split f a b]; omega
/-- The block of H numbers that i lies in, as a polynomial at p. -/
def blk (l : List Int) (H i : Nat) (p : Int) : Int := sm (fun t => l.getD (H * (i / H) + t) 0 * p ^ t) H
theorem idx6 {H : Nat} (hH : H ∈ L8) {i : Nat} (hi : i < 256) : 2 * H * (i / (2 * H)) + 2 * H ≤ 256 ∧ (i / H % 2 = 0 → H * (i / H) = 2 * H * (i / (2 * H))) ∧ (i / H % 2 ≠ 0 → H * (i / H) = 2 * H * (i / (2 * H)) + H) ∧ 128 / H + i / (2 * H) < 256 ∧ 0 < H := by
  simp only [L8, List.mem_cons, List.not_mem_nil, or_false] at hH
  rcases hH with rfl | rfl | rfl | rfl | rfl | rfl | rfl | rfl <;> omega
theorem SL_lo {H : Nat} (hH : H ∈ L8) (l : List Int) {m t : Nat} (ht : t < H) (hm : 2 * H * m < 256) : Cg ((SL H l).getD (2 * H * m + t) 0) (l.getD (2 * H * m + t) 0 + ZS.getD (128 / H + m) 0 * l.getD (2 * H * m + t + H) 0) := by
  obtain ⟨h0, _, h1, h2, h3, h4, h5, h6⟩ := idx hH ht hm
  rw [SL, mk_get _ _ (by omega), stg, h3, if_pos rfl, h1, tu, tz]
  exact (Cg.mod _).trans ((Cg.refl _).add (Cg.mod _))
theorem SL_hi {H : Nat} (hH : H ∈ L8) (l : List Int) {m t : Nat} (ht : t < H) (hm : 2 * H * m < 256) : Cg ((SL H l).getD (2 * H * m + t + H) 0) (l.getD (2 * H * m + t) 0 - ZS.getD (128 / H + m) 0 * l.getD (2 * H * m + t + H) 0) := by
  obtain ⟨h0, _, h1, h2, h3, h4, h5, h6⟩ := idx hH ht hm
  rw [SL, mk_get _ _ (by omega), stg, h6, if_neg (by decide), h4, Nat.add_sub_cancel, tv, tz]
  exact (Cg.mod _).trans ((Cg.addq _).trans ((Cg.refl _).sub (Cg.mod _)))
theorem pt_cg {H : Nat} (hH : H ∈ L8) {i : Nat} (hi : i < 256) : Cg ((ptN i : Int) ^ H) (if i / H % 2 = 0 then ZS.getD (128 / H + i / (2 * H)) 0 else - ZS.getD (128 / H + i / (2 * H)) 0) := by
  have h := pt_pow H hH i hi
  have hz := zN_lt (128 / H + i / (2 * H))
  rw [zs_get (idx6 hH hi).2.2.2.1]
  have e : ((ptN i ^ H % 8380417 : Nat) : Int) = (ptN i : Int) ^ H % 8380417 := by simp
  refine (Cg.mod _).symm.trans ?_
  rw [← e, h]
  split
  · exact Cg.refl _
  · exact ⟨1, by omega⟩
theorem blk_step {H : Nat} (hH : H ∈ L8) (l : List Int) {i : Nat} (hi : i < 256) : Cg (blk (SL H l) H i (ptN i)) (blk l (2 * H) i (ptN i)) := by
  obtain ⟨h1, h2, h3, h4, h5⟩ := idx6 hH hi
  have hp := pt_cg hH hi
  obtain ⟨m, hm⟩ : ∃ m, m = i / (2 * H) := ⟨_, rfl⟩
  obtain ⟨p, hpe⟩ : ∃ p, p = (ptN i : Int) := ⟨_, rfl⟩
  obtain ⟨z, hz⟩ : ∃ z, z = ZS.getD (128 / H + m) 0 := ⟨_, rfl⟩
  rw [← hm] at h1 h2 h3 h4 hp
  rw [← hpe, ← hz] at hp
  have hml : 2 * H * m < 256 := by omega
  have e2 : blk l (2 * H) i p = sm (fun t => l.getD (2 * H * m + t) 0 * p ^ t) H + p ^ H * sm (fun t => l.getD (2 * H * m + t + H) 0 * p ^ t) H := by
    unfold blk
    rw [← hm, show sm (fun t => l.getD (2 * H * m + t) 0 * p ^ t) (2 * H) = sm (fun t => l.getD (2 * H * m + t) 0 * p ^ t) (H + H) by rw [Nat.two_mul], sm_split, ← sm_mul]
    congr 1
    exact sm_eq fun t _ => by rw [show 2 * H * m + (H + t) = 2 * H * m + t + H by omega, Int.pow_add, ← Int.mul_assoc, Int.mul_comm _ (p ^ H), Int.mul_assoc]
  rw [← hpe, e2]
  by_cases hc : i / H % 2 = 0
  · rw [if_pos hc] at hp
    refine Cg.trans (y := sm (fun t => l.getD (2 * H * m + t) 0 * p ^ t) H + z * sm (fun t => l.getD (2 * H * m + t + H) 0 * p ^ t) H) ?_ ((Cg.refl _).add (hp.symm.mulR _))
    rw [← sm_mul, ← sm_add]
    unfold blk
    rw [h2 hc]
    refine sm_cg fun t ht => ?_
    have := (SL_lo hH l ht hml).mulR (p ^ t)
    rw [← hz, Int.add_mul, Int.mul_assoc z] at this
    exact this
  · rw [if_neg hc] at hp
    refine Cg.trans (y := sm (fun t => l.getD (2 * H * m + t) 0 * p ^ t) H + (-z) * sm (fun t => l.getD (2 * H * m + t + H) 0 * p ^ t) H) ?_ ((Cg.refl _).add (hp.symm.mulR _))
    rw [← sm_mul, ← sm_add]
    unfold blk
    rw [h3 hc]
    refine sm_cg fun t ht => ?_
    have := (SL_hi hH l ht hml).mulR (p ^ t)
    rw [← hz, Int.sub_mul, Int.mul_assoc z] at this
    rw [show 2 * H * m + H + t = 2 * H * m + t + H by omega, Int.neg_mul]
    exact this
theorem hf_pow : ∀ s, s < 8 → hf (s + 1) = 2 ^ s ∧ 2 ^ s ∈ L8 := by decide
theorem thrF_blk {i : Nat} (hi : i < 256) : ∀ (s : Nat) (l : List Int), s ≤ 8 → Cg ((thrF s l).getD i 0) (blk l (2 ^ s) i (ptN i))
  | 0, l, _ => by
    simp [thrF, blk, sm]
    exact Cg.refl _
  | s + 1, l, h => by
    obtain ⟨e, hm⟩ := hf_pow s (by omega)
    rw [thrF, e]
    refine (thrF_blk hi s _ (by omega)).trans ?_
    rw [Nat.pow_succ, Nat.mul_comm]
    exact blk_step hm l hi
/-- The value at a point. -/
def ev (l : List Int) (i : Nat) : Int := sm (fun t => l.getD t 0 * (ptN i : Int) ^ t) 256
theorem thr_ev (l : List Int) {i : Nat} (hi : i < 256) : Cg ((thr l).getD i 0) (ev l i) := by
  have h := thrF_blk hi 8 l (Nat.le_refl _)
  rw [blk, show 2 ^ 8 * (i / 2 ^ 8) = 0 by rw [show i / 2 ^ 8 = 0 by omega]] at h
  simpa [ev, thr] using h
end Go.Proofs.Ytoednaebdfohbaa.PRing
