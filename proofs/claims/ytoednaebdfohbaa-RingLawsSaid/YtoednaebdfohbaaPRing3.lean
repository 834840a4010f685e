/- Back undoes there, and there undoes back. No program in sight. -/
import Derived.Test.YtoednaebdfohbaaPRing2
namespace Go.Proofs.Ytoednaebdfohbaa.PRing
open Go
set_option linter.unusedVariables false
set_option linter.unusedSimpArgs false
/-- y is c times x, place by place. -/
def Rel (c : Int) (x y : List Int) : Prop := ∀ i, i < 256 → Cg (y.getD i 0) (c * x.getD i 0)
theorem Rel.refl (l : List Int) : Rel 1 l l := fun i _ => by rw [Int.one_mul]; exact Cg.refl _
theorem BL_lo {H : Nat} (hH : H ∈ L8) (l : List Int) {m t : Nat} (ht : t < H) (hm : 2 * H * m < 256) : Cg ((BL H l).getD (2 * H * m + t) 0) (l.getD (2 * H * m + t) 0 + l.getD (2 * H * m + t + H) 0) := by
  obtain ⟨h0, _, h1, h2, h3, h4, h5, h6⟩ := idx hH ht hm
  rw [BL, mk_get _ _ (by omega), stg, h3, if_pos rfl, bu]
  exact Cg.mod _
theorem BL_hi {H : Nat} (hH : H ∈ L8) (l : List Int) {m t : Nat} (ht : t < H) (hm : 2 * H * m < 256) : Cg ((BL H l).getD (2 * H * m + t + H) 0) (ZS.getD (256 / H - 1 - m) 0 * (l.getD (2 * H * m + t + H) 0 - l.getD (2 * H * m + t) 0)) := by
  obtain ⟨h0, _, h1, h2, h3, h4, h5, h6⟩ := idx hH ht hm
  rw [BL, mk_get _ _ (by omega), stg, h6, if_neg (by decide), h4, Nat.add_sub_cancel, bv, bz]
  exact (Cg.mod _).trans ((Cg.addq _).mulL _)
theorem zz_cg {H : Nat} (hH : H ∈ L8) {m : Nat} (hm : m < 128 / H) : Cg (ZS.getD (256 / H - 1 - m) 0 * ZS.getD (128 / H + m) 0) (-1) := by
  have h := zz H hH m hm
  have hb : 256 / H - 1 - m < 256 ∧ 128 / H + m < 256 := by
    simp only [L8, List.mem_cons, List.not_mem_nil, or_false] at hH
    rcases hH with rfl | rfl | rfl | rfl | rfl | rfl | rfl | rfl <;> omega
  rw [zs_get hb.1, zs_get hb.2]
  obtain ⟨a, ha⟩ : ∃ a, a = zN (256 / H - 1 - m) * zN (128 / H + m) := ⟨_, rfl⟩
  rw [← ha] at h
  rw [show ((zN (256 / H - 1 - m) : Nat) : Int) * (zN (128 / H + m) : Nat) = (a : Int) by rw [ha]; simp]
  exact ⟨(a / 8380417 : Nat) + 1, by omega⟩
/-- Each place is the lower or the upper of a pair. -/
theorem pairs {H : Nat} (hH : H ∈ L8) {φ : Nat → Prop} (h : ∀ m t, t < H → 2 * H * m < 256 → φ (2 * H * m + t) ∧ φ (2 * H * m + t + H)) : ∀ i, i < 256 → φ i := fun i hi => by
  obtain ⟨h1, _⟩ := idx6 hH hi
  have h2 := (idx4 hH i).1
  have h3 : 0 < H := by omega
  rcases idx2 hH (m := i / (2 * H)) (j := i % H) rfl rfl with e | e
  · have := (h (i / (2 * H)) (i % H) h2 (by omega)).1
    rwa [← e] at this
  · have := (h (i / (2 * H)) (i % H) h2 (by omega)).2
    rwa [← e] at this
theorem BL_SL {H : Nat} (hH : H ∈ L8) {c : Int} {x y : List Int} (h : Rel c (SL H x) y) : Rel (2 * c) x (BL H y) := pairs hH fun m t ht hm => by
  obtain ⟨h0, hmH, _⟩ := idx hH ht hm
  have hlo := (h (2 * H * m + t) (by omega)).trans ((SL_lo hH x ht hm).mulL c)
  have hhi := (h (2 * H * m + t + H) (by omega)).trans ((SL_hi hH x ht hm).mulL c)
  have hz := zz_cg hH hmH
  refine ⟨(BL_lo hH y ht hm).trans ((hlo.add hhi).trans ?_), (BL_hi hH y ht hm).trans (((hhi.sub hlo).mulL _).trans ?_)⟩
  · obtain ⟨a, ha⟩ : ∃ a, a = x.getD (2 * H * m + t) 0 := ⟨_, rfl⟩
    obtain ⟨b, hb⟩ : ∃ b, b = ZS.getD (128 / H + m) 0 * x.getD (2 * H * m + t + H) 0 := ⟨_, rfl⟩
    rw [← ha, ← hb, Int.mul_add, Int.mul_sub, Int.mul_assoc]
    generalize c * a = u
    generalize c * b = v
    exact ⟨0, by omega⟩
  · obtain ⟨a, ha⟩ : ∃ a, a = x.getD (2 * H * m + t) 0 := ⟨_, rfl⟩
    obtain ⟨b, hb⟩ : ∃ b, b = x.getD (2 * H * m + t + H) 0 := ⟨_, rfl⟩
    obtain ⟨z, hz'⟩ : ∃ z, z = ZS.getD (128 / H + m) 0 := ⟨_, rfl⟩
    obtain ⟨k, hk'⟩ : ∃ k, k = ZS.getD (256 / H - 1 - m) 0 := ⟨_, rfl⟩
    rw [← ha, ← hb, ← hz', ← hk']
    rw [← hz', ← hk'] at hz
    have e : k * (c * (a - z * b) - c * (a + z * b)) = (k * z) * (-2 * c * b) := by
      have e0 : c * (a - z * b) - c * (a + z * b) = -2 * (c * (z * b)) := by
        rw [Int.mul_sub, Int.mul_add]
        omega
      rw [e0]
      simp only [Int.mul_assoc, Int.mul_left_comm, Int.mul_comm]
    rw [e]
    refine (hz.mulR _).trans ⟨0, ?_⟩
    rw [Int.neg_mul, Int.one_mul, Int.mul_assoc, Int.mul_assoc]
    generalize c * b = u
    omega
theorem SL_BL {H : Nat} (hH : H ∈ L8) {c : Int} {x y : List Int} (h : Rel c (BL H x) y) : Rel (2 * c) x (SL H y) := pairs hH fun m t ht hm => by
  obtain ⟨h0, hmH, _⟩ := idx hH ht hm
  have hlo := (h (2 * H * m + t) (by omega)).trans ((BL_lo hH x ht hm).mulL c)
  have hhi := (h (2 * H * m + t + H) (by omega)).trans ((BL_hi hH x ht hm).mulL c)
  have hz := zz_cg hH hmH
  obtain ⟨a, ha⟩ : ∃ a, a = x.getD (2 * H * m + t) 0 := ⟨_, rfl⟩
  obtain ⟨b, hb⟩ : ∃ b, b = x.getD (2 * H * m + t + H) 0 := ⟨_, rfl⟩
  obtain ⟨z, hz'⟩ : ∃ z, z = ZS.getD (128 / H + m) 0 := ⟨_, rfl⟩
  obtain ⟨k, hk'⟩ : ∃ k, k = ZS.getD (256 / H - 1 - m) 0 := ⟨_, rfl⟩
  rw [← ha, ← hb] at hlo hhi
  rw [← hk'] at hhi
  rw [← hz', ← hk'] at hz
  have hzk : Cg (z * (c * (k * (b - a)))) (-(c * (b - a))) := by
    have e : z * (c * (k * (b - a))) = (k * z) * (c * (b - a)) := by simp only [Int.mul_assoc, Int.mul_left_comm, Int.mul_comm]
    rw [e]
    have := hz.mulR (c * (b - a))
    rwa [Int.neg_mul, Int.one_mul] at this
  have hzhi := (hhi.mulL z).trans hzk
  refine ⟨(SL_lo hH y ht hm).trans ?_, (SL_hi hH y ht hm).trans ?_⟩
  · rw [← ha, ← hz']
    refine (hlo.add hzhi).trans ⟨0, ?_⟩
    rw [Int.mul_add, Int.mul_sub, Int.mul_assoc]
    generalize c * a = u
    generalize c * b = v
    omega
  · rw [← hb, ← hz']
    refine (hlo.sub hzhi).trans ⟨0, ?_⟩
    rw [Int.mul_add, Int.mul_sub, Int.mul_assoc]
    generalize c * a = u
    generalize c * b = v
    omega
/-- The stages of back, the first s. -/
def upL : Nat → List Int → List Int
  | 0, l => l
  | s + 1, l => BL (2 ^ s) (upL s l)
theorem bck8 (l : List Int) : bckF 8 l = upL 8 l := by
  have h : ∀ s, s < 9 → s ≠ 0 → hf s = 2 ^ (s - 1) := by decide
  simp only [bckF, upL]
  rw [h (9 - (0 + 1)) (by decide) (by decide), h (9 - (1 + 1)) (by decide) (by decide), h (9 - (2 + 1)) (by decide) (by decide), h (9 - (3 + 1)) (by decide) (by decide), h (9 - (4 + 1)) (by decide) (by decide), h (9 - (5 + 1)) (by decide) (by decide), h (9 - (6 + 1)) (by decide) (by decide), h (9 - (7 + 1)) (by decide) (by decide)]
theorem up_thr : ∀ (s : Nat) (l : List Int), s ≤ 8 → Rel ((2 ^ s : Nat) : Int) l (upL s (thrF s l))
  | 0, l, _ => Rel.refl l
  | s + 1, l, h => by
    obtain ⟨e, hm⟩ := hf_pow s (by omega)
    rw [thrF, e, upL]
    have := BL_SL hm (up_thr s (SL (2 ^ s) l) (by omega))
    rw [show ((2 ^ (s + 1) : Nat) : Int) = 2 * ((2 ^ s : Nat) : Int) by rw [Nat.pow_succ]; omega]
    exact this
theorem thr_up : ∀ (s : Nat) (c : Int) (l y : List Int), s ≤ 8 → Rel c (upL s l) y → Rel (((2 ^ s : Nat) : Int) * c) l (thrF s y)
  | 0, c, l, y, _, h => by
    have h' : Rel c l y := h
    rw [show ((2 ^ 0 : Nat) : Int) * c = c by simp]
    exact h'
  | s + 1, c, l, y, hs, h => by
    obtain ⟨e, hm⟩ := hf_pow s (by omega)
    rw [thrF, e]
    have := thr_up s (2 * c) l (SL (2 ^ s) y) (by omega) (SL_BL hm h)
    rw [show ((2 ^ (s + 1) : Nat) : Int) * c = ((2 ^ s : Nat) : Int) * (2 * c) by rw [Nat.pow_succ, Int.natCast_mul, Int.mul_assoc]; rfl]
    exact this
theorem scl_rel (c : Int) (l : List Int) : Rel c l (scl c l) := fun i hi => by
  rw [scl, mk_get _ _ hi, Int.mul_comm c]
  exact Cg.mod _
theorem ok_eq {x y : List Int} (hx : Ok x) (hy : Ok y) (h : ∀ i, i < 256 → Cg (x.getD i 0) (y.getD i 0)) : x = y := ext256 hx.1 hy.1 fun i hi => (h i hi).eq (hx.2 i hi) (hy.2 i hi)
theorem inv256 (x : Int) : Cg (8347681 * (256 * x)) x := by
  rw [← Int.mul_assoc]
  exact ⟨255 * x, by omega⟩
theorem bck_thr {l : List Int} (hl : Ok l) : bck (thr l) = l := ok_eq (bck_ok _) hl fun i hi => by
  have h1 := up_thr 8 l (Nat.le_refl _) i hi
  have h2 := scl_rel 8347681 (bckF 8 (thrF 8 l)) i hi
  rw [bck8] at h2
  exact h2.trans ((h1.mulL _).trans (inv256 _))
theorem thr_bck {l : List Int} (hl : Ok l) : thr (bck l) = l := ok_eq (thr_ok (bck_ok _)) hl fun i hi => by
  have h2 := scl_rel 8347681 (bckF 8 l)
  rw [bck8] at h2
  have h1 := thr_up 8 8347681 l _ (Nat.le_refl _) h2 i hi
  rw [← bck8] at h1
  refine h1.trans ?_
  rw [Int.mul_comm ((2 ^ 8 : Nat) : Int), Int.mul_assoc]
  exact inv256 _
end Go.Proofs.Ytoednaebdfohbaa.PRing
