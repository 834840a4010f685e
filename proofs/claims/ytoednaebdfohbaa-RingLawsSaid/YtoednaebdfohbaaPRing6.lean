/- The product term by term is the product by the transforms. No program in sight. -/
import Derived.Test.YtoednaebdfohbaaPRing5
namespace Go.Proofs.Ytoednaebdfohbaa.PRing
open Go
set_option linter.unusedVariables false
set_option linter.unusedSimpArgs false
/-- One term comes to a product. -/
def mst (a b l : List Int) (i j : Nat) : List Int :=
  if i + j < 256 then l.set (i + j) ((l.getD (i + j) 0 + a.getD i 0 * b.getD j 0) % 8380417)
  else l.set (i + j - 256) ((l.getD (i + j - 256) 0 + 8380416 * (a.getD i 0 * b.getD j 0 % 8380417)) % 8380417)
def mrow (a b l : List Int) (i : Nat) : Nat → List Int
  | 0 => l
  | j + 1 => mst a b (mrow a b l i j) i j
def mall (a b : List Int) : Nat → List Int
  | 0 => List.replicate 256 0
  | i + 1 => if a.getD i 0 = 0 then mall a b i else mrow a b (mall a b i) i 256
theorem set_ok {l : List Int} (h : Ok l) {t : Nat} (ht : t < 256) (x : Int) : Ok (l.set t (x % 8380417)) := by
  refine ⟨by rw [List.length_set, h.1], fun i hi => ?_⟩
  rw [getD_set _ _ _ _ (by rw [h.1]; exact ht)]
  split
  · exact ⟨Int.emod_nonneg _ (by decide), Int.emod_lt_of_pos _ (by decide)⟩
  · exact h.2 i hi
theorem mst_ok {a b l : List Int} (h : Ok l) {i j : Nat} (hi : i < 256) (hj : j < 256) : Ok (mst a b l i j) := by
  unfold mst
  split
  · exact set_ok h (by omega) _
  · exact set_ok h (by omega) _
theorem mrow_ok {a b l : List Int} (h : Ok l) {i : Nat} (hi : i < 256) : ∀ j, j ≤ 256 → Ok (mrow a b l i j)
  | 0, _ => h
  | j + 1, hj => mst_ok (mrow_ok h hi j (by omega)) hi (by omega)
theorem zeros_ok : Ok (List.replicate 256 (0 : Int)) := ⟨List.length_replicate, fun i hi => by
  rw [List.getD_eq_getElem?_getD, List.getElem?_replicate, if_pos hi]; exact ⟨by decide, by decide⟩⟩
theorem mall_ok {a b : List Int} : ∀ i, i ≤ 256 → Ok (mall a b i)
  | 0, _ => zeros_ok
  | i + 1, hi => by
    rw [mall]
    split
    · exact mall_ok i (by omega)
    · exact mrow_ok (mall_ok i (by omega)) (by omega) 256 (Nat.le_refl _)
theorem ev_set {l : List Int} (hl : l.length = 256) {t : Nat} (ht : t < 256) (x : Int) (i : Nat) : ev (l.set t x) i = ev l i + (x - l.getD t 0) * (ptN i : Int) ^ t := by
  have h1 : ∀ s, s < 256 → (l.set t x).getD s 0 * (ptN i : Int) ^ s = (l.getD s 0 * (ptN i : Int) ^ s + if s = t then (x - l.getD t 0) * (ptN i : Int) ^ t else 0) := fun s hs => by
    rw [getD_set _ _ _ _ (by rw [hl]; exact ht)]
    by_cases e : s = t
    · subst e
      rw [if_pos rfl, if_pos rfl, ← Int.add_mul]
      congr 1
      omega
    · rw [if_neg e, if_neg e, Int.add_zero]
  have h2 : sm (fun s => if s = t then (x - l.getD t 0) * (ptN i : Int) ^ t else 0) 256 = (x - l.getD t 0) * (ptN i : Int) ^ t := by rw [sm_one ht (fun s _ e => if_neg e), if_pos rfl]
  unfold ev
  rw [sm_eq h1, sm_add, h2]
theorem mst_ev {a b l : List Int} (h : Ok l) {i j k : Nat} (hi : i < 256) (hj : j < 256) (hk : k < 256) : Cg (ev (mst a b l i j) k) (ev l k + a.getD i 0 * (ptN k : Int) ^ i * (b.getD j 0 * (ptN k : Int) ^ j)) := by
  unfold mst
  split
  · rename_i hlt
    rw [ev_set h.1 hlt]
    refine (Cg.refl _).add ?_
    obtain ⟨q, hq⟩ := Cg.mod (l.getD (i + j) 0 + a.getD i 0 * b.getD j 0)
    rw [hq]
    exact ⟨q * (ptN k : Int) ^ (i + j), by grind⟩
  · rename_i hge
    rw [ev_set h.1 (show i + j - 256 < 256 by omega)]
    refine (Cg.refl _).add ?_
    obtain ⟨q, hq⟩ := Cg.mod (l.getD (i + j - 256) 0 + 8380416 * (a.getD i 0 * b.getD j 0 % 8380417))
    obtain ⟨r, hr⟩ := Cg.mod (a.getD i 0 * b.getD j 0)
    obtain ⟨s, hs⟩ := pt256_cg hk
    obtain ⟨m, hm⟩ : ∃ m, i + j = m + 256 := ⟨i + j - 256, by omega⟩
    have e1 : i + j - 256 = m := by omega
    rw [e1] at hq ⊢
    have e2 : (ptN k : Int) ^ i * (ptN k : Int) ^ j = (ptN k : Int) ^ m * (ptN k : Int) ^ 256 := by rw [← Int.pow_add, ← Int.pow_add, hm]
    have e3 : a.getD i 0 * (ptN k : Int) ^ i * (b.getD j 0 * (ptN k : Int) ^ j) = a.getD i 0 * b.getD j 0 * ((ptN k : Int) ^ m * (ptN k : Int) ^ 256) := by rw [← e2]; grind
    rw [e3, hs, hq, hr]
    generalize (ptN k : Int) ^ m = p
    generalize a.getD i 0 * b.getD j 0 = c
    exact ⟨(q + 8380416 * r + c - c * s) * p, by grind⟩
theorem mrow_ev {a b l : List Int} (h : Ok l) {i k : Nat} (hi : i < 256) (hk : k < 256) : ∀ j, j ≤ 256 → Cg (ev (mrow a b l i j) k) (ev l k + a.getD i 0 * (ptN k : Int) ^ i * sm (fun t => b.getD t 0 * (ptN k : Int) ^ t) j)
  | 0, _ => by rw [mrow, sm, Int.mul_zero, Int.add_zero]; exact Cg.refl _
  | j + 1, hj => by
    rw [mrow, sm, Int.mul_add, ← Int.add_assoc]
    exact (mst_ev (mrow_ok h hi j (by omega)) hi (by omega) hk).trans ((mrow_ev h hi hk j (by omega)).add (Cg.refl _))
theorem ev_zeros (k : Nat) : ev (List.replicate 256 0) k = 0 := sm_zero fun t ht => by
  rw [List.getD_eq_getElem?_getD, List.getElem?_replicate, if_pos ht]; exact Int.zero_mul _
theorem ev_def (l : List Int) (k : Nat) : sm (fun t => l.getD t 0 * (ptN k : Int) ^ t) 256 = ev l k := rfl
theorem mall_ev {a b : List Int} {k : Nat} (hk : k < 256) : ∀ i, i ≤ 256 → Cg (ev (mall a b i) k) (sm (fun t => a.getD t 0 * (ptN k : Int) ^ t) i * ev b k)
  | 0, _ => by rw [mall, sm, Int.zero_mul, ev_zeros]; exact Cg.refl _
  | i + 1, hi => by
    have ih := mall_ev (a := a) (b := b) hk i (by omega)
    rw [mall, sm, Int.add_mul]
    split
    · rename_i h0
      rw [h0, Int.zero_mul, Int.zero_mul, Int.add_zero]
      exact ih
    · have h := mrow_ev (a := a) (b := b) (mall_ok (a := a) (b := b) i (by omega)) (show i < 256 by omega) hk 256 (Nat.le_refl _)
      rw [ev_def b k] at h
      exact h.trans (ih.add (Cg.refl _))
/-- Two polynomials with the same values are one. -/
theorem ok_ev {x y : List Int} (hx : Ok x) (hy : Ok y) (h : ∀ k, k < 256 → Cg (ev x k) (ev y k)) : x = y := by
  have e : thr x = thr y := ok_eq (thr_ok hx) (thr_ok hy) fun k hk => (thr_ev x hk).trans ((h k hk).trans (thr_ev y hk).symm)
  rw [← bck_thr hx, e, bck_thr hy]
/-- The product by the transforms. -/
def mulP (a b : List Int) : List Int := bck (mk fun i => (thr a).getD i 0 * (thr b).getD i 0 % 8380417)
theorem mulP_ok (a b : List Int) : Ok (mulP a b) := bck_ok _
theorem thr_mulP (a b : List Int) : thr (mulP a b) = mk fun i => (thr a).getD i 0 * (thr b).getD i 0 % 8380417 := thr_bck (mod_ok fun i _ => ⟨_, rfl⟩)
theorem mulP_ev (a b : List Int) {k : Nat} (hk : k < 256) : Cg (ev (mulP a b) k) (ev a k * ev b k) := by
  refine (thr_ev _ hk).symm.trans ?_
  rw [thr_mulP, mk_get _ _ hk]
  exact (Cg.mod _).trans ((thr_ev a hk).mul (thr_ev b hk))
theorem mall_mulP (a b : List Int) {n : Nat} (hn : n = 256) : mall a b n = mulP a b := by
  refine ok_ev (mall_ok n (by omega)) (mulP_ok a b) fun k hk => ?_
  have h := mall_ev (a := a) (b := b) hk n (by omega)
  rw [hn, ev_def a k, ← hn] at h
  exact h.trans (mulP_ev a b hk).symm
theorem sm_256 (f : Nat → Int) {m r : Nat} (h : m + r = 256) : sm f 256 = sm f m + sm (fun t => f (m + t)) r := h ▸ sm_split f m r
/-! ### Laws -/
def addP (a b : List Int) : List Int := mk fun i => (a.getD i 0 + b.getD i 0) % 8380417
def subP (a b : List Int) : List Int := mk fun i => (a.getD i 0 - b.getD i 0 + 8380417) % 8380417
theorem addP_ok (a b : List Int) : Ok (addP a b) := mod_ok fun i _ => ⟨_, rfl⟩
theorem subP_ok (a b : List Int) : Ok (subP a b) := mod_ok fun i _ => ⟨_, rfl⟩
theorem addP_ev (a b : List Int) (k : Nat) : Cg (ev (addP a b) k) (ev a k + ev b k) := by
  rw [ev, ev, ev, ← sm_add]
  refine sm_cg fun t ht => ?_
  rw [addP, mk_get _ _ ht, ← Int.add_mul]
  exact (Cg.mod _).mulR _
theorem mulP_comm (a b : List Int) : mulP a b = mulP b a := ok_ev (mulP_ok _ _) (mulP_ok _ _) fun k hk => by
  have h := mulP_ev b a hk
  rw [Int.mul_comm] at h
  exact (mulP_ev a b hk).trans h.symm
theorem mulP_assoc (a b c : List Int) : mulP (mulP a b) c = mulP a (mulP b c) := ok_ev (mulP_ok _ _) (mulP_ok _ _) fun k hk => by
  have h1 := (mulP_ev (mulP a b) c hk).trans ((mulP_ev a b hk).mulR (ev c k))
  have h2 := (mulP_ev a (mulP b c) hk).trans ((mulP_ev b c hk).mulL (ev a k))
  rw [Int.mul_assoc] at h1
  exact h1.trans h2.symm
theorem mulP_add (a b c : List Int) : mulP a (addP b c) = addP (mulP a b) (mulP a c) := ok_ev (mulP_ok _ _) (addP_ok _ _) fun k hk => by
  have h1 := (mulP_ev a (addP b c) hk).trans ((addP_ev b c k).mulL (ev a k))
  rw [Int.mul_add] at h1
  exact h1.trans ((addP_ev _ _ k).trans ((mulP_ev a b hk).add (mulP_ev a c hk))).symm
theorem add_zero {a : List Int} (h : Ok a) : addP a (List.replicate 256 0) = a := ext256 (mk_len _) h.1 fun i hi => by
  have := h.2 i hi
  have e : (List.replicate 256 (0 : Int)).getD i 0 = 0 := by rw [List.getD_eq_getElem?_getD, List.getElem?_replicate, if_pos hi]; rfl
  rw [addP, mk_get _ _ hi, e]
  omega
theorem sub_self' {a : List Int} : subP a a = List.replicate 256 0 := ext256 (mk_len _) List.length_replicate fun i hi => by
  have e : (List.replicate 256 (0 : Int)).getD i 0 = 0 := by rw [List.getD_eq_getElem?_getD, List.getElem?_replicate, if_pos hi]; rfl
  rw [subP, mk_get _ _ hi, e]
  omega
theorem add_sub {a b : List Int} (ha : Ok a) (hb : Ok b) : subP (addP a b) b = a := ext256 (mk_len _) ha.1 fun i hi => by
  have h1 := ha.2 i hi
  have h2 := hb.2 i hi
  rw [subP, mk_get _ _ hi, addP, mk_get _ _ hi]
  omega
theorem ev_one (k : Nat) : ev (ck 0 1) k = 1 := by rw [ev_ck (by decide), Int.pow_zero]; rfl
theorem mul_one' {a : List Int} (h : Ok a) : mulP a (ck 0 1) = a := ok_ev (mulP_ok _ _) h fun k hk => by
  have := mulP_ev a (ck 0 1) hk
  rwa [ev_one, Int.mul_one] at this
theorem mul_zero' (a : List Int) : mulP a (List.replicate 256 0) = List.replicate 256 0 := ok_ev (mulP_ok _ _) zeros_ok fun k hk => by
  have := mulP_ev a (List.replicate 256 0) hk
  rw [ev_zeros, Int.mul_zero] at this
  rw [ev_zeros]
  exact this
/-- Times X^m: turned. -/
def shf (a : List Int) (m : Nat) : List Int := mk fun i => if i < m then (8380417 - a.getD (i + 256 - m) 0) % 8380417 else a.getD (i - m) 0
theorem shf_ok {a : List Int} (h : Ok a) {m : Nat} (hm : m < 256) : Ok (shf a m) := ⟨mk_len _, fun i hi => by
  rw [shf, mk_get _ _ hi]
  split
  · exact ⟨Int.emod_nonneg _ (by decide), Int.emod_lt_of_pos _ (by decide)⟩
  · exact h.2 _ (by omega)⟩
theorem mul_shf {a : List Int} (h : Ok a) {m : Nat} (hm : m < 256) : mulP a (ck m 1) = shf a m := ok_ev (mulP_ok _ _) (shf_ok h hm) fun k hk => by
  refine (mulP_ev a _ hk).trans ?_
  rw [ev_ck hm, Int.one_mul]
  obtain ⟨r, hr⟩ : ∃ r, 256 = m + r := ⟨256 - m, by omega⟩
  have e1 : ev (shf a m) k = sm (fun t => (8380417 - a.getD (r + t) 0) % 8380417 * (ptN k : Int) ^ t) m + sm (fun t => a.getD t 0 * (ptN k : Int) ^ (m + t)) r := by
    unfold ev
    rw [sm_256 _ hr.symm]
    have g1 : sm (fun t => (shf a m).getD t 0 * (ptN k : Int) ^ t) m = sm (fun t => (8380417 - a.getD (r + t) 0) % 8380417 * (ptN k : Int) ^ t) m := sm_eq fun t ht => by
      rw [shf, mk_get _ _ (by omega), if_pos ht, show t + 256 - m = r + t by omega]
    have g2 : sm (fun t => (shf a m).getD (m + t) 0 * (ptN k : Int) ^ (m + t)) r = sm (fun t => a.getD t 0 * (ptN k : Int) ^ (m + t)) r := sm_eq fun t ht => by
      rw [shf, mk_get _ _ (by omega), if_neg (by omega), show m + t - m = t by omega]
    rw [g1, g2]
  have e2 : ev a k = sm (fun t => a.getD t 0 * (ptN k : Int) ^ t) r + sm (fun t => a.getD (r + t) 0 * (ptN k : Int) ^ (r + t)) m := by
    unfold ev
    rw [sm_256 _ (show r + m = 256 by omega)]
  rw [e1, e2, Int.add_mul, Int.add_comm]
  refine Cg.add ?_ ?_
  · rw [Int.mul_comm, ← sm_mul]
    refine sm_cg fun t ht => ?_
    obtain ⟨s, hs⟩ := pt256_cg hk
    obtain ⟨q, hq⟩ := Cg.mod (8380417 - a.getD (r + t) 0)
    have e3 : (ptN k : Int) ^ m * (a.getD (r + t) 0 * (ptN k : Int) ^ (r + t)) = a.getD (r + t) 0 * ((ptN k : Int) ^ t * (ptN k : Int) ^ 256) := by
      have : (ptN k : Int) ^ m * (ptN k : Int) ^ (r + t) = (ptN k : Int) ^ t * (ptN k : Int) ^ 256 := by rw [← Int.pow_add, ← Int.pow_add, show m + (r + t) = t + 256 by omega]
      rw [← this]
      grind
    rw [e3, hs, hq]
    generalize (ptN k : Int) ^ t = p
    generalize a.getD (r + t) 0 = c
    exact ⟨(c * s - q - 1) * p, by grind⟩
  · rw [Int.mul_comm, ← sm_mul]
    refine sm_cg fun t ht => ?_
    rw [Int.pow_add]
    exact ⟨0, by grind⟩
end Go.Proofs.Ytoednaebdfohbaa.PRing
