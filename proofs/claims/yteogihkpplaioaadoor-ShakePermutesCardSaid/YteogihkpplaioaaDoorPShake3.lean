/- The permutation of a sponge takes unlike states to unlike ones. No program in sight. -/
import Derived.Test.YteogihkpplaioaaDoorPShake
namespace Go.Proofs.YteogihkpplaioaaDoor.PShake
open Go Go.Proofs.YteogihkpplaioaaDoor.MX
set_option linter.unusedVariables false
set_option linter.unusedSimpArgs false
/-! ### Numbers by their bits -/
def tb (x : Int) (i : Nat) : Bool := x.toNat.testBit i
theorem U64.nat {x : Int} (h : U64 x) : ∃ n : Nat, x = n ∧ n < 18446744073709551616 := ⟨x.toNat, by have := h.1; omega, by have := h.2; omega⟩
theorem tb_ext {x y : Int} (hx : U64 x) (hy : U64 y) (h : ∀ i, i < 64 → tb x i = tb y i) : x = y := by
  obtain ⟨n, rfl, hn⟩ := hx.nat
  obtain ⟨m, rfl, hm⟩ := hy.nat
  congr 1
  apply Nat.eq_of_testBit_eq
  intro i
  rcases Nat.lt_or_ge i 64 with hi | hi
  · exact h i hi
  · rw [Nat.testBit_lt_two_pow (Nat.lt_of_lt_of_le hn (Nat.pow_le_pow_right (show 2 > 0 by decide) hi)), Nat.testBit_lt_two_pow (Nat.lt_of_lt_of_le hm (Nat.pow_le_pow_right (show 2 > 0 by decide) hi))]
theorem tb_xr {x y : Int} (hx : U64 x) (hy : U64 y) (i : Nat) : tb (xr x y) i = (tb x i ^^ tb y i) := by
  obtain ⟨n, rfl, hn⟩ := hx.nat
  obtain ⟨m, rfl, hm⟩ := hy.nat
  show (bits .xor .u64 (n : Int) m).toNat.testBit i = _
  rw [bits_xor_u64_nat n m hn hm, Int.toNat_natCast, Nat.testBit_xor]; rfl
theorem tb_an {x y : Int} (hx : U64 x) (hy : U64 y) (i : Nat) : tb (bits .and .u64 x y) i = (tb x i && tb y i) := by
  obtain ⟨n, rfl, hn⟩ := hx.nat
  obtain ⟨m, rfl, hm⟩ := hy.nat
  show (bits .and .u64 (n : Int) m).toNat.testBit i = _
  rw [bits_and_u64_nat n m hn hm, Int.toNat_natCast, Nat.testBit_and]; rfl
theorem tb_nt {x : Int} (hx : U64 x) {i : Nat} (hi : i < 64) : tb (notu .u64 x) i = !tb x i := by
  obtain ⟨n, rfl, hn⟩ := hx.nat
  have e : (if IntKind.u64.signed = true then (-1 : Int) else IntKind.u64.max) = ((18446744073709551615 : Nat) : Int) := by decide
  rw [notu, e]
  show (bits .xor .u64 ((18446744073709551615 : Nat) : Int) n).toNat.testBit i = _
  rw [bits_xor_u64_nat _ n (by decide) hn, Int.toNat_natCast, Nat.testBit_xor, show (18446744073709551615 : Nat) = 2 ^ 64 - 1 by decide, Nat.testBit_two_pow_sub_one]
  simp [hi, tb]
/-- Turned by k, bit i is bit i + 64 - k. -/
theorem tb_rot {x : Int} (hx : U64 x) {k i : Nat} (hk : 0 < k ∧ k < 64) (hi : i < 64) : tb (rot x k) i = tb x ((i + (64 - k)) % 64) := by
  obtain ⟨n, rfl, hn⟩ := hx.nat
  have e1 : (n : Int) * 2 ^ k % 18446744073709551616 = ((n * 2 ^ k % 18446744073709551616 : Nat) : Int) := by
    rw [Int.natCast_emod, Int.natCast_mul, Int.natCast_pow]; rfl
  have e2 : (n : Int) / 2 ^ (64 - k) = ((n / 2 ^ (64 - k) : Nat) : Int) := by
    rw [Int.natCast_ediv, Int.natCast_pow]; rfl
  have h2 : n / 2 ^ (64 - k) < 18446744073709551616 := Nat.lt_of_le_of_lt (Nat.div_le_self _ _) hn
  unfold rot
  rw [e1, e2]
  show (bits .or .u64 ((n * 2 ^ k % 18446744073709551616 : Nat) : Int) ((n / 2 ^ (64 - k) : Nat) : Int)).toNat.testBit i = n.testBit ((i + (64 - k)) % 64)
  rw [bits_or_u64_nat _ _ (Nat.mod_lt _ (by decide)) h2, Int.toNat_natCast, Nat.testBit_or, show (18446744073709551616 : Nat) = 2 ^ 64 by decide, Nat.testBit_mod_two_pow, Nat.testBit_mul_two_pow, Nat.testBit_div_two_pow]
  rcases Nat.lt_or_ge i k with h | h
  · have : (i + (64 - k)) % 64 = i + (64 - k) := Nat.mod_eq_of_lt (by omega)
    rw [this]
    simp [hi, show ¬ k ≤ i by omega, Nat.add_comm]
  · have h3 : (i + (64 - k)) % 64 = i - k := by omega
    rw [h3]
    have h4 : n.testBit (64 - k + i) = false := Nat.testBit_lt_two_pow (Nat.lt_of_lt_of_le hn (by rw [show (18446744073709551616 : Nat) = 2 ^ 64 by decide]; exact Nat.pow_le_pow_right (by decide) (by omega)))
    simp [hi, h, h4, Nat.add_comm i]
/-! ### Each stage can be undone -/
theorem chi5 : ∀ a b c d e a' b' c' d' e' : Bool, (a ^^ (!b && c)) = (a' ^^ (!b' && c')) → (b ^^ (!c && d)) = (b' ^^ (!c' && d')) → (c ^^ (!d && e)) = (c' ^^ (!d' && e')) → (d ^^ (!e && a)) = (d' ^^ (!e' && a')) → (e ^^ (!a && b)) = (e' ^^ (!a' && b')) → a = a' ∧ b = b' ∧ c = c' ∧ d = d' ∧ e = e' := by decide
theorem chL_inj {x y : List Int} (hx : Lns x) (hy : Lns y) (h : chL x = chL y) : x = y := by
  have lx : ∀ j, j < 25 → U64 (lan x j) := hx.2
  have ly : ∀ j, j < 25 → U64 (lan y j) := hy.2
  have hc : ∀ j, j < 25 → ∀ i, i < 64 → (tb (lan x j) i ^^ (!tb (lan x (j / 5 * 5 + (j + 1) % 5)) i && tb (lan x (j / 5 * 5 + (j + 2) % 5)) i)) = (tb (lan y j) i ^^ (!tb (lan y (j / 5 * 5 + (j + 1) % 5)) i && tb (lan y (j / 5 * 5 + (j + 2) % 5)) i)) := fun j hj i hi => by
    have e := congrArg (fun l => tb (l.getD j 0) i) h
    simp only [chL, mkn_get _ hj, chf] at e
    have b1 : j / 5 * 5 + (j + 1) % 5 < 25 := by omega
    have b2 : j / 5 * 5 + (j + 2) % 5 < 25 := by omega
    rw [tb_xr (lx j hj) (bits_U64 _ _ _), tb_xr (ly j hj) (bits_U64 _ _ _), tb_an (by unfold notu; exact bits_U64 _ _ _) (lx _ b2), tb_an (by unfold notu; exact bits_U64 _ _ _) (ly _ b2), tb_nt (lx _ b1) hi, tb_nt (ly _ b1) hi] at e
    exact e
  refine ext_getD 0 hx.1 hy.1 fun j hj => tb_ext (hx.2 j hj) (hy.2 j hj) fun i hi => ?_
  obtain ⟨q, r, hq, hr, rfl⟩ : ∃ q r, q < 5 ∧ r < 5 ∧ j = 5 * q + r := ⟨j / 5, j % 5, by omega, by omega, by omega⟩
  have g : ∀ r', r' < 5 → _ := fun r' hr' => hc (5 * q + r') (by omega) i hi
  have g0 := g 0 (by decide)
  have g1 := g 1 (by decide)
  have g2 := g 2 (by decide)
  have g3 := g 3 (by decide)
  have g4 := g 4 (by decide)
  rw [show (5 * q + 0) / 5 * 5 = 5 * q by omega, show (5 * q + 0 + 1) % 5 = 1 by omega, show (5 * q + 0 + 2) % 5 = 2 by omega] at g0
  rw [show (5 * q + 1) / 5 * 5 = 5 * q by omega, show (5 * q + 1 + 1) % 5 = 2 by omega, show (5 * q + 1 + 2) % 5 = 3 by omega] at g1
  rw [show (5 * q + 2) / 5 * 5 = 5 * q by omega, show (5 * q + 2 + 1) % 5 = 3 by omega, show (5 * q + 2 + 2) % 5 = 4 by omega] at g2
  rw [show (5 * q + 3) / 5 * 5 = 5 * q by omega, show (5 * q + 3 + 1) % 5 = 4 by omega, show (5 * q + 3 + 2) % 5 = 0 by omega] at g3
  rw [show (5 * q + 4) / 5 * 5 = 5 * q by omega, show (5 * q + 4 + 1) % 5 = 0 by omega, show (5 * q + 4 + 2) % 5 = 1 by omega] at g4
  obtain ⟨k0, k1, k2, k3, k4⟩ := chi5 _ _ _ _ _ _ _ _ _ _ g0 g1 g2 g3 g4
  have : r = 0 ∨ r = 1 ∨ r = 2 ∨ r = 3 ∨ r = 4 := by omega
  rcases this with rfl | rfl | rfl | rfl | rfl
  · exact k0
  · exact k1
  · exact k2
  · exact k3
  · exact k4
theorem ts_lt : ∀ k, k < 25 → TS.getD k 0 < 64 := by decide
theorem tn_inj {x y : Int} (hx : U64 x) (hy : U64 y) {k : Nat} (hk : k < 64) (h : tn x k = tn y k) : x = y := by
  unfold tn at h
  split at h
  · exact h
  · rename_i hk0
    refine tb_ext hx hy fun i hi => ?_
    have e := congrArg (fun z => tb z ((i + k) % 64)) h
    rw [tb_rot hx ⟨by omega, hk⟩ (Nat.mod_lt _ (by decide)), tb_rot hy ⟨by omega, hk⟩ (Nat.mod_lt _ (by decide)), show ((i + k) % 64 + (64 - k)) % 64 = i by omega] at e
    exact e
theorem rpL_inj {x y : List Int} (hx : Lns x) (hy : Lns y) (h : rpL x = rpL y) : x = y := ext_getD 0 hx.1 hy.1 fun j hj => by
  obtain ⟨h1, h2⟩ := src_goes j hj
  have e := congrArg (fun l => l.getD (goes j) 0) h
  simp only [rpL, mkn_get _ h1, rpf, h2] at e
  exact tn_inj (hx.2 j hj) (hy.2 j hj) (ts_lt j hj) e
theorem xr_cancel {x y c : Int} (hx : U64 x) (hy : U64 y) (hc : U64 c) (h : xr x c = xr y c) : x = y := tb_ext hx hy fun i hi => by
  have e := congrArg (fun z => tb z i) h
  rw [tb_xr hx hc, tb_xr hy hc] at e
  revert e
  cases tb x i <;> cases tb y i <;> cases tb c i <;> decide
theorem ioL_inj {x y : List Int} {c : Int} (hx : Lns x) (hy : Lns y) (hc : U64 c) (h : ioL x c = ioL y c) : x = y := ext_getD 0 hx.1 hy.1 fun j hj => by
  have e := congrArg (fun l => l.getD j 0) h
  simp only [ioL] at e
  rw [getD_set _ _ _ _ _ (by rw [hx.1]; decide), getD_set _ _ _ _ _ (by rw [hy.1]; decide)] at e
  by_cases h0 : j = 0
  · subst h0
    rw [if_pos rfl, if_pos rfl] at e
    exact xr_cancel (hx.2 0 hj) (hy.2 0 hj) hc e
  · rwa [if_neg h0, if_neg h0] at e
/-! ### Columns: the sums that the first stage takes are told apart -/
theorem col_sq (G : Nat → Nat) {K : Nat} (h : ∀ i, (G (i + 4 * K) + G (i + 3 * K) + G i) % 2 = 0) (i : Nat) : (G (i + 4 * (2 * K)) + G (i + 3 * (2 * K)) + G i) % 2 = 0 := by
  have h1 := h i
  have h2 := h (i + 3 * K)
  have h3 := h (i + 4 * K)
  rw [show i + 3 * K + 4 * K = i + 7 * K by omega, show i + 3 * K + 3 * K = i + 6 * K by omega] at h2
  rw [show i + 4 * K + 4 * K = i + 8 * K by omega, show i + 4 * K + 3 * K = i + 7 * K by omega] at h3
  rw [show i + 4 * (2 * K) = i + 8 * K by omega, show i + 3 * (2 * K) = i + 6 * K by omega]
  omega
theorem col_zero (G : Nat → Nat → Nat) (hb : ∀ k i, G k i ≤ 1) (hp : ∀ k i, G k (i + 64) = G k i) (h5 : ∀ k i, G (k + 5) i = G k i) (hR : ∀ k i, (G (k + 2) i + G (k + 1) (i + 1) + G k (i + 1)) % 2 = 0) (i : Nat) : G 0 i = 0 := by
  have u2 : ∀ i, (G 2 i + G 1 (i + 1) + G 0 (i + 1)) % 2 = 0 := hR 0
  have u3 : ∀ i, (G 3 i + G 2 (i + 1) + G 1 (i + 1)) % 2 = 0 := hR 1
  have u4 : ∀ i, (G 4 i + G 3 (i + 1) + G 2 (i + 1)) % 2 = 0 := hR 2
  have u5 : ∀ i, (G 0 i + G 4 (i + 1) + G 3 (i + 1)) % 2 = 0 := fun i => by have := hR 3 i; rwa [h5 0] at this
  have u6 : ∀ i, (G 1 i + G 0 (i + 1) + G 4 (i + 1)) % 2 = 0 := fun i => by have := hR 4 i; rwa [h5 1, h5 0] at this
  have v3 : ∀ i, (G 3 i + G 0 (i + 2) + G 1 (i + 2) + G 1 (i + 1)) % 2 = 0 := fun i => by
    have := u3 i
    have := u2 (i + 1)
    simp only [Nat.add_assoc, Nat.reduceAdd, Nat.reduceMul] at *
    omega
  have v4 : ∀ i, (G 4 i + G 0 (i + 3) + G 0 (i + 2) + G 1 (i + 3)) % 2 = 0 := fun i => by
    have := u4 i
    have := v3 (i + 1)
    have := u2 (i + 1)
    simp only [Nat.add_assoc, Nat.reduceAdd, Nat.reduceMul] at *
    omega
  have E1 : ∀ i, (G 0 i + G 0 (i + 4) + G 1 (i + 4) + G 1 (i + 3) + G 1 (i + 2)) % 2 = 0 := fun i => by
    have := u5 i
    have := v4 (i + 1)
    have := v3 (i + 1)
    simp only [Nat.add_assoc, Nat.reduceAdd, Nat.reduceMul] at *
    omega
  have E2 : ∀ i, (G 1 i + G 0 (i + 1) + G 0 (i + 4) + G 0 (i + 3) + G 1 (i + 4)) % 2 = 0 := fun i => by
    have := u6 i
    have := v4 (i + 1)
    simp only [Nat.add_assoc, Nat.reduceAdd, Nat.reduceMul] at *
    omega
  have P0 : ∀ i, (G 0 (i + 4 * 1) + G 0 (i + 3 * 1) + G 0 i) % 2 = 0 := fun i => by
    have := E1 i
    have := E1 (i + 4)
    have := E2 (i + 2)
    have := E2 (i + 3)
    have := E2 (i + 4)
    simp only [Nat.add_assoc, Nat.reduceAdd, Nat.reduceMul] at *
    omega
  have P6 := col_sq _ (col_sq _ (col_sq _ (col_sq _ (col_sq _ (col_sq _ P0))))) i
  have hp2 : ∀ m i, G 0 (i + 64 * m) = G 0 i := fun m => by
    induction m with
    | zero => intro i; rfl
    | succ m ih => intro i; rw [show i + 64 * (m + 1) = i + 64 * m + 64 by omega, hp, ih]
  have e1 := hp2 4 i
  have e2 := hp2 3 i
  have hbi := hb 0 i
  rw [show i + 4 * (2 * (2 * (2 * (2 * (2 * (2 * 1)))))) = i + 64 * 4 by omega, show i + 3 * (2 * (2 * (2 * (2 * (2 * (2 * 1)))))) = i + 64 * 3 by omega, e1, e2] at P6
  omega
theorem b_xor (a b : Bool) : ((a ^^ b).toNat + a.toNat + b.toNat) % 2 = 0 := by cases a <;> cases b <;> decide
theorem cP_U64 (s : Nat → Int) (c : Nat) : U64 (cP s c) := by unfold cP; exact bits_U64 _ _ _
theorem dP_U64 (s : Nat → Int) (c : Nat) : U64 (dP s c) := by unfold dP; exact bits_U64 _ _ _
theorem tb_cP {s : Nat → Int} (hs : ∀ j, j < 25 → U64 (s j)) {c : Nat} (hc : c < 5) (i : Nat) : tb (cP s c) i = (tb (s c) i ^^ tb (s (c + 5)) i ^^ tb (s (c + 10)) i ^^ tb (s (c + 15)) i ^^ tb (s (c + 20)) i) := by
  rw [cP, tb_xr (bits_U64 _ _ _) (hs _ (by omega)), tb_xr (bits_U64 _ _ _) (hs _ (by omega)), tb_xr (bits_U64 _ _ _) (hs _ (by omega)), tb_xr (hs _ (by omega)) (hs _ (by omega))]
theorem tb_dP {s : Nat → Int} (hs : ∀ j, j < 25 → U64 (s j)) {c : Nat} {i : Nat} (hi : i < 64) : tb (dP s c) i = (tb (cP s ((c + 4) % 5)) i ^^ tb (cP s ((c + 1) % 5)) ((i + 63) % 64)) := by
  rw [dP, tb_xr (cP_U64 _ _) (rot_U64 _ _), tb_rot (cP_U64 _ _) ⟨by decide, by decide⟩ hi]
theorem five (a0 a1 a2 a3 a4 b0 b1 b2 b3 b4 p q : Bool) (h0 : (a0 ^^ p) = (b0 ^^ q)) (h1 : (a1 ^^ p) = (b1 ^^ q)) (h2 : (a2 ^^ p) = (b2 ^^ q)) (h3 : (a3 ^^ p) = (b3 ^^ q)) (h4 : (a4 ^^ p) = (b4 ^^ q)) :
    ((a0 ^^ a1 ^^ a2 ^^ a3 ^^ a4) ^^ (b0 ^^ b1 ^^ b2 ^^ b3 ^^ b4)) = (p ^^ q) := by
  obtain rfl : a0 = (b0 ^^ q ^^ p) := by revert h0; cases a0 <;> cases b0 <;> cases p <;> cases q <;> decide
  obtain rfl : a1 = (b1 ^^ q ^^ p) := by revert h1; cases a1 <;> cases b1 <;> cases p <;> cases q <;> decide
  obtain rfl : a2 = (b2 ^^ q ^^ p) := by revert h2; cases a2 <;> cases b2 <;> cases p <;> cases q <;> decide
  obtain rfl : a3 = (b3 ^^ q ^^ p) := by revert h3; cases a3 <;> cases b3 <;> cases p <;> cases q <;> decide
  obtain rfl : a4 = (b4 ^^ q ^^ p) := by revert h4; cases a4 <;> cases b4 <;> cases p <;> cases q <;> decide
  revert b0 b1 b2 b3 b4 p q
  intro b0 b1 b2 b3 b4 p q
  cases b0 <;> cases b1 <;> cases b2 <;> cases b3 <;> cases b4 <;> cases p <;> cases q <;> intros <;> rfl
theorem thL_inj {x y : List Int} (hx : Lns x) (hy : Lns y) (h : thL x = thL y) : x = y := by
  have lx : ∀ j, j < 25 → U64 (lan x j) := hx.2
  have ly : ∀ j, j < 25 → U64 (lan y j) := hy.2
  have hth : ∀ j, j < 25 → ∀ i, (tb (lan x j) i ^^ tb (dP (lan x) (j % 5)) i) = (tb (lan y j) i ^^ tb (dP (lan y) (j % 5)) i) := fun j hj i => by
    have e := congrArg (fun l => tb (l.getD j 0) i) h
    simp only [thL, mkn_get _ hj, thf] at e
    rwa [tb_xr (lx j hj) (dP_U64 _ _), tb_xr (ly j hj) (dP_U64 _ _)] at e
  -- E c i: whether the columns' sums differ
  obtain ⟨E, hE⟩ : ∃ E : Nat → Nat → Bool, E = fun c i => (tb (cP (lan x) c) i ^^ tb (cP (lan y) c) i) := ⟨_, rfl⟩
  have hD : ∀ c, c < 5 → ∀ i, E c i = (tb (dP (lan x) c) i ^^ tb (dP (lan y) c) i) := fun c hc i => by
    rw [hE]
    dsimp only
    rw [tb_cP lx hc, tb_cP ly hc]
    have g0 := hth c (by omega) i
    have g1 := hth (c + 5) (by omega) i
    have g2 := hth (c + 10) (by omega) i
    have g3 := hth (c + 15) (by omega) i
    have g4 := hth (c + 20) (by omega) i
    rw [show c % 5 = c by omega] at g0
    rw [show (c + 5) % 5 = c by omega] at g1
    rw [show (c + 10) % 5 = c by omega] at g2
    rw [show (c + 15) % 5 = c by omega] at g3
    rw [show (c + 20) % 5 = c by omega] at g4
    exact five _ _ _ _ _ _ _ _ _ _ _ _ g0 g1 g2 g3 g4
  have hEE : ∀ c, c < 5 → ∀ i, i < 64 → E c i = (E ((c + 4) % 5) i ^^ E ((c + 1) % 5) ((i + 63) % 64)) := fun c hc i hi => by
    rw [hD c hc i, tb_dP lx hi, tb_dP ly hi, hE]
    dsimp only
    cases tb (cP (lan x) ((c + 4) % 5)) i <;> cases tb (cP (lan y) ((c + 4) % 5)) i <;> cases tb (cP (lan x) ((c + 1) % 5)) ((i + 63) % 64) <;> cases tb (cP (lan y) ((c + 1) % 5)) ((i + 63) % 64) <;> rfl
  have hz : ∀ c, c < 5 → ∀ i, i < 64 → E c i = false := fun c hc i hi => by
    have := col_zero (fun k i => (E ((c + k) % 5) (i % 64)).toNat) (fun k i => by cases E ((c + k) % 5) (i % 64) <;> decide) (fun k i => by rw [Nat.add_mod_right]) (fun k i => by rw [show (c + (k + 5)) % 5 = (c + k) % 5 by omega])
      (fun k i => by
        have e := hEE ((c + k + 1) % 5) (Nat.mod_lt _ (by decide)) ((i + 1) % 64) (Nat.mod_lt _ (by decide))
        rw [show ((c + k + 1) % 5 + 4) % 5 = (c + k) % 5 by omega, show ((c + k + 1) % 5 + 1) % 5 = (c + (k + 2)) % 5 by omega, show ((i + 1) % 64 + 63) % 64 = i % 64 by omega] at e
        rw [show c + (k + 1) = c + k + 1 by omega]
        rw [e]
        have := b_xor (E ((c + k) % 5) ((i + 1) % 64)) (E ((c + (k + 2)) % 5) (i % 64))
        omega) i
    rw [Nat.add_zero, Nat.mod_eq_of_lt hc, Nat.mod_eq_of_lt hi] at this
    revert this
    cases E c i <;> decide
  refine ext_getD 0 hx.1 hy.1 fun j hj => tb_ext (hx.2 j hj) (hy.2 j hj) fun i hi => ?_
  have g := hth j hj i
  have e := hz (j % 5) (Nat.mod_lt _ (by decide)) i hi
  rw [hD (j % 5) (Nat.mod_lt _ (by decide)) i] at e
  show tb (lan x j) i = tb (lan y j) i
  revert g e
  cases tb (lan x j) i <;> cases tb (lan y j) i <;> cases tb (dP (lan x) (j % 5)) i <;> cases tb (dP (lan y) (j % 5)) i <;> decide
theorem RC_U64 : ∀ i, i < 24 → U64 (RC.getD i 0) := by unfold U64; decide
theorem rnd_inj {x y : List Int} {c : Int} (hx : Lns x) (hy : Lns y) (hc : U64 c) (h : rnd x c = rnd y c) : x = y :=
  thL_inj hx hy (rpL_inj (thL_lns x) (thL_lns y) (chL_inj (rpL_lns (thL_lns x)) (rpL_lns (thL_lns y)) (ioL_inj (chL_lns _) (chL_lns _) hc h)))
theorem rnds_inj {x y : List Int} (hx : Lns x) (hy : Lns y) : ∀ i, i ≤ 24 → rnds x i = rnds y i → x = y
  | 0, _, h => h
  | i + 1, hi, h => rnds_inj hx hy i (by omega) (rnd_inj (rnds_lns hx i) (rnds_lns hy i) (RC_U64 i (by omega)) h)
theorem perm_inj {x y : List Int} (hx : Lns x) (hy : Lns y) (h : perm x = perm y) : x = y := rnds_inj hx hy 24 (Nat.le_refl _) h
end Go.Proofs.YteogihkpplaioaaDoor.PShake
