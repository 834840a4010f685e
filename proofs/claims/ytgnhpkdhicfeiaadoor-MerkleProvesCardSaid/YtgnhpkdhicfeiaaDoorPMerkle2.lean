/- Paths and bridges, verified: the machine that goes up, in plain words, and that it comes to the root. No program in sight. -/
import Derived.Test.YtgnhpkdhicfeiaaDoorPMerkle
namespace Go.Proofs.YtgnhpkdhicfeiaaDoor.PMerkle
open Go.Proofs.YtgnhpkdhicfeiaaDoor.PSha
set_option linter.unusedVariables false
set_option linter.unusedSimpArgs false
set_option linter.unusedVariables false
def strip0 (x y : Nat) : Nat × Nat := if h : x % 2 = 0 ∧ x ≠ 0 then strip0 (x / 2) (y / 2) else (x, y)
termination_by x
decreasing_by omega
def strip1 (x y : Nat) : Nat × Nat := if h : x % 2 = 1 then strip1 (x / 2) (y / 2) else (x, y)
termination_by x
decreasing_by omega
theorem strip0_even {x y : Nat} (h : x % 2 = 0) (h0 : x ≠ 0) : strip0 x y = strip0 (x / 2) (y / 2) := by rw [strip0, dif_pos ⟨h, h0⟩]
theorem strip0_odd {x y : Nat} (h : x % 2 = 1) : strip0 x y = (x, y) := by rw [strip0, dif_neg (by omega)]
theorem strip1_odd {x y : Nat} (h : x % 2 = 1) : strip1 x y = strip1 (x / 2) (y / 2) := by rw [strip1, dif_pos h]
theorem strip1_even {x y : Nat} (h : x % 2 = 0) : strip1 x y = (x, y) := by rw [strip1, dif_neg (by omega)]
/-- The way up: each hash is set ahead or behind. -/
def gr : List (List Int) → Nat → Nat → List Int → List Int → Option (Nat × Nat × List Int × List Int)
  | [], x, y, a, b => some (x, y, a, b)
  | p :: ps, x, y, a, b => if y = 0 then none else if x % 2 = 1 ∨ x = y then gr ps ((strip0 x y).1 / 2) ((strip0 x y).2 / 2) (nodeS p a) (nodeS p b) else gr ps (x / 2) (y / 2) a (nodeS b p)
theorem gr_app : ∀ (ps qs : List (List Int)) (x y : Nat) (a b : List Int) {x' y' : Nat} {a' b' : List Int}, gr ps x y a b = some (x', y', a', b') → gr (ps ++ qs) x y a b = gr qs x' y' a' b'
  | [], qs, x, y, a, b, x', y', a', b', h => by
    simp only [gr, Option.some.injEq, Prod.mk.injEq] at h
    obtain ⟨rfl, rfl, rfl, rfl⟩ := h
    rfl
  | p :: ps, qs, x, y, a, b, x', y', a', b', h => by
    simp only [gr, List.cons_append] at h ⊢
    split at h
    · cases h
    · rename_i h0
      rw [if_neg h0]
      split at h
      · rename_i h1
        rw [if_pos h1]
        exact gr_app ps qs _ _ _ _ h
      · rename_i h1
        rw [if_neg h1]
        exact gr_app ps qs _ _ _ _ h
theorem two_pow_succ (s : Nat) : 2 ^ (s + 1) = 2 * 2 ^ s := by rw [Nat.pow_succ, Nat.mul_comm]
/-- In a whole tree, and in a greater one whose left part it is. -/
theorem simL : ∀ (ps : List (List Int)) (s x : Nat) (a b A B : List Int), x < 2 ^ s → gr ps x (2 ^ s - 1) a b = some (0, 0, A, B) → ∀ L, 2 ^ s ≤ L → gr ps x L a b = some (0, L / 2 ^ s, A, B)
  | [], s, x, a, b, A, B, hx, h, L, hL => by
    simp only [gr, Option.some.injEq, Prod.mk.injEq] at h
    obtain ⟨rfl, h2, rfl, rfl⟩ := h
    have h1 : 2 ^ s = 1 := by omega
    rw [h1, Nat.div_one]
    rfl
  | p :: ps, s, x, a, b, A, B, hx, h, L, hL => by
    cases s with
    | zero => simp only [gr, Nat.pow_zero, Nat.sub_self, if_true] at h; cases h
    | succ s =>
      have hs := two_pow_succ s
      have hp := Nat.two_pow_pos s
      have e1 : (2 ^ (s + 1) - 1) / 2 = 2 ^ s - 1 := by omega
      have e2 : L / 2 ^ (s + 1) = L / 2 / 2 ^ s := by rw [hs, Nat.div_div_eq_div_mul]
      simp only [gr] at h ⊢
      rw [if_neg (by omega)] at h
      rw [if_neg (by omega), e2]
      by_cases hx1 : x % 2 = 1
      · rw [if_pos (.inl hx1), strip0_odd hx1] at h
        rw [if_pos (.inl hx1), strip0_odd hx1]
        dsimp only at h ⊢
        rw [e1] at h
        exact simL ps s (x / 2) _ _ A B (by omega) h _ (by omega)
      · rw [if_neg (by omega), e1] at h
        rw [if_neg (by omega)]
        exact simL ps s (x / 2) _ _ A B (by omega) h _ (by omega)
theorem strip0_add : ∀ (x y s : Nat), x ≠ 0 → x ≤ y → y < 2 ^ s → ∃ s', 1 ≤ s' ∧ strip0 (x + 2 ^ s) (y + 2 ^ s) = ((strip0 x y).1 + 2 ^ s', (strip0 x y).2 + 2 ^ s') ∧ (strip0 x y).1 ≤ (strip0 x y).2 ∧ (strip0 x y).2 < 2 ^ s' := by
  intro x
  induction x using Nat.strongRecOn with
  | _ x ih =>
    intro y s h0 h1 h2
    cases s with
    | zero => simp at h2; omega
    | succ s =>
      have hs := two_pow_succ s
      by_cases hx : x % 2 = 0
      · obtain ⟨s', k1, k2, k3, k4⟩ := ih (x / 2) (by omega) (y / 2) s (by omega) (by omega) (by omega)
        rw [strip0_even hx h0, strip0_even (x := x + 2 ^ (s + 1)) (by omega) (by omega)]
        rw [show (x + 2 ^ (s + 1)) / 2 = x / 2 + 2 ^ s by omega, show (y + 2 ^ (s + 1)) / 2 = y / 2 + 2 ^ s by omega]
        exact ⟨s', k1, k2, k3, k4⟩
      · rw [strip0_odd (x := x) (by omega), strip0_odd (x := x + 2 ^ (s + 1)) (by omega)]
        exact ⟨s + 1, by omega, rfl, h1, h2⟩
theorem strip0_pow : ∀ u, strip0 (2 ^ u) (2 ^ u) = (1, 1)
  | 0 => strip0_odd rfl
  | u + 1 => by
    have hs := two_pow_succ u
    have hp := Nat.two_pow_pos u
    rw [strip0_even (by omega) (by omega), show 2 ^ (u + 1) / 2 = 2 ^ u by omega]
    exact strip0_pow u
/-- In a tree, and in a greater one whose right part it is. -/
theorem simR : ∀ (ps : List (List Int)) (s x y : Nat) (a b A B : List Int), x ≤ y → y < 2 ^ s → gr ps x y a b = some (0, 0, A, B) → ∃ u, gr ps (x + 2 ^ s) (y + 2 ^ s) a b = some (2 ^ u, 2 ^ u, A, B)
  | [], s, x, y, a, b, A, B, hx, hy, h => by
    simp only [gr, Option.some.injEq, Prod.mk.injEq] at h
    obtain ⟨rfl, rfl, rfl, rfl⟩ := h
    exact ⟨s, by simp [gr]⟩
  | p :: ps, s, x, y, a, b, A, B, hx, hy, h => by
    simp only [gr] at h ⊢
    by_cases h0 : y = 0
    · rw [if_pos h0] at h; cases h
    rw [if_neg h0] at h
    cases s with
    | zero => simp at hy; omega
    | succ s =>
      have hs := two_pow_succ s
      have hp := Nat.two_pow_pos s
      rw [if_neg (by omega)]
      by_cases hc : x % 2 = 1 ∨ x = y
      · rw [if_pos hc] at h
        rw [if_pos (by omega)]
        obtain ⟨s', k1, k2, k3, k4⟩ := strip0_add x y (s + 1) (by omega) hx hy
        rw [k2]
        obtain ⟨s'', rfl⟩ : ∃ s'', s' = s'' + 1 := ⟨s' - 1, by omega⟩
        have hs' := two_pow_succ s''
        dsimp only
        rw [show ((strip0 x y).1 + 2 ^ (s'' + 1)) / 2 = (strip0 x y).1 / 2 + 2 ^ s'' by omega, show ((strip0 x y).2 + 2 ^ (s'' + 1)) / 2 = (strip0 x y).2 / 2 + 2 ^ s'' by omega]
        exact simR ps s'' _ _ _ _ A B (by omega) (by omega) h
      · rw [if_neg hc] at h
        rw [if_neg (by omega), show (x + 2 ^ (s + 1)) / 2 = x / 2 + 2 ^ s by omega, show (y + 2 ^ (s + 1)) / 2 = y / 2 + 2 ^ s by omega]
        exact simR ps s _ _ _ _ A B (by omega) (by omega) h
theorem gr_lo (p a b : List Int) : gr [p] 0 1 a b = some (0, 0, a, nodeS b p) := rfl
theorem gr_hi (p a b : List Int) (u : Nat) : gr [p] (2 ^ u) (2 ^ u) a b = some (0, 0, nodeS p a, nodeS p b) := by
  have hp := Nat.two_pow_pos u
  unfold gr
  rw [if_neg (by omega), if_pos (.inr rfl), strip0_pow]
  rfl
theorem top_1 {n k : Nat} (h1 : k < n) (h2 : n ≤ 2 * k) : (n - 1) / k = 1 := by
  have : (n - 1) / k < 2 := (Nat.div_lt_iff_lt_mul (by omega)).2 (by omega)
  have : 1 ≤ (n - 1) / k := (Nat.le_div_iff_mul_le (by omega)).2 (by omega)
  omega
theorem pathL_1' {m : Nat} {l : List (List Int)} (h : l.length ≤ 1) : pathL m l = [] := by rw [pathL, dif_pos h]
theorem pathL_lo' {m : Nat} {l : List (List Int)} (h : 2 ≤ l.length) (hm : m < cutN l.length) : pathL m l = pathL m (l.take (cutN l.length)) ++ [rootL (l.drop (cutN l.length))] := by rw [pathL, dif_neg (by omega), if_pos hm]
theorem pathL_hi' {m : Nat} {l : List (List Int)} (h : 2 ≤ l.length) (hm : ¬ m < cutN l.length) : pathL m l = pathL (m - cutN l.length) (l.drop (cutN l.length)) ++ [rootL (l.take (cutN l.length))] := by rw [pathL, dif_neg (by omega), if_neg hm]
theorem bridgeL_eq' {m : Nat} {l : List (List Int)} {same : Bool} (h : m = l.length) : bridgeL m l same = if same then [] else [rootL l] := by rw [bridgeL, if_pos h]
theorem bridgeL_lo' {m : Nat} {l : List (List Int)} {same : Bool} (h0 : m ≠ l.length) (h : 2 ≤ l.length) (hm : m ≤ cutN l.length) : bridgeL m l same = bridgeL m (l.take (cutN l.length)) same ++ [rootL (l.drop (cutN l.length))] := by rw [bridgeL, if_neg h0, dif_neg (by omega), if_pos hm]
theorem bridgeL_hi' {m : Nat} {l : List (List Int)} {same : Bool} (h0 : m ≠ l.length) (h : 2 ≤ l.length) (hm : ¬ m ≤ cutN l.length) : bridgeL m l same = bridgeL (m - cutN l.length) (l.drop (cutN l.length)) false ++ [rootL (l.take (cutN l.length))] := by rw [bridgeL, if_neg h0, dif_neg (by omega), if_neg hm]
/-- A leaf's path comes to the root. -/
theorem path_up : ∀ (n : Nat) (l : List (List Int)) (m : Nat) (x : List Int), l.length = n → m < n → l[m]? = some x → ∃ A, gr (pathL m l) m (n - 1) x x = some (0, 0, A, rootL l) := by
  intro n
  induction n using Nat.strongRecOn with
  | _ n ih =>
    intro l m x hl hm hx
    by_cases h1 : n = 1
    · subst h1
      obtain rfl : m = 0 := by omega
      match l, hl with
      | [y], _ =>
        obtain rfl := Option.some.inj hx
        rw [pathL_1' (by simp), rootL_1]
        exact ⟨y, rfl⟩
    · have hc := cutN_bd (n := n) (by omega)
      obtain ⟨t, ht⟩ : ∃ t, cutN n = 2 ^ t := ⟨_, rfl⟩
      rw [rootL_2 (by omega)]
      by_cases hlo : m < cutN n
      · rw [pathL_lo' (by omega) (by rw [hl]; exact hlo), hl]
        obtain ⟨A, hA⟩ := ih (cutN n) (by omega) (l.take (cutN n)) m x (by rw [List.length_take]; omega) hlo (by rw [List.getElem?_take_of_lt hlo]; exact hx)
        rw [ht] at hA hlo hc ⊢
        have h2 := simL _ t m _ _ _ _ hlo hA (n - 1) (by omega)
        rw [top_1 (by omega) (by omega)] at h2
        exact ⟨A, (gr_app _ _ _ _ _ _ h2).trans (gr_lo _ _ _)⟩
      · rw [pathL_hi' (by omega) (by rw [hl]; exact hlo), hl]
        obtain ⟨A, hA⟩ := ih (n - cutN n) (by omega) (l.drop (cutN n)) (m - cutN n) x (by rw [List.length_drop]; omega) (by omega) (by rw [List.getElem?_drop, ← hx]; congr 1; omega)
        rw [ht] at hA hlo hc ⊢
        obtain ⟨u, h2⟩ := simR _ t _ _ _ _ _ _ (by omega) (by omega) hA
        rw [show m - 2 ^ t + 2 ^ t = m by omega, show n - 2 ^ t - 1 + 2 ^ t = n - 1 by omega] at h2
        exact ⟨_, (gr_app _ _ _ _ _ _ h2).trans (gr_hi _ _ _ u)⟩
theorem strip1_ones : ∀ t L, strip1 (2 ^ t - 1) L = (0, L / 2 ^ t)
  | 0, L => by rw [strip1_even (by simp)]; simp
  | t + 1, L => by
    have hs := two_pow_succ t
    have hp := Nat.two_pow_pos t
    rw [strip1_odd (by omega), show (2 ^ (t + 1) - 1) / 2 = 2 ^ t - 1 by omega, strip1_ones t, hs, Nat.div_div_eq_div_mul]
theorem strip1_left : ∀ (t x : Nat), x + 1 < 2 ^ t → ∃ s x', strip1 x (2 ^ t - 1) = (x', 2 ^ s - 1) ∧ x' < 2 ^ s ∧ ∀ L, 2 ^ t ≤ L → ∃ L', strip1 x L = (x', L') ∧ 2 ^ s ≤ L' ∧ L' / 2 ^ s = L / 2 ^ t
  | 0, x, h => by simp at h
  | t + 1, x, h => by
    have hs := two_pow_succ t
    have hp := Nat.two_pow_pos t
    by_cases hx : x % 2 = 1
    · obtain ⟨s, x', k1, k2, k3⟩ := strip1_left t (x / 2) (by omega)
      refine ⟨s, x', by rw [strip1_odd hx, show (2 ^ (t + 1) - 1) / 2 = 2 ^ t - 1 by omega, k1], k2, fun L hL => ?_⟩
      obtain ⟨L', j1, j2, j3⟩ := k3 (L / 2) (by omega)
      exact ⟨L', by rw [strip1_odd hx, j1], j2, by rw [j3, hs, Nat.div_div_eq_div_mul]⟩
    · exact ⟨t + 1, x, strip1_even (by omega), by omega, fun L hL => ⟨L, strip1_even (by omega), hL, rfl⟩⟩
theorem strip1_right : ∀ (t x y : Nat), x < y → y < 2 ^ t → ∃ s, strip1 (x + 2 ^ t) (y + 2 ^ t) = ((strip1 x y).1 + 2 ^ s, (strip1 x y).2 + 2 ^ s) ∧ (strip1 x y).1 ≤ (strip1 x y).2 ∧ (strip1 x y).2 < 2 ^ s
  | 0, x, y, h, h2 => by simp at h2; omega
  | t + 1, x, y, h, h2 => by
    have hs := two_pow_succ t
    have hp := Nat.two_pow_pos t
    by_cases hx : x % 2 = 1
    · obtain ⟨s, k1, k2, k3⟩ := strip1_right t (x / 2) (y / 2) (by omega) (by omega)
      rw [strip1_odd hx, strip1_odd (x := x + 2 ^ (t + 1)) (by omega), show (x + 2 ^ (t + 1)) / 2 = x / 2 + 2 ^ t by omega, show (y + 2 ^ (t + 1)) / 2 = y / 2 + 2 ^ t by omega]
      exact ⟨s, k1, k2, k3⟩
    · rw [strip1_even (x := x) (by omega), strip1_even (x := x + 2 ^ (t + 1)) (by omega)]
      exact ⟨t + 1, rfl, by dsimp only; omega, h2⟩
/-- A bridge comes to both roots. -/
theorem bridge_up : ∀ (n : Nat) (l : List (List Int)) (m : Nat), l.length = n → 0 < m → m < n → ∃ c rest, bridgeL m l false = c :: rest ∧ gr rest (strip1 (m - 1) (n - 1)).1 (strip1 (m - 1) (n - 1)).2 c c = some (0, 0, rootL (l.take m), rootL l) := by
  intro n
  induction n using Nat.strongRecOn with
  | _ n ih =>
    intro l m hl hm0 hm
    have hc := cutN_bd (n := n) (by omega)
    obtain ⟨t, ht⟩ : ∃ t, cutN n = 2 ^ t := ⟨_, rfl⟩
    rw [rootL_2 (l := l) (by omega)]
    by_cases hlo : m ≤ cutN n
    · rw [bridgeL_lo' (by omega) (by omega) (by rw [hl]; exact hlo), hl]
      by_cases hk : m = cutN n
      · rw [bridgeL_eq' (by rw [List.length_take]; omega)]
        refine ⟨_, _, rfl, ?_⟩
        rw [hk, ht, strip1_ones, top_1 (by omega) (by omega)]
        exact gr_lo _ _ _
      · obtain ⟨c, rest, h1, h2⟩ := ih (cutN n) (by omega) (l.take (cutN n)) m (by rw [List.length_take]; omega) hm0 (by omega)
        rw [List.take_take, show min m (cutN n) = m by omega] at h2
        rw [h1]
        refine ⟨c, rest ++ [rootL (l.drop (cutN n))], rfl, ?_⟩
        rw [ht] at h2 hc hlo hk ⊢
        obtain ⟨s, x', k1, k2, k3⟩ := strip1_left t (m - 1) (by omega)
        obtain ⟨L', j1, j2, j3⟩ := k3 (n - 1) (by omega)
        rw [k1] at h2
        have h3 := simL _ s x' _ _ _ _ k2 h2 L' j2
        rw [j3, top_1 (by omega) (by omega)] at h3
        rw [j1]
        exact (gr_app _ _ _ _ _ _ h3).trans (gr_lo _ _ _)
    · rw [bridgeL_hi' (by omega) (by omega) (by rw [hl]; exact hlo), hl]
      obtain ⟨c, rest, h1, h2⟩ := ih (n - cutN n) (by omega) (l.drop (cutN n)) (m - cutN n) (by rw [List.length_drop]; omega) (by omega) (by omega)
      rw [h1]
      refine ⟨c, rest ++ [rootL (l.take (cutN n))], rfl, ?_⟩
      have hcm : cutN m = cutN n := by rw [ht]; exact cutN_of (by omega) (by omega)
      have hlm : (l.take m).length = m := by rw [List.length_take]; omega
      rw [rootL_2 (l := l.take m) (by omega), hlm, hcm, List.take_take, show min (cutN n) m = cutN n by omega, List.drop_take]
      rw [ht] at h2 hc hlo ⊢
      obtain ⟨s, k1, k2, k3⟩ := strip1_right t (m - 2 ^ t - 1) (n - 2 ^ t - 1) (by omega) (by omega)
      rw [show m - 2 ^ t - 1 + 2 ^ t = m - 1 by omega, show n - 2 ^ t - 1 + 2 ^ t = n - 1 by omega] at k1
      obtain ⟨u, h3⟩ := simR _ s _ _ _ _ _ _ k2 k3 h2
      rw [k1]
      exact (gr_app _ _ _ _ _ _ h3).trans (gr_hi _ _ _ u)
theorem not_pow {m t : Nat} (h1 : 2 ^ t < m) (h2 : m < 2 * 2 ^ t) : ¬ m = 2 ^ Nat.log2 m := by
  rw [← two_pow_succ] at h2
  rw [log2_eq (Nat.le_of_lt h1) h2]
  omega
/-- A bridge that starts at what is the same. -/
theorem bridge_same : ∀ (n : Nat) (l : List (List Int)) (m : Nat), l.length = n → 0 < m → m ≤ n → (m < n ∨ ∃ t, n = 2 ^ t) →
    bridgeL m l false = if m = 2 ^ Nat.log2 m then rootL (l.take m) :: bridgeL m l true else bridgeL m l true := by
  intro n
  induction n using Nat.strongRecOn with
  | _ n ih =>
    intro l m hl hm0 hm h
    by_cases hmn : m = n
    · subst hmn
      obtain ⟨t, ht⟩ : ∃ t, m = 2 ^ t := by
        rcases h with h | h
        · omega
        · exact h
      have e : Nat.log2 m = t := log2_eq (by omega) (by rw [two_pow_succ]; have := Nat.two_pow_pos t; omega)
      rw [if_pos (by rw [e]; exact ht), bridgeL_eq' (same := false) hl.symm, bridgeL_eq' (same := true) hl.symm, List.take_of_length_le (by omega)]
      rfl
    · have hc := cutN_bd (n := n) (by omega)
      obtain ⟨t, ht⟩ : ∃ t, cutN n = 2 ^ t := ⟨_, rfl⟩
      by_cases hlo : m ≤ cutN n
      · rw [bridgeL_lo' (same := false) (by omega) (by omega) (by rw [hl]; exact hlo), bridgeL_lo' (same := true) (by omega) (by omega) (by rw [hl]; exact hlo), hl]
        have h1 := ih (cutN n) (by omega) (l.take (cutN n)) m (by rw [List.length_take]; omega) hm0 hlo (.inr ⟨t, ht⟩)
        rw [List.take_take, show min m (cutN n) = m by omega] at h1
        rw [h1]
        split <;> rfl
      · rw [bridgeL_hi' (same := false) (by omega) (by omega) (by rw [hl]; exact hlo), bridgeL_hi' (same := true) (by omega) (by omega) (by rw [hl]; exact hlo), hl, if_neg]
        rw [ht] at hc hlo
        exact not_pow (t := t) (by omega) (by omega)
end Go.Proofs.YtgnhpkdhicfeiaaDoor.PMerkle
