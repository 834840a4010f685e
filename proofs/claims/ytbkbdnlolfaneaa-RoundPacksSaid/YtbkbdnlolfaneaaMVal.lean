/- Lists of digits as numbers, and what Go's operations on bits are of them; no program in sight. -/
import Derived.Test.YtbkbdnlolfaneaaMBase
namespace Go.Proofs.Ytbkbdnlolfaneaa.MVal
open Go.RowKit Go.Proofs.YtbkbdnlolfaneaaW.PrintWords Go.Proofs.Ytbkbdnlolfaneaa.MBase

/-- The number whose digits these are, the lowest first. -/
def val (B : Int) : List Int → Int
  | [] => 0
  | x :: l => x + B * val B l
/-- All are digits. -/
def inR (B : Int) (l : List Int) : Prop := ∀ x ∈ l, 0 ≤ x ∧ x < B

section
variable {B : Int}
theorem inR_nil : inR B [] := by intro x h; cases h
theorem inR_cons {x : Int} {l : List Int} : inR B (x :: l) ↔ (0 ≤ x ∧ x < B) ∧ inR B l := by simp [inR]
theorem inR_app {a b : List Int} : inR B (a ++ b) ↔ inR B a ∧ inR B b := by
  constructor
  · intro h
    exact ⟨fun x hx => h x (List.mem_append_left _ hx), fun x hx => h x (List.mem_append_right _ hx)⟩
  · rintro ⟨h, h'⟩ x hx
    rcases List.mem_append.1 hx with hx | hx
    · exact h x hx
    · exact h' x hx
theorem inR_one {x : Int} : inR B [x] ↔ 0 ≤ x ∧ x < B := by simp [inR]
theorem inR_at {l : List Int} (h : inR B l) (hB : 0 < B) (i : Nat) : 0 ≤ l.getD i 0 ∧ l.getD i 0 < B := by
  by_cases hi : i < l.length
  · rw [List.getD_eq_getElem?_getD, List.getElem?_eq_getElem hi]
    exact h _ (List.getElem_mem hi)
  · rw [List.getD_eq_getElem?_getD, List.getElem?_eq_none (by omega)]
    exact ⟨Int.le_refl _, hB⟩
theorem inR_take {l : List Int} (h : inR B l) (i : Nat) : inR B (l.take i) := fun x hx => h x (List.mem_of_mem_take hx)
theorem inR_drop {l : List Int} (h : inR B l) (i : Nat) : inR B (l.drop i) := fun x hx => h x (List.mem_of_mem_drop hx)
theorem inR_set {l : List Int} (h : inR B l) {i : Nat} {d : Int} (h0 : 0 ≤ d) (h1 : d < B) : inR B (l.set i d) := by
  intro x hx
  rcases List.mem_or_eq_of_mem_set hx with hx | hx
  · exact h x hx
  · exact hx ▸ ⟨h0, h1⟩
theorem inR_replicate (hB : 0 < B) (n : Nat) : inR B (List.replicate n 0) := by
  intro x hx
  rw [List.eq_of_mem_replicate hx]
  omega

theorem val_append (a b : List Int) : val B (a ++ b) = val B a + B ^ a.length * val B b := by
  induction a with
  | nil => simp [val]
  | cons x a ih =>
    simp only [List.cons_append, val, ih, List.length_cons, Int.pow_succ]
    grind
theorem val_snoc (a : List Int) (x : Int) : val B (a ++ [x]) = val B a + B ^ a.length * x := by rw [val_append]; simp [val]
theorem val_replicate (n : Nat) : val B (List.replicate n 0) = 0 := by
  induction n with
  | zero => rfl
  | succ n ih => simp [List.replicate_succ, val, ih]
theorem val_bd (hB : 0 < B) {l : List Int} (h : inR B l) : 0 ≤ val B l ∧ val B l < B ^ l.length := by
  induction l with
  | nil => simp [val]
  | cons x l ih =>
    obtain ⟨hx, hl⟩ := inR_cons.1 h
    obtain ⟨h0, h1⟩ := ih hl
    simp only [val, List.length_cons, Int.pow_succ]
    have h2 : 0 ≤ B * val B l := Int.mul_nonneg (by omega) h0
    have h3 : B * val B l ≤ B * (B ^ l.length - 1) := Int.mul_le_mul_of_nonneg_left (by omega) (by omega)
    rw [Int.mul_sub, Int.mul_one] at h3
    rw [Int.mul_comm (B ^ l.length) B]
    omega
theorem low_of (hB : 0 < B) {x v : Int} (h0 : 0 ≤ x) (h1 : x < B) : (x + B * v) % B = x ∧ (x + B * v) / B = v := by
  constructor
  · rw [Int.add_mul_emod_self_left, Int.emod_eq_of_lt h0 h1]
  · rw [Int.add_mul_ediv_left _ _ (by omega), Int.ediv_eq_zero_of_lt h0 h1, Int.zero_add]
theorem val_inj (hB : 0 < B) : ∀ {a b : List Int}, inR B a → inR B b → a.length = b.length → val B a = val B b → a = b
  | [], [], _, _, _, _ => rfl
  | [], _ :: _, _, _, h, _ => by simp at h
  | _ :: _, [], _, _, h, _ => by simp at h
  | x :: a, y :: b, ha, hb, hl, hv => by
    obtain ⟨hx, ha⟩ := inR_cons.1 ha
    obtain ⟨hy, hb⟩ := inR_cons.1 hb
    simp only [val] at hv
    have e1 := low_of hB (v := val B a) hx.1 hx.2
    have e2 := low_of hB (v := val B b) hy.1 hy.2
    rw [hv] at e1
    have hxy : x = y := e1.1.symm.trans e2.1
    have hab : val B a = val B b := e1.2.symm.trans e2.2
    rw [hxy, val_inj hB ha hb (by simpa using hl) hab]
theorem val_digit_app (hB : 0 < B) (X : Int) : ∀ {l : List Int}, inR B l → ∀ i, i < l.length → (val B l + B ^ l.length * X) / B ^ i % B = l.getD i 0
  | [], _, i, hi => by simp at hi
  | x :: l, h, i, hi => by
    obtain ⟨hx, hl⟩ := inR_cons.1 h
    have e : val B (x :: l) + B ^ (x :: l).length * X = x + B * (val B l + B ^ l.length * X) := by
      simp only [val, List.length_cons, Int.pow_succ]
      grind
    have e1 := low_of hB (v := val B l + B ^ l.length * X) hx.1 hx.2
    rw [e]
    cases i with
    | zero => simpa using e1.1
    | succ i =>
      have hi' : i < l.length := by simpa using hi
      rw [Int.pow_succ, Int.mul_comm (B ^ i) B, ← dd _ _ hB, e1.2, val_digit_app hB X hl i hi']
      simp
theorem val_digit (hB : 0 < B) {l : List Int} (h : inR B l) (i : Nat) : val B l / B ^ i % B = l.getD i 0 := by
  by_cases hi : i < l.length
  · have := val_digit_app hB 0 h i hi
    simpa using this
  · have hb := val_bd hB h
    have hp : B ^ l.length ≤ B ^ i := pow_le hB (by omega)
    rw [Int.ediv_eq_zero_of_lt hb.1 (by omega), List.getD_eq_getElem?_getD, List.getElem?_eq_none (by omega)]
    rfl
theorem val_set (l : List Int) (i : Nat) (d : Int) (hi : i < l.length) : val B (l.set i d) = val B l + (d - l.getD i 0) * B ^ i := by
  induction l generalizing i with
  | nil => simp at hi
  | cons x l ih =>
    cases i with
    | zero => simp [val]; omega
    | succ i =>
      have := ih i (by simpa using hi)
      simp only [List.set_cons_succ, val, this, List.getD_cons_succ, Int.pow_succ]
      grind
theorem take_snoc {l : List Int} {i : Nat} (hi : i < l.length) : l.take (i + 1) = l.take i ++ [l.getD i 0] := by
  rw [List.take_succ_eq_append_getElem hi, List.getD_eq_getElem?_getD, List.getElem?_eq_getElem hi]
  rfl
theorem drop_cons {l : List Int} {i : Nat} (hi : i < l.length) : l.drop i = l.getD i 0 :: l.drop (i + 1) := by
  rw [List.drop_eq_getElem_cons hi, List.getD_eq_getElem?_getD, List.getElem?_eq_getElem hi]
  rfl
end

theorem len_take {l : List Int} {i : Nat} (h : i < l.length) : (l.take i).length = i := by rw [List.length_take]; omega
theorem rd_nat (l : List Int) (i : Nat) : rd l (i : Int) = l.getD i 0 := by simp [rd]
theorem list_ext {a b : List Int} (hl : a.length = b.length) (h : ∀ i, i < a.length → a.getD i 0 = b.getD i 0) : a = b := by
  apply List.ext_getElem hl
  intro i h1 h2
  have := h i h1
  rwa [List.getD_eq_getElem?_getD, List.getD_eq_getElem?_getD, List.getElem?_eq_getElem h1, List.getElem?_eq_getElem h2] at this

theorem w64_succ {i : Nat} {m : Nat} (h : i < m) (hm : m ≤ 9000000000000000000) : wrap64 ((i : Int) + 1) = ((i + 1 : Nat) : Int) := by
  rw [w64 (by omega) (by omega)]
  omega
theorem pow_pos' (n : Nat) : (0 : Int) < 2 ^ n := Int.pow_pos (by decide)
theorem wraps_i64 (n : Int) (h₀ : 0 ≤ n) (h₁ : n < 2 ^ 63) : IntKind.i64.wrap n = n := by rw [IntKind.wrap_i64]; omega
theorem shl64 {x : Int} {n : Nat} (h0 : 0 ≤ x) (hn : n ≤ 64) (h1 : x * 2 ^ n < 9223372036854775808) : shl .i64 x (n : Int) = x * 2 ^ n := by
  have hp := pow_pos' n
  have : 0 ≤ x * 2 ^ n := Int.mul_nonneg h0 (by omega)
  unfold shl
  rw [show min (Int.toNat (n : Int)) (IntKind.bits .i64) = n by simp [IntKind.bits]; omega, wraps_i64 _ this (by omega)]
theorem shr64 {x : Int} {n : Nat} (hn : n ≤ 64) : shr .i64 x (n : Int) = x / 2 ^ n := by
  unfold shr
  rw [show min (Int.toNat (n : Int)) (IntKind.bits .i64) = n by simp [IntKind.bits]; omega]
/-- A low part and a high one, joined by 'or', are their sum. -/
theorem or64 {x y : Int} (n : Nat) (hx0 : 0 ≤ x) (hx : x < 2 ^ n) (hy0 : 0 ≤ y) (hy : y % 2 ^ n = 0) (h1 : x < 9223372036854775808) (h2 : y < 9223372036854775808) : Go.bits .or .i64 x y = x + y := by
  have h := bits_join .i64 63 (by decide) wraps_i64 n y x hy0 hy (by omega) hx0 hx (by omega)
  obtain ⟨a, rfl⟩ := Int.eq_ofNat_of_zero_le hx0
  obtain ⟨b, rfl⟩ := Int.eq_ofNat_of_zero_le hy0
  have ha : a < 2 ^ 63 := by omega
  have hb : b < 2 ^ 63 := by omega
  rw [(bits_nat .i64 63 (by decide) wraps_i64 b a hb ha).2] at h
  rw [(bits_nat .i64 63 (by decide) wraps_i64 a b ha hb).2, Nat.or_comm, h, Int.add_comm]
theorem oru8 {x y : Int} (n : Nat) (hx0 : 0 ≤ x) (hx : x < 2 ^ n) (hy0 : 0 ≤ y) (hy : y % 2 ^ n = 0) (h1 : x < 256) (h2 : y < 256) : Go.bits .or .u8 x y = x + y := by
  have h := bits_join .u8 8 (by decide) wraps_u8 n y x hy0 hy (by omega) hx0 hx (by omega)
  obtain ⟨a, rfl⟩ := Int.eq_ofNat_of_zero_le hx0
  obtain ⟨b, rfl⟩ := Int.eq_ofNat_of_zero_le hy0
  have ha : a < 2 ^ 8 := by omega
  have hb : b < 2 ^ 8 := by omega
  rw [(bits_nat .u8 8 (by decide) wraps_u8 b a hb ha).2] at h
  rw [(bits_nat .u8 8 (by decide) wraps_u8 a b ha hb).2, Nat.or_comm, h, Int.add_comm]
theorem mask64 {x : Int} {n : Nat} (hn : n ≤ 62) (h0 : 0 ≤ x) (h1 : x < 9223372036854775808) : Go.bits .and .i64 x (wrap64 (shl .i64 1 (n : Int) - 1)) = x % 2 ^ n := by
  have hp := pow_pos' n
  have hq : (2 : Int) ^ n ≤ 2 ^ 62 := pow_le (by decide) hn
  rw [shl64 (by decide) (by omega) (by omega), Int.one_mul, w64 (by omega) (by omega)]
  exact bits_mask .i64 63 (by decide) wraps_i64 n (by omega) x h0 (by omega)
theorem pow_split {n i : Nat} (h : i ≤ n) : (2 : Int) ^ n = 2 ^ i * 2 ^ (n - i) := by rw [← Int.pow_add]; congr 1; omega
theorem p256 (n : Nat) : (256 : Int) ^ n = 2 ^ (8 * n) := by rw [Int.pow_mul]; rfl
/-- One bit more from below. -/
theorem bit_more (W : Int) (j : Nat) : 2 * (W / 2 % 2 ^ j) + W % 2 = W % 2 ^ (j + 1) := by
  have hp := pow_pos' j
  have h1 := Int.emod_add_mul_ediv W 2
  have h2 := Int.emod_add_mul_ediv (W / 2) (2 ^ j)
  have h3 := Int.emod_nonneg (W / 2) (b := 2 ^ j) (by omega)
  have h4 := Int.emod_lt_of_pos (W / 2) hp
  have e : W = (2 * (W / 2 % 2 ^ j) + W % 2) + 2 ^ (j + 1) * (W / 2 / 2 ^ j) := by
    rw [Int.pow_succ]
    grind
  generalize hs : 2 * (W / 2 % 2 ^ j) + W % 2 = s at *
  have hs0 : 0 ≤ s := by omega
  have hs1 : s < 2 ^ (j + 1) := by rw [Int.pow_succ]; omega
  rw [e]
  rw [Int.add_mul_emod_self_left, Int.emod_eq_of_lt hs0 hs1]

end Go.Proofs.Ytbkbdnlolfaneaa.MVal
