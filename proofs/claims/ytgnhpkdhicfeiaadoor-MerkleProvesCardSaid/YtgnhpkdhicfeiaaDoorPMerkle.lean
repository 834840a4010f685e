/- A tree of hashes over a list, in plain words: roots, paths, bridges, rows of whole blocks. No program in sight. -/
import Derived.Test.YtgnhpkdhicfeiaaDoorPSha
namespace Go.Proofs.YtgnhpkdhicfeiaaDoor.PMerkle
open Go.Proofs.YtgnhpkdhicfeiaaDoor.PSha
set_option linter.unusedVariables false
set_option linter.unusedSimpArgs false
set_option linter.unusedVariables false
def leafS (d : List Int) : List Int := sumS KS (0 :: d)
def nodeS (l r : List Int) : List Int := sumS KS (1 :: (l ++ r))
/-- The greatest power of 2 below n (n at least 2). -/
def cutN (n : Nat) : Nat := 2 ^ Nat.log2 (n - 1)
theorem log2_le {n k : Nat} (h : 2 ^ k ≤ n) : k ≤ Nat.log2 n := by
  have h0 : n ≠ 0 := by have := Nat.two_pow_pos k; omega
  exact (Nat.le_log2 h0).2 h
theorem log2_eq {n k : Nat} (h1 : 2 ^ k ≤ n) (h2 : n < 2 ^ (k + 1)) : Nat.log2 n = k := by
  have h0 : n ≠ 0 := by have := Nat.two_pow_pos k; omega
  have h3 := (Nat.le_log2 h0).2 h1
  have h4 := (Nat.log2_lt h0).2 h2
  omega
theorem cutN_bd {n : Nat} (h : 2 ≤ n) : 1 ≤ cutN n ∧ cutN n < n ∧ n ≤ 2 * cutN n := by
  have h0 : n - 1 ≠ 0 := by omega
  have h1 : 2 ^ Nat.log2 (n - 1) ≤ n - 1 := Nat.log2_self_le h0
  have h2 : n - 1 < 2 ^ (Nat.log2 (n - 1) + 1) := Nat.lt_log2_self
  have h3 := Nat.two_pow_pos (Nat.log2 (n - 1))
  rw [Nat.pow_succ] at h2
  unfold cutN
  omega
theorem cutN_pow (z : Nat) : cutN (2 ^ (z + 1)) = 2 ^ z := by
  unfold cutN
  congr 1
  have := Nat.two_pow_pos z
  exact log2_eq (by rw [Nat.pow_succ]; omega) (by omega)
theorem cutN_of {n k : Nat} (h1 : 2 ^ k < n) (h2 : n ≤ 2 * 2 ^ k) : cutN n = 2 ^ k := by
  unfold cutN
  congr 1
  exact log2_eq (by omega) (by rw [Nat.pow_succ]; omega)
/-- The root of a list of hashes. -/
def rootL : List (List Int) → List Int
  | [] => sumS KS []
  | [x] => x
  | x :: y :: l => nodeS (rootL ((x :: y :: l).take (cutN (l.length + 2)))) (rootL ((x :: y :: l).drop (cutN (l.length + 2))))
termination_by l => l.length
decreasing_by
  · have := cutN_bd (n := l.length + 2) (by omega)
    simp only [List.length_take, List.length_cons]
    omega
  · have := cutN_bd (n := l.length + 2) (by omega)
    simp only [List.length_drop, List.length_cons]
    omega
theorem rootL_0 : rootL [] = sumS KS [] := by rw [rootL]
theorem rootL_1 (x : List Int) : rootL [x] = x := by rw [rootL]
theorem rootL_2 {l : List (List Int)} (h : 2 ≤ l.length) : rootL l = nodeS (rootL (l.take (cutN l.length))) (rootL (l.drop (cutN l.length))) := by
  match l, h with
  | x :: y :: l, _ => rw [rootL]; rfl
theorem rootL_len {l : List (List Int)} (h : ∀ x ∈ l, x.length = 32) : (rootL l).length = 32 := by
  match l with
  | [] => rw [rootL_0]; rfl
  | [x] => rw [rootL_1]; exact h x (by simp)
  | x :: y :: l => rw [rootL_2 (by simp)]; rfl
def pathL (m : Nat) (l : List (List Int)) : List (List Int) :=
  if h : l.length ≤ 1 then []
  else if m < cutN l.length then pathL m (l.take (cutN l.length)) ++ [rootL (l.drop (cutN l.length))]
  else pathL (m - cutN l.length) (l.drop (cutN l.length)) ++ [rootL (l.take (cutN l.length))]
termination_by l.length
decreasing_by
  · have := cutN_bd (n := l.length) (by omega)
    simp only [List.length_take]
    omega
  · have := cutN_bd (n := l.length) (by omega)
    simp only [List.length_drop]
    omega
def bridgeL (m : Nat) (l : List (List Int)) (same : Bool) : List (List Int) :=
  if m = l.length then (if same then [] else [rootL l])
  else if h : l.length ≤ 1 then []
  else if m ≤ cutN l.length then bridgeL m (l.take (cutN l.length)) same ++ [rootL (l.drop (cutN l.length))]
  else bridgeL (m - cutN l.length) (l.drop (cutN l.length)) false ++ [rootL (l.take (cutN l.length))]
termination_by l.length
decreasing_by
  · have := cutN_bd (n := l.length) (by omega)
    simp only [List.length_take]
    omega
  · have := cutN_bd (n := l.length) (by omega)
    simp only [List.length_drop]
    omega
/-- The list from one place up to another. -/
def segL (l : List (List Int)) (f t : Nat) : List (List Int) := (l.drop f).take (t - f)
theorem segL_len {l : List (List Int)} {f t : Nat} (h1 : f ≤ t) (h2 : t ≤ l.length) : (segL l f t).length = t - f := by
  simp only [segL, List.length_take, List.length_drop]
  omega
theorem segL_take {l : List (List Int)} {f t k : Nat} (h : f + k ≤ t) : (segL l f t).take k = segL l f (f + k) := by
  simp only [segL, List.take_take]
  congr 1
  omega
theorem segL_drop {l : List (List Int)} {f t k : Nat} (h : f + k ≤ t) : (segL l f t).drop k = segL l (f + k) t := by
  simp only [segL, List.drop_take, List.drop_drop]
  congr 1
  omega
theorem segL_all (l : List (List Int)) (n : Nat) : segL l 0 n = l.take n := by simp [segL]
/-- The j-th whole block of 2 ^ z hashes: its root. -/
def blkL (l : List (List Int)) (z j : Nat) : List Int := rootL (segL l (j * 2 ^ z) ((j + 1) * 2 ^ z))
/-- A tree's row. -/
def rowL (l : List (List Int)) (z : Nat) : List (List Int) := (List.range (l.length / 2 ^ z)).map (blkL l z)
theorem rowL_len (l : List (List Int)) (z : Nat) : (rowL l z).length = l.length / 2 ^ z := by simp [rowL]
theorem rowL_get {l : List (List Int)} {z j : Nat} (h : j < l.length / 2 ^ z) : (rowL l z)[j]? = some (blkL l z j) := by
  rw [rowL, List.getElem?_map, List.getElem?_range h]; rfl
theorem blk_fits {n z j : Nat} (h : j < n / 2 ^ z) : (j + 1) * 2 ^ z ≤ n := by
  have h1 : (j + 1) * 2 ^ z ≤ n / 2 ^ z * 2 ^ z := Nat.mul_le_mul_right _ h
  have h2 := Nat.div_mul_le_self n (2 ^ z)
  omega
theorem blkL_0 {l : List (List Int)} {j : Nat} {x : List Int} (h : l[j]? = some x) : blkL l 0 j = x := by
  have : segL l (j * 2 ^ 0) ((j + 1) * 2 ^ 0) = [x] := by
    obtain ⟨h1, h2⟩ := List.getElem?_eq_some_iff.1 h
    simp only [segL, Nat.pow_zero, Nat.mul_one, Nat.add_sub_cancel_left]
    rw [List.drop_eq_getElem_cons h1, h2]
    rfl
  rw [blkL, this, rootL_1]
theorem blkL_succ {l : List (List Int)} {z j : Nat} (h : (j + 1) * 2 ^ (z + 1) ≤ l.length) : blkL l (z + 1) j = nodeS (blkL l z (2 * j)) (blkL l z (2 * j + 1)) := by
  have hp := Nat.two_pow_pos z
  have e1 : j * 2 ^ (z + 1) = 2 * j * 2 ^ z := by rw [Nat.pow_succ]; rw [Nat.mul_comm (2 ^ z) 2, ← Nat.mul_assoc, Nat.mul_comm j 2]
  have e2 : (j + 1) * 2 ^ (z + 1) = 2 * j * 2 ^ z + 2 ^ (z + 1) := by rw [Nat.add_mul, e1, Nat.one_mul]
  have e3 : (2 * j + 1) * 2 ^ z = 2 * j * 2 ^ z + 2 ^ z := by rw [Nat.add_mul, Nat.one_mul]
  have e4 : (2 * j + 1 + 1) * 2 ^ z = 2 * j * 2 ^ z + 2 ^ (z + 1) := by rw [Nat.add_mul, e3, Nat.one_mul, Nat.pow_succ]; omega
  have e5 : 2 ^ (z + 1) = 2 ^ z + 2 ^ z := by rw [Nat.pow_succ]; omega
  unfold blkL
  rw [e1, e2, e3, e4]
  rw [e2] at h
  obtain ⟨f, hf⟩ : ∃ f, f = 2 * j * 2 ^ z := ⟨_, rfl⟩
  rw [← hf] at h ⊢
  have hl : (segL l f (f + 2 ^ (z + 1))).length = 2 ^ (z + 1) := by rw [segL_len (by omega) h]; omega
  rw [rootL_2 (by rw [hl, e5]; omega), hl, cutN_pow, segL_take (by omega), segL_drop (by omega)]
theorem blkL_app {l : List (List Int)} {z j : Nat} (x : List Int) (h : (j + 1) * 2 ^ z ≤ l.length) : blkL (l ++ [x]) z j = blkL l z j := by
  have e : (j + 1) * 2 ^ z = j * 2 ^ z + 2 ^ z := by rw [Nat.add_mul, Nat.one_mul]
  unfold blkL segL
  congr 1
  rw [e] at h ⊢
  clear e
  have hp := Nat.two_pow_pos z
  generalize j * 2 ^ z = f at h ⊢
  rw [List.drop_append_of_le_length (by omega), List.take_append_of_le_length (by simp only [List.length_drop]; omega)]
end Go.Proofs.YtgnhpkdhicfeiaaDoor.PMerkle
