/- The ring's transforms as plain functions on lists; no program in sight. -/
import Derived.Laws.Entries
namespace Go.Proofs.Ytoednaebdfohbaa.PRing
open Go
set_option linter.unusedVariables false
set_option linter.unusedSimpArgs false
theorem ext256 {a b : List Int} (ha : a.length = 256) (hb : b.length = 256) (h : ∀ j, j < 256 → a.getD j 0 = b.getD j 0) : a = b := by
  refine List.ext_getElem (by rw [ha, hb]) (fun j h1 h2 => ?_)
  have := h j (by omega)
  rw [List.getD_eq_getElem?_getD, List.getD_eq_getElem?_getD, List.getElem?_eq_getElem h1, List.getElem?_eq_getElem h2] at this
  exact this
theorem getD_set (a : List Int) (i j : Nat) (x : Int) (hi : i < a.length) : (a.set i x).getD j 0 = if j = i then x else a.getD j 0 := by
  rw [List.getD_eq_getElem?_getD, List.getD_eq_getElem?_getD, List.getElem?_set]
  by_cases h : i = j
  · subst h; simp [hi]
  · rw [if_neg h, if_neg (fun e => h e.symm)]
/-- A list of 256 numbers. -/
def mk (f : Nat → Int) : List Int := (List.range 256).map f
theorem mk_len (f : Nat → Int) : (mk f).length = 256 := by rw [mk, List.length_map, List.length_range]
theorem mk_get (f : Nat → Int) (i : Nat) (h : i < 256) : (mk f).getD i 0 = f i := by
  rw [mk, List.getD_eq_getElem?_getD, List.getElem?_map, List.getElem?_range h]
  rfl
theorem mk_congr {f g : Nat → Int} (h : ∀ i, i < 256 → f i = g i) : mk f = mk g := ext256 (mk_len f) (mk_len g) fun i hi => by rw [mk_get f i hi, mk_get g i hi, h i hi]
theorem mk_self {l : List Int} (h : l.length = 256) : mk (fun i => l.getD i 0) = l := ext256 (mk_len _) h fun i hi => mk_get _ i hi
/-- Numbers of the ring. -/
def Ok (l : List Int) : Prop := l.length = 256 ∧ ∀ i, i < 256 → 0 ≤ l.getD i 0 ∧ l.getD i 0 < 8380417
def brv (k : Nat) : Nat := (List.range 8).foldl (fun r i => 2 * r + k / 2 ^ i % 2) 0
/-- The points' powers, in the order of their bits turned round. -/
def ZS : List Int := mk fun k => ((1753 ^ brv k % 8380417 : Nat) : Int)
theorem zs_len : ZS.length = 256 := mk_len _
def hf (s : Nat) : Nat := 2 ^ s / 2
def kf (s : Nat) : Nat := 2 ^ (8 - s) - 1
def L8 : List Nat := [1, 2, 4, 8, 16, 32, 64, 128]
theorem hf_facts : ∀ s, s < 9 → (s = 0 → hf s = 0) ∧ (s ≠ 0 → hf s ∈ L8 ∧ hf s / 2 = hf (s - 1) ∧ kf s + 128 / hf s = kf (s - 1) ∧ kf s + 1 = 128 / hf s ∧ kf s + 128 / hf s ≤ 255 ∧ 0 < hf s ∧ hf s ≤ 128) := by decide
theorem hb_facts : ∀ s, s < 9 → (s = 0 → hf (9 - s) = 256) ∧ (s ≠ 0 → hf (9 - s) ∈ L8 ∧ hf (9 - s) * 2 = hf (9 - (s - 1)) ∧ 256 / hf (9 - s) = 2 ^ s ∧ 2 ^ s = 128 / hf (9 - s) + 128 / hf (9 - s) ∧ 2 ^ (s - 1) = 128 / hf (9 - s) ∧ 2 ^ s ≤ 256 ∧ 0 < hf (9 - s) ∧ hf (9 - s) ≤ 128) := by decide
/-- One stage: pairs at distance H. -/
def stg (u v : Int → Int → Int → Int) (zi : Nat → Nat → Nat) (H : Nat) (l : List Int) (i : Nat) : Int :=
  if i / H % 2 = 0 then u (ZS.getD (zi H (i / (2 * H))) 0) (l.getD i 0) (l.getD (i + H) 0) else v (ZS.getD (zi H (i / (2 * H))) 0) (l.getD (i - H) 0) (l.getD i 0)
/-- A stage under way: m whole blocks are done, and j pairs of the next. -/
def stP (u v : Int → Int → Int → Int) (zi : Nat → Nat → Nat) (H : Nat) (l : List Int) (m j : Nat) : List Int := mk fun i => if i / (2 * H) < m ∨ (i / (2 * H) = m ∧ i % H < j) then stg u v zi H l i else l.getD i 0
theorem idx {H : Nat} (hH : H ∈ L8) {m j : Nat} (hj : j < H) (hm : 2 * H * m < 256) : 2 * H * m + 2 * H ≤ 256 ∧ m < 128 / H ∧ (2 * H * m + j) / (2 * H) = m ∧ (2 * H * m + j) % H = j ∧ (2 * H * m + j) / H % 2 = 0 ∧ (2 * H * m + j + H) / (2 * H) = m ∧ (2 * H * m + j + H) % H = j ∧ (2 * H * m + j + H) / H % 2 = 1 := by
  simp only [L8, List.mem_cons, List.not_mem_nil, or_false] at hH
  rcases hH with rfl | rfl | rfl | rfl | rfl | rfl | rfl | rfl <;> omega
theorem idx2 {H : Nat} (hH : H ∈ L8) {m j i : Nat} (h1 : i / (2 * H) = m) (h2 : i % H = j) : i = 2 * H * m + j ∨ i = 2 * H * m + j + H := by
  simp only [L8, List.mem_cons, List.not_mem_nil, or_false] at hH
  rcases hH with rfl | rfl | rfl | rfl | rfl | rfl | rfl | rfl <;> omega
theorem idx3 {H : Nat} (hH : H ∈ L8) {m i : Nat} (hm : 256 ≤ 2 * H * m) (hi : i < 256) : i / (2 * H) < m := by
  simp only [L8, List.mem_cons, List.not_mem_nil, or_false] at hH
  rcases hH with rfl | rfl | rfl | rfl | rfl | rfl | rfl | rfl <;> omega
theorem idx4 {H : Nat} (hH : H ∈ L8) (i : Nat) : i % H < H ∧ (i < 256 → i / H % 2 = 0 → i + H < 256) ∧ (i < 256 → i / H % 2 ≠ 0 → i - H < 256 ∧ H ≤ i) ∧ (i < 256 → i / (2 * H) < 128 / H) ∧ 2 * H * (128 / H) = 256 := by
  simp only [L8, List.mem_cons, List.not_mem_nil, or_false] at hH
  rcases hH with rfl | rfl | rfl | rfl | rfl | rfl | rfl | rfl <;> omega
theorem idx5 {H : Nat} (hH : H ∈ L8) {m : Nat} (hm : 2 * H * m = 256) : m = 128 / H := by
  simp only [L8, List.mem_cons, List.not_mem_nil, or_false] at hH
  rcases hH with rfl | rfl | rfl | rfl | rfl | rfl | rfl | rfl <;> omega
section
variable {u v : Int → Int → Int → Int} {zi : Nat → Nat → Nat} {H : Nat} {l : List Int}
theorem stP_len {m j : Nat} : (stP u v zi H l m j).length = 256 := mk_len _
theorem stP_0 (hl : l.length = 256) : stP u v zi H l 0 0 = l := ext256 stP_len hl fun i hi => by
  rw [stP, mk_get _ _ hi, if_neg (by rintro (h | ⟨_, h⟩) <;> exact absurd h (Nat.not_lt_zero _))]
theorem stP_next (hH : H ∈ L8) (m : Nat) : stP u v zi H l m H = stP u v zi H l (m + 1) 0 := mk_congr fun i hi => by
  have := (idx4 hH i).1
  by_cases h : i / (2 * H) < m + 1
  · rw [if_pos (by omega), if_pos (by omega)]
  · rw [if_neg (by omega), if_neg (by omega)]
theorem stP_end (hH : H ∈ L8) {m : Nat} (hm : 256 ≤ 2 * H * m) : stP u v zi H l m 0 = mk (stg u v zi H l) := mk_congr fun i hi => if_pos (.inl (idx3 hH hm hi))
theorem stP_rd (hH : H ∈ L8) {m j : Nat} (hj : j < H) (hm : 2 * H * m < 256) : (stP u v zi H l m j).getD (2 * H * m + j) 0 = l.getD (2 * H * m + j) 0 ∧ (stP u v zi H l m j).getD (2 * H * m + j + H) 0 = l.getD (2 * H * m + j + H) 0 := by
  obtain ⟨h0, _, h1, h2, h3, h4, h5, h6⟩ := idx hH hj hm
  rw [stP, mk_get _ _ (by omega), mk_get _ _ (by omega), h1, h2, h4, h5]
  exact ⟨if_neg (by omega), if_neg (by omega)⟩
theorem stP_set (hH : H ∈ L8) {m j : Nat} (hj : j < H) (hm : 2 * H * m < 256) :
    ((stP u v zi H l m j).set (2 * H * m + j) (u (ZS.getD (zi H m) 0) (l.getD (2 * H * m + j) 0) (l.getD (2 * H * m + j + H) 0))).set (2 * H * m + j + H) (v (ZS.getD (zi H m) 0) (l.getD (2 * H * m + j) 0) (l.getD (2 * H * m + j + H) 0)) = stP u v zi H l m (j + 1) := by
  obtain ⟨h0, _, h1, h2, h3, h4, h5, h6⟩ := idx hH hj hm
  refine ext256 (by rw [List.length_set, List.length_set, stP_len]) stP_len fun i hi => ?_
  rw [getD_set _ _ _ _ (by rw [List.length_set, stP_len]; omega), getD_set _ _ _ _ (by rw [stP_len]; omega)]
  by_cases e2 : i = 2 * H * m + j + H
  · rw [if_pos e2, stP, mk_get _ _ hi, e2, h4, h5, if_pos (by omega), stg, h6, if_neg (by decide), h4, Nat.add_sub_cancel]
  rw [if_neg e2]
  by_cases e1 : i = 2 * H * m + j
  · rw [if_pos e1, stP, mk_get _ _ hi, e1, h1, h2, if_pos (by omega), stg, h3, if_pos rfl, h1]
  rw [if_neg e1, stP, stP, mk_get _ _ hi, mk_get _ _ hi]
  by_cases hd : i / (2 * H) < m ∨ (i / (2 * H) = m ∧ i % H < j)
  · rw [if_pos hd, if_pos (by omega)]
  · rw [if_neg hd, if_neg]
    rintro (h | ⟨h, h'⟩)
    · omega
    · have := idx2 hH h (show i % H = j by omega)
      omega
end
def tu (z x y : Int) : Int := (x + z * y % 8380417) % 8380417
def tv (z x y : Int) : Int := (x - z * y % 8380417 + 8380417) % 8380417
def tz (H m : Nat) : Nat := 128 / H + m
def bu (z x y : Int) : Int := (x + y) % 8380417
def bv (z x y : Int) : Int := z * (y - x + 8380417) % 8380417
def bz (H m : Nat) : Nat := 256 / H - 1 - m
def SL (H : Nat) (l : List Int) : List Int := mk (stg tu tv tz H l)
def BL (H : Nat) (l : List Int) : List Int := mk (stg bu bv bz H l)
def thrF : Nat → List Int → List Int
  | 0, l => l
  | s + 1, l => thrF s (SL (hf (s + 1)) l)
def bckF : Nat → List Int → List Int
  | 0, l => l
  | s + 1, l => bckF s (BL (hf (9 - (s + 1))) l)
def scl (c : Int) (l : List Int) : List Int := mk fun i => l.getD i 0 * c % 8380417
def thr (l : List Int) : List Int := thrF 8 l
def bck (l : List Int) : List Int := scl 8347681 (bckF 8 l)
/-- Scaled as far as i. -/
def scP (c : Int) (l : List Int) (i : Nat) : List Int := mk fun j => if j < i then l.getD j 0 * c % 8380417 else l.getD j 0
theorem scP_len {c : Int} {l : List Int} {i : Nat} : (scP c l i).length = 256 := mk_len _
theorem scP_0 {c : Int} {l : List Int} (hl : l.length = 256) : scP c l 0 = l := ext256 scP_len hl fun i hi => by rw [scP, mk_get _ _ hi, if_neg (by omega)]
theorem scP_rd {c : Int} {l : List Int} {i : Nat} (hi : i < 256) : (scP c l i).getD i 0 = l.getD i 0 := by rw [scP, mk_get _ _ hi, if_neg (by omega)]
theorem scP_set {c : Int} {l : List Int} {i : Nat} (hi : i < 256) : (scP c l i).set i (l.getD i 0 * c % 8380417) = scP c l (i + 1) := ext256 (by rw [List.length_set, scP_len]) scP_len fun j hj => by
  rw [getD_set _ _ _ _ (by rw [scP_len]; exact hi), scP, scP, mk_get _ _ hj, mk_get _ _ hj]
  by_cases h : j = i
  · subst h; rw [if_pos rfl, if_pos (by omega)]
  · rw [if_neg h]
    by_cases h2 : j < i
    · rw [if_pos h2, if_pos (by omega)]
    · rw [if_neg h2, if_neg (by omega)]
theorem scP_256 {c : Int} {l : List Int} : scP c l 256 = scl c l := mk_congr fun i hi => if_pos hi
theorem mod_ok {f : Nat → Int} (h : ∀ i, i < 256 → ∃ x, f i = x % 8380417) : Ok (mk f) := ⟨mk_len f, fun i hi => by
  rw [mk_get f i hi]
  obtain ⟨x, e⟩ := h i hi
  rw [e]
  exact ⟨Int.emod_nonneg _ (by decide), Int.emod_lt_of_pos _ (by decide)⟩⟩
theorem SL_ok (H : Nat) (l : List Int) : Ok (SL H l) := mod_ok fun i hi => by
  unfold stg tu tv
  split
  · exact ⟨_, rfl⟩
  · exact ⟨_, rfl⟩
theorem BL_ok (H : Nat) (l : List Int) : Ok (BL H l) := mod_ok fun i hi => by
  unfold stg bu bv
  split
  · exact ⟨_, rfl⟩
  · exact ⟨_, rfl⟩
theorem scl_ok (c : Int) (l : List Int) : Ok (scl c l) := mod_ok fun i hi => ⟨_, rfl⟩
theorem thrF_ok : ∀ (s : Nat) {l : List Int}, Ok l → Ok (thrF s l)
  | 0, _, h => h
  | s + 1, _, _ => thrF_ok s (SL_ok _ _)
theorem thr_ok {l : List Int} (h : Ok l) : Ok (thr l) := thrF_ok 8 h
theorem bck_ok (l : List Int) : Ok (bck l) := scl_ok _ _
end Go.Proofs.Ytoednaebdfohbaa.PRing
