/- SHA-256 as plain functions on lists; no program in sight. -/
import Derived.Laws.Entries
namespace Go.Proofs.YtgnhpkdhicfeiaaDoor.PSha
open Go
set_option linter.unusedVariables false
set_option linter.unusedSimpArgs false

def wd (l : List Int) (i : Nat) : Int := bits .or .u32 (bits .or .u32 (bits .or .u32 (l.getD (4 * i) 0 % 4294967296 * 16777216 % 4294967296) (l.getD (4 * i + 1) 0 % 4294967296 * 65536 % 4294967296)) (l.getD (4 * i + 2) 0 % 4294967296 * 256 % 4294967296)) (l.getD (4 * i + 3) 0 % 4294967296)
def rotl (s : Nat) (x : Int) : Int := bits .or .u32 (x * 2 ^ s % 4294967296) (x / 2 ^ (32 - s))
def sg0 (x : Int) : Int := bits .xor .u32 (bits .xor .u32 (rotl 25 x) (rotl 14 x)) (x / 8)
def sg1 (x : Int) : Int := bits .xor .u32 (bits .xor .u32 (rotl 15 x) (rotl 13 x)) (x / 1024)
/-- The next number of the schedule. -/
def nx (l : List Int) (xs : List Int) (t : Nat) : Int :=
  if t < 16 then wd l t else (((sg1 (xs.getD (t - 2) 0) + xs.getD (t - 7) 0) % 4294967296 + sg0 (xs.getD (t - 15) 0)) % 4294967296 + xs.getD (t - 16) 0) % 4294967296
def sch (l : List Int) : Nat → List Int
  | 0 => []
  | t + 1 => sch l t ++ [nx l (sch l t) t]
theorem sch_len (l : List Int) (t : Nat) : (sch l t).length = t := by induction t with
  | zero => rfl
  | succ t ih => simp [sch, ih]
/-- The schedule's array behind t numbers. -/
def row (l : List Int) (t : Nat) : List Int := sch l t ++ List.replicate (64 - t) 0
theorem row_len (l : List Int) (t : Nat) (ht : t ≤ 64) : (row l t).length = 64 := by simp [row, sch_len]; omega
theorem row_set (l : List Int) (t : Nat) (ht : t < 64) : (row l t).set t (nx l (sch l t) t) = row l (t + 1) := by
  unfold row
  obtain ⟨m, hm⟩ : ∃ m, 64 - t = m + 1 := ⟨63 - t, by omega⟩
  rw [hm, show 64 - (t + 1) = m by omega, List.replicate_succ, sch, List.set_append_right _ _ (by simp [sch_len])]
  simp [sch_len]
theorem row_get (l : List Int) (t j : Nat) (hj : j < t) : (row l t).getD j 0 = (sch l t).getD j 0 := by
  unfold row
  rw [List.getD_eq_getElem?_getD, List.getElem?_append_left (by rw [sch_len]; exact hj), ← List.getD_eq_getElem?_getD]
/-- The state's eight numbers. -/
structure S8 where
  a : Int
  b : Int
  c : Int
  d : Int
  e : Int
  f : Int
  g : Int
  h : Int
/-- Not, bit by bit. -/
def notw (m : Int) : Int := bits .xor .u32 (if IntKind.u32.signed then -1 else IntKind.u32.max) m
def t1 (k w : Int) (s : S8) : Int :=
  ((((s.h + bits .xor .u32 (bits .xor .u32 (rotl 26 s.e) (rotl 21 s.e)) (rotl 7 s.e)) % 4294967296 + bits .xor .u32 (bits .and .u32 s.e s.f) (bits .and .u32 (notw s.e) s.g)) % 4294967296 + k) % 4294967296 + w) % 4294967296
def t2 (s : S8) : Int :=
  (bits .xor .u32 (bits .xor .u32 (rotl 30 s.a) (rotl 19 s.a)) (rotl 10 s.a) + bits .xor .u32 (bits .xor .u32 (bits .and .u32 s.a s.b) (bits .and .u32 s.a s.c)) (bits .and .u32 s.b s.c)) % 4294967296
def rnd (k w : Int) (s : S8) : S8 := ⟨(t1 k w s + t2 s) % 4294967296, s.a, s.b, s.c, (s.d + t1 k w s) % 4294967296, s.e, s.f, s.g⟩
def S8.words (s : S8) : List Int := [s.a, s.b, s.c, s.d, s.e, s.f, s.g, s.h]
/-- The state behind a block. -/
def S8.add (s q : S8) : S8 := ⟨(s.a + q.a) % 4294967296, (s.b + q.b) % 4294967296, (s.c + q.c) % 4294967296, (s.d + q.d) % 4294967296, (s.e + q.e) % 4294967296, (s.f + q.f) % 4294967296, (s.g + q.g) % 4294967296, (s.h + q.h) % 4294967296⟩
/-- The first i numbers have another's added. -/
def mix (s q : S8) (i : Nat) : List Int := (s.add q).words.take i ++ s.words.drop i
theorem mix0 (s q : S8) : mix s q 0 = s.words := rfl
theorem mix8 (s q : S8) : mix s q 8 = (s.add q).words := rfl
theorem mix_len (s q : S8) (i : Nat) (hi : i ≤ 8) : (mix s q i).length = 8 := by simp [mix, S8.words]; omega
theorem mix_set (s q : S8) (i : Nat) (hi : i < 8) : (mix s q i).set i (((mix s q i).getD i 0 + q.words.getD i 0) % 4294967296) = mix s q (i + 1) := by
  have : i = 0 ∨ i = 1 ∨ i = 2 ∨ i = 3 ∨ i = 4 ∨ i = 5 ∨ i = 6 ∨ i = 7 := by omega
  rcases this with rfl | rfl | rfl | rfl | rfl | rfl | rfl | rfl <;> rfl
def rnds (K W : List Int) (s : S8) : Nat → S8
  | 0 => s
  | t + 1 => rnd (K.getD t 0) (W.getD t 0) (rnds K W s t)
def start8 : S8 := ⟨1779033703, 3144134277, 1013904242, 2773480762, 1359893119, 2600822924, 528734635, 1541459225⟩
/-- The state behind i blocks of a message. -/
def stN (K m : List Int) : Nat → S8
  | 0 => start8
  | i + 1 => (stN K m i).add (rnds K (sch (m.drop (64 * i)) 64) (stN K m i) 64)
theorem row64 (l : List Int) : row l 64 = sch l 64 := by simp [row]
theorem wd_drop (l : List Int) (t : Nat) : wd (l.drop (4 * t)) 0 = wd l t := by
  simp only [wd, List.getD_eq_getElem?_getD, List.getElem?_drop, Nat.mul_zero, Nat.zero_add, Nat.add_zero]
theorem row_next (l : List Int) (t : Nat) (ht : t < 16) : (row l t).set t (wd l t) = row l (t + 1) := by
  rw [← row_set l t (by omega)]
  simp only [nx, if_pos ht]
theorem row_next2 (l : List Int) (t : Nat) (ht : ¬ t < 16) (ht2 : t < 64) (x : Int)
    (hx : x = (((sg1 ((row l t).getD (t - 2) 0) + (row l t).getD (t - 7) 0) % 4294967296 + sg0 ((row l t).getD (t - 15) 0)) % 4294967296 + (row l t).getD (t - 16) 0) % 4294967296) : (row l t).set t x = row l (t + 1) := by
  rw [← row_set l t ht2, hx]
  simp only [nx, if_neg ht]
  rw [row_get l t (t - 2) (by omega), row_get l t (t - 7) (by omega), row_get l t (t - 15) (by omega), row_get l t (t - 16) (by omega)]
theorem sch_congr {l l' : List Int} (h : ∀ j, j < 64 → l.getD j 0 = l'.getD j 0) : ∀ t, t ≤ 64 → sch l t = sch l' t := by
  intro t
  induction t with
  | zero => intro _; rfl
  | succ t ih =>
    intro ht
    have e := ih (by omega)
    rw [sch, sch, e]
    congr 2
    unfold nx
    by_cases c : t < 16
    · rw [if_pos c, if_pos c]
      unfold wd
      rw [h _ (by omega), h _ (by omega), h _ (by omega), h _ (by omega)]
    · rw [if_neg c, if_neg c]
theorem drop_getD (l : List Int) (i j : Nat) : (l.drop i).getD j 0 = l.getD (i + j) 0 := by
  simp [List.getD_eq_getElem?_getD, List.getElem?_drop]
theorem app_getD_left {a b : List Int} {i : Nat} (h : i < a.length) : (a ++ b).getD i 0 = a.getD i 0 := by
  simp [List.getD_eq_getElem?_getD, List.getElem?_append_left h]
theorem app_getD_right {a b : List Int} {i : Nat} (h : a.length ≤ i) : (a ++ b).getD i 0 = b.getD (i - a.length) 0 := by
  simp [List.getD_eq_getElem?_getD, List.getElem?_append_right h]
/-- What comes behind changes nothing. -/
theorem stN_app (K m x : List Int) : ∀ i, 64 * i ≤ m.length → stN K (m ++ x) i = stN K m i := by
  intro i
  induction i with
  | zero => intro _; rfl
  | succ i ih =>
    intro hi
    have e := ih (by omega)
    rw [stN, stN, e]
    rw [sch_congr (l := (m ++ x).drop (64 * i)) (l' := m.drop (64 * i)) (fun j hj => by rw [drop_getD, drop_getD, app_getD_left (by omega)]) 64 (Nat.le_refl _)]

theorem part_next {M X part : List Int} {r : Nat} (hr : r = M.length % 64) (hp1 : part.length = 64) (hp3 : ∀ i, i < r → part.getD i 0 = M.getD (64 * (M.length / 64) + i) 0) (_hX : r + X.length ≤ 64) :
    ∀ i, i < r + X.length → (part.take r ++ (X ++ part.drop (r + X.length))).getD i 0 = (M ++ X).getD (64 * (M.length / 64) + i) 0 := by
  intro i hi
  have ht : (part.take r).length = r := by rw [List.length_take]; omega
  by_cases c : i < r
  · rw [app_getD_left (by omega), app_getD_left (by omega), ← hp3 i c, List.getD_eq_getElem?_getD, List.getElem?_take_of_lt c, ← List.getD_eq_getElem?_getD]
  · have h1 := Nat.div_add_mod M.length 64
    rw [app_getD_right (a := part.take r) (by omega), app_getD_right (a := M) (by omega), ht, app_getD_left (by omega)]
    congr 1
    omega
theorem told_full {K M X part2 : List Int} {r : Nat} (hr : r = M.length % 64) (hf : r + X.length = 64) (hp : ∀ i, i < r + X.length → part2.getD i 0 = (M ++ X).getD (64 * (M.length / 64) + i) 0) :
    stN K (M ++ X) ((M ++ X).length / 64) = (stN K M (M.length / 64)).add (rnds K (sch part2 64) (stN K M (M.length / 64)) 64) := by
  have e : (M ++ X).length / 64 = M.length / 64 + 1 := by rw [List.length_append]; omega
  rw [e, stN, stN_app _ _ _ _ (by omega), sch_congr (l := (M ++ X).drop (64 * (M.length / 64))) (l' := part2) (fun j hj => by rw [drop_getD, hp j (by omega)]) 64 (Nat.le_refl _)]

/-- How many bytes are between a message of n bytes and its length. -/
def padN (n : Nat) : Nat := 1 + (119 - n % 64) % 64
/-- The length in bits, in eight bytes. -/
def lenB (n : Nat) : List Int := [(n : Int) * 8 / 72057594037927936 % 256, (n : Int) * 8 / 281474976710656 % 256, (n : Int) * 8 / 1099511627776 % 256, (n : Int) * 8 / 4294967296 % 256, (n : Int) * 8 / 16777216 % 256, (n : Int) * 8 / 65536 % 256, (n : Int) * 8 / 256 % 256, (n : Int) * 8 / 1 % 256]
def padC (n i : Nat) : List Int := (128 :: List.replicate (padN n - 1) 0) ++ ((lenB n).take i ++ List.replicate (72 - padN n - i) 0)
/-- A word's four bytes, the highest first. -/
def b4 (x : Int) : List Int := [x / 16777216 % 256, x / 65536 % 256, x / 256 % 256, x % 256]
def S8.bytes (F : S8) : List Int := F.words.flatMap b4
/-- What stands behind a message of n bytes. -/
def padL (n : Nat) : List Int := (padC n 8).take (padN n + 8)
/-- A message's sum. -/
def sumS (K m : List Int) : List Int := (stN K (m ++ padL m.length) ((m ++ padL m.length).length / 64)).bytes
theorem padN_bd (n : Nat) : padN n ≤ 64 ∧ 1 ≤ padN n := by unfold padN; omega
theorem padC_len (n i : Nat) (hi : i ≤ 8) : (padC n i).length = 72 := by
  have := padN_bd n
  simp only [padC, List.length_append, List.length_cons, List.length_replicate, List.length_take, lenB, List.length_nil]
  omega
theorem padC_set (n i : Nat) (hi : i < 8) : (padC n i).set (padN n + i) ((lenB n).getD i 0) = padC n (i + 1) := by
  have hb := padN_bd n
  have hl : (lenB n).length = 8 := rfl
  have h1 : ((lenB n).take i).length = i := by rw [List.length_take]; omega
  have h2 : (lenB n).take (i + 1) = (lenB n).take i ++ [(lenB n).getD i 0] := by rw [List.take_succ_eq_append_getElem (by omega)]; congr 2; rw [List.getD_eq_getElem?_getD, List.getElem?_eq_getElem (by omega)]; rfl
  obtain ⟨k, hk⟩ : ∃ k, 72 - padN n - i = k + 1 := ⟨71 - padN n - i, by omega⟩
  unfold padC
  rw [hk, show 72 - padN n - (i + 1) = k by omega, h2, List.replicate_succ]
  simp only [List.map_append, List.map_cons, List.map_nil, List.append_assoc]
  rw [List.set_append_right _ _ (by simp; omega), List.set_append_right _ _ (by simp [hl]; omega)]
  congr 2
  simp only [List.length_map, List.length_cons, List.length_replicate, h1]
  rw [show padN n + i - (padN n - 1 + 1) - i = 0 by omega]
  rfl
/-- The bytes that are kept till there are 64 of them. -/
structure Part (m part : List Int) : Prop where
  len : part.length = 64
  at_ : ∀ i, i < m.length % 64 → part.getD i 0 = m.getD (64 * (m.length / 64) + i) 0
/-- The kept bytes behind a copy. -/
def pcopy (part : List Int) (r : Nat) (x : List Int) : List Int := part.take r ++ (x ++ part.drop (r + x.length))
theorem pcopy_len {part x : List Int} {r : Nat} (hp : part.length = 64) (hr : r + x.length ≤ 64) : (pcopy part r x).length = 64 := by simp [pcopy]; omega
theorem Part.more {m part x : List Int} (h : Part m part) (hx : m.length % 64 + x.length < 64) : Part (m ++ x) (pcopy part (m.length % 64) x) := by
  refine ⟨pcopy_len h.len (by omega), fun i hi => ?_⟩
  rw [List.length_append] at hi ⊢
  have e1 : (m.length + x.length) / 64 = m.length / 64 := by omega
  rw [e1]
  exact part_next rfl h.len h.at_ (by omega) i (by omega)
theorem stN_more (K : List Int) {m x : List Int} (hx : m.length % 64 + x.length < 64) : stN K (m ++ x) ((m ++ x).length / 64) = stN K m (m.length / 64) := by
  have e1 : (m ++ x).length / 64 = m.length / 64 := by rw [List.length_append]; omega
  rw [e1, stN_app _ _ _ _ (by omega)]
theorem Part.full {m part x : List Int} (h : Part m part) (hx : m.length % 64 + x.length = 64) : Part (m ++ x) (pcopy part (m.length % 64) x) :=
  ⟨pcopy_len h.len (by omega), fun i hi => by rw [List.length_append] at hi; omega⟩
theorem stN_full (K : List Int) {m part x : List Int} (h : Part m part) (hx : m.length % 64 + x.length = 64) :
    stN K (m ++ x) ((m ++ x).length / 64) = (stN K m (m.length / 64)).add (rnds K (sch (pcopy part (m.length % 64) x) 64) (stN K m (m.length / 64)) 64) :=
  told_full rfl hx (part_next rfl h.len h.at_ (by omega))
theorem lenB_at (n i : Nat) (hi : i < 8) : (lenB n).getD i 0 = (n : Int) * 8 / 2 ^ (56 - 8 * i) % 256 := by
  have : i = 0 ∨ i = 1 ∨ i = 2 ∨ i = 3 ∨ i = 4 ∨ i = 5 ∨ i = 6 ∨ i = 7 := by omega
  rcases this with rfl | rfl | rfl | rfl | rfl | rfl | rfl | rfl <;> rfl
theorem pad0 (n : Nat) : (List.replicate 72 (0 : Int)).set 0 128 = padC n 0 := by
  have h := padN_bd n
  unfold padC
  rw [List.take_zero, List.nil_append, List.cons_append, List.replicate_append_replicate, show padN n - 1 + (72 - padN n - 0) = 71 by omega]
  rfl
theorem padN_int (n : Nat) : 1 + (119 - (n : Int) % 64) % 64 = (padN n : Int) := by unfold padN; omega
theorem padL_len (n : Nat) : (padL n).length = padN n + 8 := by
  have h := padN_bd n
  rw [padL, List.length_take, padC_len _ _ (by omega)]
  omega
theorem total_mod (n : Nat) : (n + (padN n + 8)) % 64 = 0 := by unfold padN; omega
theorem fmap_snoc (s : S8) (i : Nat) (hi : i < 8) : (s.words.take i).flatMap b4 ++ b4 (s.words.getD i 0) = (s.words.take (i + 1)).flatMap b4 := by
  have : i = 0 ∨ i = 1 ∨ i = 2 ∨ i = 3 ∨ i = 4 ∨ i = 5 ∨ i = 6 ∨ i = 7 := by omega
  rcases this with rfl | rfl | rfl | rfl | rfl | rfl | rfl | rfl <;> rfl
theorem fmap_len (s : S8) (i : Nat) (hi : i ≤ 8) : ((s.words.take i).flatMap b4).length = 4 * i := by
  have : i = 0 ∨ i = 1 ∨ i = 2 ∨ i = 3 ∨ i = 4 ∨ i = 5 ∨ i = 6 ∨ i = 7 ∨ i = 8 := by omega
  rcases this with rfl | rfl | rfl | rfl | rfl | rfl | rfl | rfl | rfl <;> rfl
theorem sumS_len (K m : List Int) : (sumS K m).length = 32 := rfl
theorem spl_part (ws part x : List Int) (rs : List Value) (r : Nat) (hw : ws.length = 8) (hp : part.length = 64) (hr : r + x.length ≤ 64) :
    ((ws.map (Value.int .u32) ++ (part.map (Value.int .u8) ++ rs)).take (8 + r) ++ (x.map (Value.int .u8) ++ (ws.map (Value.int .u32) ++ (part.map (Value.int .u8) ++ rs)).drop (8 + r + (x.map (Value.int .u8)).length))) =
      ws.map (Value.int .u32) ++ ((pcopy part r x).map (Value.int .u8) ++ rs) := by
  have e1 : (ws.map (Value.int .u32) ++ (part.map (Value.int .u8) ++ rs)).take (8 + r) = ws.map (Value.int .u32) ++ (part.take r).map (Value.int .u8) := by
    rw [List.take_append, List.take_of_length_le (by simp; omega), List.length_map, hw, show 8 + r - 8 = r by omega, List.take_append_of_le_length (by simp; omega), List.map_take]
  have e2 : (ws.map (Value.int .u32) ++ (part.map (Value.int .u8) ++ rs)).drop (8 + r + x.length) = (part.drop (r + x.length)).map (Value.int .u8) ++ rs := by
    rw [List.drop_append, List.drop_of_length_le (by simp; omega), List.nil_append, List.length_map, hw, show 8 + r + x.length - 8 = r + x.length by omega, List.drop_append_of_le_length (by simp; omega), List.map_drop]
  rw [List.length_map, e1, e2, pcopy]
  simp [List.map_append, List.append_assoc]
theorem set_last {vs : List Value} {u v : Value} {n : Nat} (h : vs.length = n) : (vs ++ [u]).set n v = vs ++ [v] := by
  subst h
  simp [List.set_append_right]
/-- The round numbers. -/
def KS : List Int := [1116352408, 1899447441, 3049323471, 3921009573, 961987163, 1508970993, 2453635748, 2870763221, 3624381080, 310598401, 607225278, 1426881987, 1925078388, 2162078206, 2614888103, 3248222580, 3835390401, 4022224774, 264347078, 604807628, 770255983, 1249150122, 1555081692, 1996064986, 2554220882, 2821834349, 2952996808, 3210313671, 3336571891, 3584528711, 113926993, 338241895, 666307205, 773529912, 1294757372, 1396182291, 1695183700, 1986661051, 2177026350, 2456956037, 2730485921, 2820302411, 3259730800, 3345764771, 3516065817, 3600352804, 4094571909, 275423344, 430227734, 506948616, 659060556, 883997877, 958139571, 1322822218, 1537002063, 1747873779, 1955562222, 2024104815, 2227730452, 2361852424, 2428436474, 2756734187, 3204031479, 3329325298]
theorem bits_or_comm (k : IntKind) (a b : Int) : bits .or k a b = bits .or k b a := by simp only [bits, BitVec.or_comm]
/-- What stands behind a message, up to the i-th byte of the length. -/
def pre (n i : Nat) : List Int := 128 :: List.replicate (padN n - 1) 0 ++ (lenB n).take i
theorem pre_len (n i : Nat) (hi : i ≤ 8) : (pre n i).length = padN n + i := by
  have := padN_bd n
  simp only [pre, List.length_append, List.length_cons, List.length_replicate, List.length_take, lenB, List.length_nil]
  omega
theorem pre_succ (n i : Nat) (hi : i < 8) : pre n i ++ [(n : Int) * 8 / 2 ^ (56 - 8 * i) % 256] = pre n (i + 1) := by
  rw [← lenB_at n i hi]
  have hl : (lenB n).length = 8 := rfl
  rw [pre, pre, List.append_assoc, List.take_succ_eq_append_getElem (by omega), List.getD_eq_getElem?_getD, List.getElem?_eq_getElem (by omega)]
  rfl
theorem pre_8 (n : Nat) : pre n 8 = padL n := by
  rw [padL, padC, ← List.append_assoc]
  exact (List.take_left' (pre_len n 8 (by omega))).symm
theorem wd_at (M : List Int) (b t : Nat) : wd (M.drop (64 * b)) t = bits .or .u32 (bits .or .u32 (bits .or .u32 (M.getD (64 * b + 4 * t) 0 % 4294967296 * 16777216 % 4294967296) (M.getD (64 * b + 4 * t + 1) 0 % 4294967296 * 65536 % 4294967296)) (M.getD (64 * b + 4 * t + 2) 0 % 4294967296 * 256 % 4294967296)) (M.getD (64 * b + 4 * t + 3) 0 % 4294967296) := by
  simp only [wd, drop_getD, Nat.add_assoc]
/-- The state while it is moved up by one place. -/
def shf (q : S8) (i : Nat) : List Int := q.words.take (i + 1) ++ (q.words.drop i).take (7 - i)
theorem shf_set (q : S8) (i : Nat) (h : 0 < i) (hi : i ≤ 7) : (shf q i).set i ((shf q i).getD (i - 1) 0) = shf q (i - 1) := by
  have : i = 1 ∨ i = 2 ∨ i = 3 ∨ i = 4 ∨ i = 5 ∨ i = 6 ∨ i = 7 := by omega
  rcases this with rfl | rfl | rfl | rfl | rfl | rfl | rfl <;> rfl
theorem shf_len (q : S8) (i : Nat) (hi : i ≤ 7) : (shf q i).length = 8 := by
  have : i = 0 ∨ i = 1 ∨ i = 2 ∨ i = 3 ∨ i = 4 ∨ i = 5 ∨ i = 6 ∨ i = 7 := by omega
  rcases this with rfl | rfl | rfl | rfl | rfl | rfl | rfl | rfl <;> rfl
theorem bytes_len (s : S8) : s.bytes.length = 32 := rfl
theorem bytes_at (s : S8) (i : Nat) (hi : i < 32) : s.words.getD (i / 4) 0 / 2 ^ (24 - 8 * (i % 4)) % 256 = s.bytes.getD i 0 := by
  have : i = 0 ∨ i = 1 ∨ i = 2 ∨ i = 3 ∨ i = 4 ∨ i = 5 ∨ i = 6 ∨ i = 7 ∨ i = 8 ∨ i = 9 ∨ i = 10 ∨ i = 11 ∨ i = 12 ∨ i = 13 ∨ i = 14 ∨ i = 15 ∨ i = 16 ∨ i = 17 ∨ i = 18 ∨ i = 19 ∨ i = 20 ∨ i = 21 ∨ i = 22 ∨ i = 23 ∨ i = 24 ∨ i = 25 ∨ i = 26 ∨ i = 27 ∨ i = 28 ∨ i = 29 ∨ i = 30 ∨ i = 31 := by omega
  rcases this with rfl | rfl | rfl | rfl | rfl | rfl | rfl | rfl | rfl | rfl | rfl | rfl | rfl | rfl | rfl | rfl | rfl | rfl | rfl | rfl | rfl | rfl | rfl | rfl | rfl | rfl | rfl | rfl | rfl | rfl | rfl | rfl <;> first | rfl | (show _ / 1 % 256 = _; rw [Int.ediv_one]; rfl)
theorem bytes_succ (s : S8) (i : Nat) (hi : i < 32) : s.bytes.take i ++ [s.words.getD (i / 4) 0 / 2 ^ (24 - 8 * (i % 4)) % 256] = s.bytes.take (i + 1) := by
  have h := bytes_len s
  rw [bytes_at s i hi, List.take_succ_eq_append_getElem (by omega), List.getD_eq_getElem?_getD, List.getElem?_eq_getElem (by omega)]
  rfl
end Go.Proofs.YtgnhpkdhicfeiaaDoor.PSha
