/- The permutation and the sponge as plain functions on lists; no program in sight. -/
import Derived.Laws.Entries
import Derived.Laws.Closers25b
import Derived.Laws.Bits64b
import Derived.Test.YteogihkpplaioaaDoorMXL
namespace Go.Proofs.YteogihkpplaioaaDoor.PShake
open Go Go.Proofs.YteogihkpplaioaaDoor.MX
set_option linter.unusedVariables false
set_option linter.unusedSimpArgs false
abbrev xr (a b : Int) : Int := bits .xor .u64 a b
/-- Left by n bits, n from 1 to 63. -/
def rot (v : Int) (n : Nat) : Int := bits .or .u64 (v * 2 ^ n % 18446744073709551616) (v / 2 ^ (64 - n))
def tn (v : Int) (n : Nat) : Int := if n = 0 then v else rot v n
def RC : List Int := [1, 32898, 9223372036854808714, 9223372039002292224, 32907, 2147483649, 9223372039002292353, 9223372036854808585, 138, 136, 2147516425, 2147483658, 2147516555, 9223372036854775947, 9223372036854808713, 9223372036854808579, 9223372036854808578, 9223372036854775936, 32778, 9223372039002259466, 9223372039002292353, 9223372036854808704, 2147483649, 9223372039002292232]
def TS : List Nat := [0, 1, 62, 28, 27, 36, 44, 6, 55, 20, 3, 10, 43, 25, 39, 41, 45, 15, 21, 8, 18, 2, 61, 56, 14]
/-- Where a lane goes, and where it comes from. -/
def goes (k : Nat) : Nat := k / 5 + 5 * ((2 * (k % 5) + 3 * (k / 5)) % 5)
def SRC : List Nat := [0, 6, 12, 18, 24, 3, 9, 10, 16, 22, 1, 7, 13, 19, 20, 4, 5, 11, 17, 23, 2, 8, 14, 15, 21]
theorem src_goes : ∀ k, k < 25 → goes k < 25 ∧ SRC.getD (goes k) 0 = k := by decide
theorem goes_src : ∀ k, k < 25 → SRC.getD k 0 < 25 ∧ goes (SRC.getD k 0) = k := by decide
def cP (s : Nat → Int) (x : Nat) : Int := xr (xr (xr (xr (s x) (s (x + 5))) (s (x + 10))) (s (x + 15))) (s (x + 20))
def dP (s : Nat → Int) (x : Nat) : Int := xr (cP s ((x + 4) % 5)) (rot (cP s ((x + 1) % 5)) 1)
def thf (s : Nat → Int) (i : Nat) : Int := xr (s i) (dP s (i % 5))
def rpf (u : Nat → Int) (j : Nat) : Int := tn (u (SRC.getD j 0)) (TS.getD (SRC.getD j 0) 0)
def chf (u : Nat → Int) (j : Nat) : Int := xr (u j) (bits .and .u64 (notu .u64 (u (j / 5 * 5 + (j + 1) % 5))) (u (j / 5 * 5 + (j + 2) % 5)))
def lan (s : List Int) : Nat → Int := fun i => s.getD i 0
def thL (s : List Int) : List Int := mkn 25 (thf (lan s))
def rpL (s : List Int) : List Int := mkn 25 (rpf (lan s))
def chL (s : List Int) : List Int := mkn 25 (chf (lan s))
def ioL (s : List Int) (c : Int) : List Int := s.set 0 (xr (s.getD 0 0) c)
def rnd (s : List Int) (c : Int) : List Int := ioL (chL (rpL (thL s))) c
def rnds (s : List Int) : Nat → List Int
  | 0 => s
  | i + 1 => rnd (rnds s i) (RC.getD i 0)
def perm (s : List Int) : List Int := rnds s 24
theorem rnd_len (s : List Int) (c : Int) : (rnd s c).length = 25 := by rw [rnd, ioL, List.length_set]; exact mkn_len _ _
theorem rnds_len {s : List Int} (h : s.length = 25) : ∀ i, (rnds s i).length = 25
  | 0 => h
  | i + 1 => rnd_len _ _
theorem perm_len (s : List Int) : (perm s).length = 25 := rnd_len _ _
/-- Numbers of 64 bits. -/
def U64 (x : Int) : Prop := 0 ≤ x ∧ x < 18446744073709551616
theorem bits_U64 (op : BinOp) (a b : Int) : U64 (bits op .u64 a b) := ⟨bits_lo_u64 op a b, by have := bits_hi_u64 op a b; omega⟩
def Lns (s : List Int) : Prop := s.length = 25 ∧ ∀ i, i < 25 → U64 (s.getD i 0)
theorem mkn_lns {f : Nat → Int} (h : ∀ i, i < 25 → U64 (f i)) : Lns (mkn 25 f) := ⟨mkn_len _ _, fun i hi => by rw [mkn_get f hi]; exact h i hi⟩
theorem set_lns {s : List Int} (h : Lns s) {i : Nat} (hi : i < 25) {x : Int} (hx : U64 x) : Lns (s.set i x) := ⟨by rw [List.length_set]; exact h.1, fun j hj => by
  rw [getD_set _ _ _ _ _ (by rw [h.1]; exact hi)]
  split
  · exact hx
  · exact h.2 j hj⟩
theorem thL_lns (s : List Int) : Lns (thL s) := mkn_lns fun i _ => by rw [thf]; exact bits_U64 _ _ _
theorem rot_U64 (v : Int) (n : Nat) : U64 (rot v n) := bits_U64 _ _ _
theorem rpL_lns {s : List Int} (h : Lns s) : Lns (rpL s) := mkn_lns fun i hi => by
  rw [rpf, tn]
  split
  · exact h.2 _ (goes_src i hi).1
  · exact rot_U64 _ _
theorem chL_lns (s : List Int) : Lns (chL s) := mkn_lns fun i _ => by rw [chf]; exact bits_U64 _ _ _
theorem rnd_lns (s : List Int) (c : Int) : Lns (rnd s c) := set_lns (chL_lns _) (by decide) (bits_U64 _ _ _)
theorem rnds_lns {s : List Int} (h : Lns s) : ∀ i, Lns (rnds s i)
  | 0 => h
  | i + 1 => rnd_lns _ _
theorem perm_lns (s : List Int) : Lns (perm s) := rnd_lns _ _
/-! ### The chain of turns and places -/
def pos : Nat → Nat × Nat
  | 0 => (1, 0)
  | t + 1 => ((pos t).2, (2 * (pos t).1 + 3 * (pos t).2) % 5)
def ix (t : Nat) : Nat := (pos t).1 + 5 * (pos t).2
def rt (t : Nat) : Nat := (t + 1) * (t + 2) / 2 % 64
theorem pos_facts : ∀ t, t < 25 → (pos t).1 < 5 ∧ (pos t).2 < 5 ∧ ix t < 25 := by decide
theorem ix_facts : ∀ t, t < 24 → SRC.getD (ix (t + 1)) 0 = ix t ∧ TS.getD (ix t) 0 = rt t ∧ rt t ≠ 0 ∧ rt t < 64 ∧ 0 < rt t := by decide
/-- Which places have been written behind t steps. -/
def done (t j : Nat) : Bool := (List.range t).any fun i => ix (i + 1) == j
theorem done_step (t j : Nat) : done (t + 1) j = (done t j || j == ix (t + 1)) := by
  rw [done, List.range_succ, List.any_append, List.any_cons, List.any_nil, Bool.or_false, done]
  congr 1
  exact Bool.beq_comm
theorem done_next : ∀ t, t < 24 → done t (ix (t + 1)) = false := by decide
theorem done_all : ∀ j, j < 25 → (done 24 j = true ∨ j = 0) ∧ done 24 0 = false := by decide
def chain (s : List Int) (t : Nat) : List Int := sel 25 (done t) (rpf (lan s)) (lan s)
theorem chain_0 {s : List Int} (h : s.length = 25) : chain s 0 = s := by
  rw [chain, sel_none (p := done 0) (fun j _ => rfl)]; exact mkn_self h
theorem chain_set {s : List Int} {t : Nat} (ht : t < 24) : (chain s t).set (ix (t + 1)) (rot (s.getD (ix t) 0) (rt t)) = chain s (t + 1) := by
  obtain ⟨h1, h2, h3, h4, h5⟩ := ix_facts t ht
  refine sel_set (pos_facts (t + 1) (by omega)).2.2 ?_ (fun j hj => done_step t j)
  rw [rpf, h1, h2, tn, if_neg h3]; rfl
theorem chain_get {s : List Int} {t : Nat} (ht : t < 24) : (chain s t).getD (ix (t + 1)) 0 = s.getD (ix (t + 1)) 0 := by
  rw [chain, sel_get (pos_facts (t + 1) (by omega)).2.2, done_next t ht]; rfl
theorem chain_end {s : List Int} : chain s 24 = rpL s := mkn_congr fun j hj => by
  split
  · rfl
  · rename_i h
    have := (done_all j hj).1
    obtain rfl : j = 0 := by rcases this with h2 | h2; exact absurd h2 h; exact h2
    rw [rpf, show SRC.getD 0 0 = 0 from rfl, show TS.getD 0 0 = 0 from rfl, tn, if_pos rfl]
/-! ### Stages that are written place by place -/
theorem th_p (x q : Nat) (hx : x < 5) (hq : q < 5) : ∀ j, j < 25 → decide (j % 5 < x ∨ (j % 5 = x ∧ j / 5 < q + 1)) = (decide (j % 5 < x ∨ (j % 5 = x ∧ j / 5 < q)) || j == x + 5 * q) := fun j hj => by
  rw [Bool.eq_iff_iff]
  simp only [decide_eq_true_eq, Bool.or_eq_true, beq_iff_eq]
  omega
def thP (u : List Int) (x q : Nat) : List Int := sel 25 (fun j => decide (j % 5 < x ∨ (j % 5 = x ∧ j / 5 < q))) (thf (lan u)) (lan u)
theorem thP_len {u : List Int} {x q : Nat} : (thP u x q).length = 25 := sel_len
theorem thP_set {u : List Int} {x q : Nat} (hx : x < 5) (hq : q < 5) : (thP u x q).set (x + 5 * q) (xr ((thP u x q).getD (x + 5 * q) 0) (dP (lan u) x)) = thP u x (q + 1) := by
  refine sel_set (by omega) ?_ (th_p x q hx hq)
  rw [thP, sel_get (by omega), if_neg (by simp only [decide_eq_true_eq]; omega), thf, show (x + 5 * q) % 5 = x by omega]
theorem thP_next {u : List Int} {x : Nat} : thP u x 5 = thP u (x + 1) 0 := by
  refine ext_getD 0 thP_len thP_len fun j hj => ?_
  rw [thP, thP, sel_get hj, sel_get hj]
  by_cases c : j % 5 < x + 1
  · rw [if_pos (by simp only [decide_eq_true_eq]; omega), if_pos (by simp only [decide_eq_true_eq]; omega)]
  · rw [if_neg (by simp only [decide_eq_true_eq]; omega), if_neg (by simp only [decide_eq_true_eq]; omega)]
theorem thP_0 {u : List Int} (h : u.length = 25) : thP u 0 0 = u := by
  rw [thP, sel_none (fun j hj => by simp)]; exact mkn_self h
theorem thP_5 {u : List Int} : thP u 5 0 = thL u := sel_all fun j hj => by simp only [decide_eq_true_eq]; omega
def cPart (u : List Int) (x : Nat) : List Int := sel 5 (fun j => decide (j < x)) (cP (lan u)) (fun _ => 0)
theorem cPart_len {u : List Int} {x : Nat} : (cPart u x).length = 5 := sel_len
theorem cPart_0 {u : List Int} : cPart u 0 = List.replicate 5 0 := by
  rw [cPart, sel_none (fun j hj => by simp)]; rfl
theorem cPart_set {u : List Int} {x : Nat} (hx : x < 5) : (cPart u x).set x (xr (xr (xr (xr (u.getD x 0) (u.getD (x + 5) 0)) (u.getD (x + 10) 0)) (u.getD (x + 15) 0)) (u.getD (x + 20) 0)) = cPart u (x + 1) :=
  sel_set hx rfl fun j hj => by
    rw [Bool.eq_iff_iff]
    simp only [decide_eq_true_eq, Bool.or_eq_true, beq_iff_eq]
    omega
theorem cPart_get {u : List Int} {x : Nat} (hx : x < 5) : (cPart u 5).getD x 0 = cP (lan u) x := by
  rw [cPart, sel_get hx, if_pos (by simp only [decide_eq_true_eq]; omega)]
theorem dP_eq {u : List Int} (x : Nat) : xr ((cPart u 5).getD ((x + 4) % 5) 0) (rot ((cPart u 5).getD ((x + 1) % 5) 0) 1) = dP (lan u) x := by
  rw [cPart_get (Nat.mod_lt _ (by decide)), cPart_get (Nat.mod_lt _ (by decide)), dP]
def chP (r : List Int) (q : Nat) : List Int := sel 25 (fun j => decide (j / 5 < q)) (chf (lan r)) (lan r)
theorem chP_len {r : List Int} {q : Nat} : (chP r q).length = 25 := sel_len
theorem chP_0 {r : List Int} (h : r.length = 25) : chP r 0 = r := by
  rw [chP, sel_none (fun j hj => by simp)]; exact mkn_self h
theorem chP_5 {r : List Int} : chP r 5 = chL r := sel_all fun j hj => by simp only [decide_eq_true_eq]; omega
theorem gs {l : List Int} {a b : Nat} (h : a ≠ b) (x : Int) : (l.set a x).getD b 0 = l.getD b 0 := by
  rw [List.getD_eq_getElem?_getD, List.getElem?_set_ne h, List.getD_eq_getElem?_getD]
/-- The five stores of a row, in their order. -/
theorem chP_row {r : List Int} {q : Nat} (hq : q < 5) {L l1 l2 l3 l4 l5 : List Int} (hL : L = chP r q)
    (h1 : l1 = L.set (5 * q) (xr (L.getD (5 * q) 0) (bits .and .u64 (notu .u64 (L.getD (5 * q + 1) 0)) (L.getD (5 * q + 2) 0))))
    (h2 : l2 = l1.set (5 * q + 1) (xr (l1.getD (5 * q + 1) 0) (bits .and .u64 (notu .u64 (l1.getD (5 * q + 2) 0)) (l1.getD (5 * q + 3) 0))))
    (h3 : l3 = l2.set (5 * q + 2) (xr (l2.getD (5 * q + 2) 0) (bits .and .u64 (notu .u64 (l2.getD (5 * q + 3) 0)) (l2.getD (5 * q + 4) 0))))
    (h4 : l4 = l3.set (5 * q + 3) (xr (l3.getD (5 * q + 3) 0) (bits .and .u64 (notu .u64 (l3.getD (5 * q + 4) 0)) (L.getD (5 * q) 0))))
    (h5 : l5 = l4.set (5 * q + 4) (xr (l4.getD (5 * q + 4) 0) (bits .and .u64 (notu .u64 (L.getD (5 * q) 0)) (L.getD (5 * q + 1) 0)))) : l5 = chP r (q + 1) := by
  have g : ∀ i, i < 5 → L.getD (5 * q + i) 0 = lan r (5 * q + i) := fun i hi => by
    rw [hL, chP, sel_get (by omega), if_neg (by simp only [decide_eq_true_eq]; omega)]
  have hl : L.length = 25 := by rw [hL]; exact chP_len
  have e1 : l1.getD (5 * q + 1) 0 = L.getD (5 * q + 1) 0 := by rw [h1, gs (by omega)]
  have e2 : l1.getD (5 * q + 2) 0 = L.getD (5 * q + 2) 0 := by rw [h1, gs (by omega)]
  have e3 : l1.getD (5 * q + 3) 0 = L.getD (5 * q + 3) 0 := by rw [h1, gs (by omega)]
  have e4 : l1.getD (5 * q + 4) 0 = L.getD (5 * q + 4) 0 := by rw [h1, gs (by omega)]
  rw [e1, e2, e3] at h2
  have f2 : l2.getD (5 * q + 2) 0 = L.getD (5 * q + 2) 0 := by rw [h2, gs (by omega), e2]
  have f3 : l2.getD (5 * q + 3) 0 = L.getD (5 * q + 3) 0 := by rw [h2, gs (by omega), e3]
  have f4 : l2.getD (5 * q + 4) 0 = L.getD (5 * q + 4) 0 := by rw [h2, gs (by omega), e4]
  rw [f2, f3, f4] at h3
  have k3 : l3.getD (5 * q + 3) 0 = L.getD (5 * q + 3) 0 := by rw [h3, gs (by omega), f3]
  have k4 : l3.getD (5 * q + 4) 0 = L.getD (5 * q + 4) 0 := by rw [h3, gs (by omega), f4]
  rw [k3, k4] at h4
  have m4 : l4.getD (5 * q + 4) 0 = L.getD (5 * q + 4) 0 := by rw [h4, gs (by omega), k4]
  rw [m4] at h5
  have g0 := g 0 (by decide)
  rw [Nat.add_zero] at g0
  rw [g0, g 1 (by decide), g 2 (by decide)] at h1
  rw [g 1 (by decide), g 2 (by decide), g 3 (by decide)] at h2
  rw [g 2 (by decide), g 3 (by decide), g 4 (by decide)] at h3
  rw [g 3 (by decide), g 4 (by decide), g0] at h4
  rw [g 4 (by decide), g0, g 1 (by decide)] at h5
  have n1 : l1.length = 25 := by rw [h1, List.length_set, hl]
  have n2 : l2.length = 25 := by rw [h2, List.length_set, n1]
  have n3 : l3.length = 25 := by rw [h3, List.length_set, n2]
  have n4 : l4.length = 25 := by rw [h4, List.length_set, n3]
  refine ext_getD 0 (by rw [h5, List.length_set, n4]) chP_len fun j hj => ?_
  rw [h5, getD_set _ _ _ _ _ (by omega), h4, getD_set _ _ _ _ _ (by omega), h3, getD_set _ _ _ _ _ (by omega), h2, getD_set _ _ _ _ _ (by omega), h1, getD_set _ _ _ _ _ (by omega), hL, chP, chP, sel_get hj, sel_get hj]
  simp only [decide_eq_true_eq]
  by_cases c : j / 5 < q
  · rw [if_neg (by omega), if_neg (by omega), if_neg (by omega), if_neg (by omega), if_neg (by omega), if_pos c, if_pos (by omega)]
  · by_cases c2 : j / 5 < q + 1
    · have hj5 : j / 5 * 5 = 5 * q := by omega
      rw [if_pos c2, chf, hj5]
      have : j = 5 * q ∨ j = 5 * q + 1 ∨ j = 5 * q + 2 ∨ j = 5 * q + 3 ∨ j = 5 * q + 4 := by omega
      rcases this with rfl | rfl | rfl | rfl | rfl
      · rw [if_neg (by omega), if_neg (by omega), if_neg (by omega), if_neg (by omega), if_pos rfl, show (5 * q + 1) % 5 = 1 by omega, show (5 * q + 2) % 5 = 2 by omega]
      · rw [if_neg (by omega), if_neg (by omega), if_neg (by omega), if_pos rfl, show (5 * q + 1 + 1) % 5 = 2 by omega, show (5 * q + 1 + 2) % 5 = 3 by omega]
      · rw [if_neg (by omega), if_neg (by omega), if_pos rfl, show (5 * q + 2 + 1) % 5 = 3 by omega, show (5 * q + 2 + 2) % 5 = 4 by omega]
      · rw [if_neg (by omega), if_pos rfl, show (5 * q + 3 + 1) % 5 = 4 by omega, show (5 * q + 3 + 2) % 5 = 0 by omega]; rfl
      · rw [if_pos rfl, show (5 * q + 4 + 1) % 5 = 0 by omega, show (5 * q + 4 + 2) % 5 = 1 by omega]; rfl
    · rw [if_neg (by omega), if_neg (by omega), if_neg (by omega), if_neg (by omega), if_neg (by omega), if_neg c, if_neg c2]
/-! ### The reference's stages -/
def gPart (k : Nat) : List Int := sel 25 (fun j => decide (j < k)) (fun j => (goes j : Int)) (fun _ => 0)
theorem gPart_0 : gPart 0 = List.replicate 25 0 := by
  rw [gPart, sel_none (fun j hj => by simp)]; rfl
theorem gPart_set {k : Nat} (hk : k < 25) : (gPart k).set k ((k : Int) / 5 + 5 * ((2 * ((k : Int) % 5) + 3 * ((k : Int) / 5)) % 5)) = gPart (k + 1) :=
  sel_set hk (by rw [goes]; omega) fun j hj => by
    rw [Bool.eq_iff_iff]; simp only [decide_eq_true_eq, Bool.or_eq_true, beq_iff_eq]; omega
theorem gPart_get {k : Nat} (hk : k < 25) : (gPart 25).getD k 0 = (goes k : Int) := by rw [gPart, sel_get hk, if_pos (by simpa using hk)]
def cQ (u c0 : List Int) (x : Nat) : List Int := sel 5 (fun j => decide (j < x)) (cP (lan u)) (lan c0)
theorem cQ_0 {u c0 : List Int} (h : c0.length = 5) : cQ u c0 0 = c0 := by
  rw [cQ, sel_none (fun j hj => by simp)]; exact mkn_self h
theorem cQ_set {u c0 : List Int} {x : Nat} (hx : x < 5) : (cQ u c0 x).set x (xr (xr (xr (xr (u.getD x 0) (u.getD (x + 5) 0)) (u.getD (x + 10) 0)) (u.getD (x + 15) 0)) (u.getD (x + 20) 0)) = cQ u c0 (x + 1) :=
  sel_set hx rfl fun j hj => by
    rw [Bool.eq_iff_iff]; simp only [decide_eq_true_eq, Bool.or_eq_true, beq_iff_eq]; omega
theorem cQ_5 {u c0 : List Int} : cQ u c0 5 = mkn 5 (cP (lan u)) := sel_all fun j hj => by simpa using hj
def dL (u : List Int) : List Int := [dP (lan u) 0, dP (lan u) 1, dP (lan u) 2, dP (lan u) 3, dP (lan u) 4]
theorem set5 {d : List Int} (h : d.length = 5) (a b c e f : Int) : ((((d.set 0 a).set 1 b).set 2 c).set 3 e).set 4 f = [a, b, c, e, f] := by
  match d, h with
  | [_, _, _, _, _], _ => rfl
theorem dL_get {u : List Int} {x : Nat} (hx : x < 5) : (dL u).getD x 0 = dP (lan u) x := by
  have : x = 0 ∨ x = 1 ∨ x = 2 ∨ x = 3 ∨ x = 4 := by omega
  rcases this with rfl | rfl | rfl | rfl | rfl <;> rfl
def tQ (u t0 : List Int) (q x : Nat) : List Int := sel 25 (fun j => decide (SRC.getD j 0 / 5 < q ∨ (SRC.getD j 0 / 5 = q ∧ SRC.getD j 0 % 5 < x))) (rpf (lan (thL u))) (lan t0)
theorem tQ_len {u t0 : List Int} {q x : Nat} : (tQ u t0 q x).length = 25 := sel_len
theorem tQ_0 {u t0 : List Int} (h : t0.length = 25) : tQ u t0 0 0 = t0 := by
  rw [tQ, sel_none (fun j hj => by simp)]; exact mkn_self h
theorem goes_iff : ∀ j, j < 25 → ∀ k, k < 25 → ((SRC.getD j 0 = k) ↔ (j = goes k)) := by decide
theorem tQ_set {u t0 : List Int} {q x : Nat} (hq : q < 5) (hx : x < 5) : (tQ u t0 q x).set (goes (x + 5 * q)) (tn (xr (u.getD (x + 5 * q) 0) (dP (lan u) x)) (TS.getD (x + 5 * q) 0)) = tQ u t0 q (x + 1) := by
  have hk : x + 5 * q < 25 := by omega
  obtain ⟨h1, h2⟩ := src_goes _ hk
  refine sel_set h1 ?_ fun j hj => ?_
  · rw [rpf, h2, lan, thL, mkn_get _ hk, thf, show (x + 5 * q) % 5 = x by omega]; rfl
  · have h3 := goes_iff j hj _ hk
    rw [Bool.eq_iff_iff]
    simp only [decide_eq_true_eq, Bool.or_eq_true, beq_iff_eq]
    rw [← h3]
    omega
theorem tQ_next {u t0 : List Int} {q : Nat} : tQ u t0 q 5 = tQ u t0 (q + 1) 0 := by
  refine ext_getD 0 tQ_len tQ_len fun j hj => ?_
  rw [tQ, tQ, sel_get hj, sel_get hj]
  by_cases c : SRC.getD j 0 / 5 < q + 1
  · rw [if_pos (by simp only [decide_eq_true_eq]; omega), if_pos (by simp only [decide_eq_true_eq]; omega)]
  · rw [if_neg (by simp only [decide_eq_true_eq]; omega), if_neg (by simp only [decide_eq_true_eq]; omega)]
theorem tQ_5 {u t0 : List Int} : tQ u t0 5 0 = rpL (thL u) := sel_all fun j hj => by
  have := (goes_src j hj).1
  simp only [decide_eq_true_eq]; omega
def sQ (u r : List Int) (q c : Nat) : List Int := sel 25 (fun j => decide (j / 5 < q ∨ (j / 5 = q ∧ j % 5 < c))) (chf (lan r)) (lan u)
theorem sQ_len {u r : List Int} {q c : Nat} : (sQ u r q c).length = 25 := sel_len
theorem sQ_0 {u r : List Int} (h : u.length = 25) : sQ u r 0 0 = u := by
  rw [sQ, sel_none (fun j hj => by simp)]; exact mkn_self h
theorem sQ_set {u r : List Int} {q c : Nat} (hq : q < 5) (hc : c < 5) (x : Int) (hx : x = chf (lan r) (5 * q + c)) : (sQ u r q c).set (5 * q + c) x = sQ u r q (c + 1) :=
  sel_set (by omega) hx fun j hj => by
    rw [Bool.eq_iff_iff]; simp only [decide_eq_true_eq, Bool.or_eq_true, beq_iff_eq]; omega
theorem sQ_next {u r : List Int} {q : Nat} : sQ u r q 5 = sQ u r (q + 1) 0 := by
  refine ext_getD 0 sQ_len sQ_len fun j hj => ?_
  rw [sQ, sQ, sel_get hj, sel_get hj]
  by_cases c : j / 5 < q + 1
  · rw [if_pos (by simp only [decide_eq_true_eq]; omega), if_pos (by simp only [decide_eq_true_eq]; omega)]
  · rw [if_neg (by simp only [decide_eq_true_eq]; omega), if_neg (by simp only [decide_eq_true_eq]; omega)]
theorem sQ_5 {u r : List Int} : sQ u r 5 0 = chL r := sel_all fun j hj => by simp only [decide_eq_true_eq]; omega
theorem sQ_row {u r : List Int} {q : Nat} (hq : q < 5) :
    ((((((sQ u r q 0).set (5 * q) (xr (r.getD (5 * q) 0) (bits .and .u64 (notu .u64 (r.getD (5 * q + 1) 0)) (r.getD (5 * q + 2) 0)))).set (5 * q + 1) (xr (r.getD (5 * q + 1) 0) (bits .and .u64 (notu .u64 (r.getD (5 * q + 2) 0)) (r.getD (5 * q + 3) 0)))).set
      (5 * q + 2) (xr (r.getD (5 * q + 2) 0) (bits .and .u64 (notu .u64 (r.getD (5 * q + 3) 0)) (r.getD (5 * q + 4) 0)))).set (5 * q + 3) (xr (r.getD (5 * q + 3) 0) (bits .and .u64 (notu .u64 (r.getD (5 * q + 4) 0)) (r.getD (5 * q) 0)))).set
      (5 * q + 4) (xr (r.getD (5 * q + 4) 0) (bits .and .u64 (notu .u64 (r.getD (5 * q) 0)) (r.getD (5 * q + 1) 0)))) = sQ u r (q + 1) 0 := by
  have h0 := sQ_set (u := u) (r := r) hq (show 0 < 5 by decide) _ (rfl)
  have e0 : chf (lan r) (5 * q + 0) = xr (r.getD (5 * q) 0) (bits .and .u64 (notu .u64 (r.getD (5 * q + 1) 0)) (r.getD (5 * q + 2) 0)) := by
    rw [Nat.add_zero, chf, show 5 * q / 5 * 5 = 5 * q by omega, show (5 * q + 1) % 5 = 1 by omega, show (5 * q + 2) % 5 = 2 by omega]; rfl
  have e1 : chf (lan r) (5 * q + 1) = xr (r.getD (5 * q + 1) 0) (bits .and .u64 (notu .u64 (r.getD (5 * q + 2) 0)) (r.getD (5 * q + 3) 0)) := by
    rw [chf, show (5 * q + 1) / 5 * 5 = 5 * q by omega, show (5 * q + 1 + 1) % 5 = 2 by omega, show (5 * q + 1 + 2) % 5 = 3 by omega]; rfl
  have e2 : chf (lan r) (5 * q + 2) = xr (r.getD (5 * q + 2) 0) (bits .and .u64 (notu .u64 (r.getD (5 * q + 3) 0)) (r.getD (5 * q + 4) 0)) := by
    rw [chf, show (5 * q + 2) / 5 * 5 = 5 * q by omega, show (5 * q + 2 + 1) % 5 = 3 by omega, show (5 * q + 2 + 2) % 5 = 4 by omega]; rfl
  have e3 : chf (lan r) (5 * q + 3) = xr (r.getD (5 * q + 3) 0) (bits .and .u64 (notu .u64 (r.getD (5 * q + 4) 0)) (r.getD (5 * q) 0)) := by
    rw [chf, show (5 * q + 3) / 5 * 5 = 5 * q by omega, show (5 * q + 3 + 1) % 5 = 4 by omega, show (5 * q + 3 + 2) % 5 = 0 by omega]; rfl
  have e4 : chf (lan r) (5 * q + 4) = xr (r.getD (5 * q + 4) 0) (bits .and .u64 (notu .u64 (r.getD (5 * q) 0)) (r.getD (5 * q + 1) 0)) := by
    rw [chf, show (5 * q + 4) / 5 * 5 = 5 * q by omega, show (5 * q + 4 + 1) % 5 = 0 by omega, show (5 * q + 4 + 2) % 5 = 1 by omega]; rfl
  rw [e0, Nat.add_zero] at h0
  rw [h0, ← e1, sQ_set hq (by decide) _ rfl, ← e2, sQ_set hq (by decide) _ rfl, ← e3, sQ_set hq (by decide) _ rfl, ← e4, sQ_set hq (by decide) _ rfl, sQ_next]
/-! ### The sponge -/
/-- A byte comes to place k. -/
def xorB (s : List Int) (k : Nat) (c : Int) : List Int := s.set (k / 8) (xr (s.getD (k / 8) 0) (c * 2 ^ (8 * (k % 8)) % 18446744073709551616))
def put1 (rate : Nat) (q : List Int × Nat) (c : Int) : List Int × Nat := if q.2 + 1 = rate then (perm (xorB q.1 q.2 c), 0) else (xorB q.1 q.2 c, q.2 + 1)
def zs : List Int := List.replicate 25 0
def absb (rate : Nat) (m : List Int) : List Int × Nat := m.foldl (put1 rate) (zs, 0)
def fin (rate : Nat) (q : List Int × Nat) : List Int := perm (xorB (xorB q.1 q.2 31) (rate - 1) 128)
def sq (rate : Nat) (m : List Int) : List Int := fin rate (absb rate m)
def permN (s : List Int) : Nat → List Int
  | 0 => s
  | n + 1 => perm (permN s n)
def byt (s : List Int) (k : Nat) : Int := s.getD (k / 8) 0 / 2 ^ (8 * (k % 8)) % 256
/-- The i-th byte that is told. -/
def str (rate : Nat) (f : List Int) (i : Nat) : Int := byt (permN f (i / rate)) (i % rate)
def outs (rate : Nat) (f : List Int) (from_ n : Nat) : List Int := (List.range n).map fun i => str rate f (from_ + i)
theorem zs_lns : Lns zs := ⟨List.length_replicate, fun i hi => by
  have : zs.getD i 0 = 0 := by rw [zs, List.getD_eq_getElem?_getD, List.getElem?_replicate, if_pos hi]; rfl
  rw [this]; exact ⟨Int.le_refl 0, by decide⟩⟩
theorem xorB_lns {s : List Int} (h : Lns s) {k : Nat} (hk : k < 200) (c : Int) : Lns (xorB s k c) := set_lns h (by omega) (bits_U64 _ _ _)
theorem put1_ok {rate : Nat} (hr : 0 < rate ∧ rate ≤ 200) {q : List Int × Nat} (h : Lns q.1 ∧ q.2 < rate) (c : Int) : Lns (put1 rate q c).1 ∧ (put1 rate q c).2 < rate := by
  unfold put1
  split
  · exact ⟨perm_lns _, hr.1⟩
  · exact ⟨xorB_lns h.1 (by omega) c, by dsimp only; omega⟩
theorem foldl_ok {rate : Nat} (hr : 0 < rate ∧ rate ≤ 200) : ∀ (m : List Int) {q : List Int × Nat}, Lns q.1 ∧ q.2 < rate → Lns (m.foldl (put1 rate) q).1 ∧ (m.foldl (put1 rate) q).2 < rate
  | [], _, h => h
  | c :: m, _, h => foldl_ok hr m (put1_ok hr h c)
theorem absb_ok {rate : Nat} (hr : 0 < rate ∧ rate ≤ 200) (m : List Int) : Lns (absb rate m).1 ∧ (absb rate m).2 < rate := foldl_ok hr m ⟨zs_lns, hr.1⟩
theorem absb_snoc (rate : Nat) (m : List Int) (c : Int) : absb rate (m ++ [c]) = put1 rate (absb rate m) c := by rw [absb, List.foldl_append]; rfl
theorem absb_app (rate : Nat) (m l : List Int) : absb rate (m ++ l) = l.foldl (put1 rate) (absb rate m) := by rw [absb, List.foldl_append]; rfl
theorem permN_lns {f : List Int} (h : Lns f) : ∀ n, Lns (permN f n)
  | 0 => h
  | n + 1 => perm_lns _
theorem absb_at {rate : Nat} (hr : 0 < rate ∧ rate ≤ 200) (m : List Int) : (absb rate m).2 = m.length % rate := by
  have key : ∀ (l : List Int) (q : List Int × Nat), q.2 < rate → (l.foldl (put1 rate) q).2 = (q.2 + l.length) % rate := by
    intro l
    induction l with
    | nil => intro q hq; exact (Nat.mod_eq_of_lt hq).symm
    | cons c l ih =>
      intro q hq
      rw [List.foldl_cons, ih]
      · unfold put1
        split
        · rename_i h
          show (0 + l.length) % rate = (q.2 + (l.length + 1)) % rate
          rw [show q.2 + (l.length + 1) = l.length + rate by omega, Nat.add_mod_right, Nat.zero_add]
        · show (q.2 + 1 + l.length) % rate = (q.2 + (l.length + 1)) % rate
          rw [show q.2 + 1 + l.length = q.2 + (l.length + 1) by omega]
      · unfold put1
        split
        · exact hr.1
        · show q.2 + 1 < rate
          omega
  have := key m (zs, 0) hr.1
  rw [absb, this, Nat.zero_add]
/-! ### Padded: the same -/
theorem xr_zero {x : Int} (h : U64 x) : xr x 0 = x := by
  obtain ⟨n, rfl⟩ : ∃ n : Nat, x = n := ⟨x.toNat, by have := h.1; omega⟩
  have h2 := h.2
  have := bits_xor_u64_nat n 0 (by omega) (by decide)
  simpa using this
theorem xorB_zero {s : List Int} (h : Lns s) {k : Nat} (hk : k < 200) : xorB s k 0 = s := by
  rw [xorB, Int.zero_mul, Int.zero_emod, xr_zero (h.2 _ (by omega))]
  refine ext_getD 0 (by rw [List.length_set, h.1]) h.1 fun j hj => ?_
  rw [getD_set _ _ _ _ _ (by rw [h.1]; omega)]
  split
  · rename_i e; rw [e]
  · rfl
theorem fold_zeros {rate : Nat} (hr : 0 < rate ∧ rate ≤ 200) : ∀ (n : Nat) (q : List Int × Nat), Lns q.1 → q.2 + n < rate → (List.replicate n (0 : Int)).foldl (put1 rate) q = (q.1, q.2 + n)
  | 0, q, _, _ => rfl
  | n + 1, q, hq, hn => by
    have e : put1 rate q 0 = (q.1, q.2 + 1) := by rw [put1, if_neg (by omega), xorB_zero hq (by omega)]
    rw [List.replicate_succ, List.foldl_cons, e, fold_zeros hr n (q.1, q.2 + 1) hq (by dsimp only; omega)]
    dsimp only
    rw [show q.2 + 1 + n = q.2 + (n + 1) by omega]
theorem xr_assoc_nat (a b c : Nat) (ha : a < 18446744073709551616) (hb : b < 18446744073709551616) (hc : c < 18446744073709551616) : xr (xr (a : Int) b) c = xr (a : Int) ((b ^^^ c : Nat) : Int) := by
  have hab : a ^^^ b < 2 ^ 64 := Nat.xor_lt_two_pow (by omega) (by omega)
  have hbc : b ^^^ c < 2 ^ 64 := Nat.xor_lt_two_pow (by omega) (by omega)
  rw [xr, xr, xr, bits_xor_u64_nat a b ha hb, bits_xor_u64_nat (a ^^^ b) c (by omega) hc, bits_xor_u64_nat a _ ha (by omega), Nat.xor_assoc]
theorem pad_join : ∀ k, k < 8 → ((31 * 2 ^ (8 * k) % 18446744073709551616 : Nat) ^^^ (128 * 2 ^ (8 * k) % 18446744073709551616 : Nat)) = (159 * 2 ^ (8 * k) % 18446744073709551616 : Nat) := by decide
theorem xorB_join {s : List Int} (h : Lns s) {k : Nat} (hk : k < 200) : xorB (xorB s k 31) k 128 = xorB s k 159 := by
  obtain ⟨n, hn⟩ : ∃ n : Nat, s.getD (k / 8) 0 = n := ⟨(s.getD (k / 8) 0).toNat, by have := (h.2 (k / 8) (by omega)).1; omega⟩
  have hn2 := (h.2 (k / 8) (by omega)).2
  rw [hn] at hn2
  have hp := pad_join (k % 8) (Nat.mod_lt _ (by decide))
  have e : ∀ c : Nat, ((c : Int) * 2 ^ (8 * (k % 8)) % 18446744073709551616) = ((c * 2 ^ (8 * (k % 8)) % 18446744073709551616 : Nat) : Int) := fun c => by
    rw [Int.natCast_emod, Int.natCast_mul, Int.natCast_pow]; rfl
  have h31 := e 31
  have h128 := e 128
  have h159 := e 159
  have l31 : (31 * 2 ^ (8 * (k % 8)) % 18446744073709551616 : Nat) < 18446744073709551616 := Nat.mod_lt _ (by decide)
  have l128 : (128 * 2 ^ (8 * (k % 8)) % 18446744073709551616 : Nat) < 18446744073709551616 := Nat.mod_lt _ (by decide)
  rw [xorB, xorB, getD_set _ _ _ _ _ (by rw [h.1]; omega), if_pos rfl, List.set_set, hn, xorB, hn]
  congr 1
  rw [show (31 : Int) = ((31 : Nat) : Int) from rfl, show (128 : Int) = ((128 : Nat) : Int) from rfl, show (159 : Int) = ((159 : Nat) : Int) from rfl, h31, h128, h159, xr_assoc_nat _ _ _ (by omega) l31 l128, hp]
/-- What is behind a message that is padded. -/
def tailP (rate a : Nat) : List Int := if a + 1 = rate then [159] else 31 :: (List.replicate (rate - a - 2) 0 ++ [128])
theorem tailP_len {rate a : Nat} (h : a < rate) : (tailP rate a).length = rate - a := by
  unfold tailP
  split
  · simp; omega
  · simp; omega
theorem absb_pad {rate : Nat} (hr : 0 < rate ∧ rate ≤ 200) (m : List Int) : absb rate (m ++ tailP rate (m.length % rate)) = (sq rate m, 0) := by
  rw [absb_app, ← absb_at hr m, sq]
  obtain ⟨h1, h2⟩ := absb_ok hr m
  generalize absb rate m = q at h1 h2
  obtain ⟨s, a⟩ := q
  dsimp only at h1 h2 ⊢
  unfold tailP
  split
  · rename_i e
    rw [List.foldl_cons, List.foldl_nil, put1, if_pos e, fin]
    dsimp only
    rw [show rate - 1 = a by omega, xorB_join h1 (by omega)]
  · rename_i e
    rw [List.foldl_cons, List.foldl_append, put1, if_neg e]
    dsimp only
    rw [fold_zeros hr _ _ (xorB_lns h1 (by omega) _) (by dsimp only; omega), List.foldl_cons, List.foldl_nil, put1]
    dsimp only
    rw [if_pos (by omega), fin]
    dsimp only
    rw [show a + 1 + (rate - a - 2) = rate - 1 by omega]
/-- A block's bytes come. -/
def xfold (s : List Int) (m : List Int) (o : Nat) : Nat → List Int
  | 0 => s
  | k + 1 => xorB (xfold s m o k) k (m.getD (o + k) 0)
theorem xfold_lns {s m : List Int} {o : Nat} (h : Lns s) : ∀ k, k ≤ 200 → Lns (xfold s m o k)
  | 0, _ => h
  | k + 1, hk => xorB_lns (xfold_lns h k (by omega)) (by omega) _
theorem take_snoc {m : List Int} {o : Nat} (h : o < m.length) : m.take (o + 1) = m.take o ++ [m.getD o 0] := by
  rw [List.take_succ_eq_append_getElem h, List.getD_eq_getElem?_getD, List.getElem?_eq_getElem h]; rfl
theorem absb_block {rate : Nat} {m s : List Int} {o : Nat} (ho : o + rate ≤ m.length) (h : absb rate (m.take o) = (s, 0)) : ∀ k, k < rate → absb rate (m.take (o + k)) = (xfold s m o k, k)
  | 0, _ => h
  | k + 1, hk => by
    rw [← Nat.add_assoc, take_snoc (by omega), absb_snoc, absb_block ho h k (by omega), put1, if_neg (by dsimp only; omega)]
    rfl
theorem absb_next {rate : Nat} (hr : 0 < rate) {m s : List Int} {o : Nat} (ho : o + rate ≤ m.length) (h : absb rate (m.take o) = (s, 0)) : absb rate (m.take (o + rate)) = (perm (xfold s m o rate), 0) := by
  obtain ⟨r, rfl⟩ : ∃ r, rate = r + 1 := ⟨rate - 1, by omega⟩
  rw [← Nat.add_assoc, take_snoc (by omega), absb_snoc, absb_block ho h r (by omega), put1, if_pos rfl]
  rfl
/-- The reference's padding, as it is made. -/
def padZ (b : List Int) (j : Nat) : List Int := b ++ 31 :: List.replicate j 0
theorem padZ_len (b : List Int) (j : Nat) : (padZ b j).length = b.length + 1 + j := by simp [padZ]; omega
theorem padZ_snoc (b : List Int) (j : Nat) : padZ b j ++ [0] = padZ b (j + 1) := by
  rw [padZ, padZ, List.append_assoc, List.cons_append, ← List.replicate_succ']
theorem xor_31 : bits .xor .u8 31 128 = 159 := by decide +kernel
theorem xor_0 : bits .xor .u8 0 128 = 128 := by decide +kernel
theorem padZ_set {b : List Int} {rate a : Nat} (ha : a < rate) : (padZ b (rate - a - 1)).set (b.length + (rate - a - 1)) (bits .xor .u8 ((padZ b (rate - a - 1)).getD (b.length + (rate - a - 1)) 0) 128) = b ++ tailP rate a := by
  unfold padZ tailP
  by_cases e : a + 1 = rate
  · rw [if_pos e, show rate - a - 1 = 0 by omega, List.replicate_zero, Nat.add_zero, List.set_append_right _ _ (Nat.le_refl _), Nat.sub_self, List.getD_eq_getElem?_getD, List.getElem?_append_right (Nat.le_refl _), Nat.sub_self]
    show b ++ [bits .xor .u8 31 128] = _
    rw [xor_31]
  · obtain ⟨m, hm⟩ : ∃ m, rate - a - 1 = m + 1 := ⟨rate - a - 2, by omega⟩
    have e2 : (List.replicate (m + 1) (0 : Int)) = List.replicate m 0 ++ [0] := List.replicate_succ'
    have e3 : (31 :: (List.replicate m (0 : Int) ++ [0])) = (31 :: List.replicate m 0) ++ [0] := rfl
    rw [if_neg e, hm, show rate - a - 2 = m by omega, List.set_append_right _ _ (by omega), Nat.add_sub_cancel_left, List.getD_eq_getElem?_getD, List.getElem?_append_right (by omega), Nat.add_sub_cancel_left, e2, e3, List.getElem?_append_right (by simp),
      List.set_append_right _ _ (by simp)]
    simp [xor_0]
theorem pad_stop {rate a L j : Nat} (hr : 0 < rate) (ha : a = L % rate) (hj : j ≤ rate - a - 1) : ((L + 1 + j) % rate = 0 ↔ j = rate - a - 1) := by
  have h1 := Nat.div_add_mod L rate
  have h2 := Nat.mod_lt L hr
  have e : L + 1 + j = rate * (L / rate) + (a + 1 + j) := by omega
  rw [e, Nat.mul_add_mod]
  rcases Nat.lt_or_ge (a + 1 + j) rate with h | h
  · rw [Nat.mod_eq_of_lt h]; omega
  · rw [show a + 1 + j = rate by omega, Nat.mod_self]; omega
theorem pad_len {rate : Nat} (hr : 0 < rate) (b : List Int) : ∃ m, (b ++ tailP rate (b.length % rate)).length = m * rate := by
  have h1 := Nat.div_add_mod b.length rate
  have h2 := Nat.mod_lt b.length hr
  refine ⟨b.length / rate + 1, ?_⟩
  rw [List.length_append, tailP_len h2, Nat.add_mul, Nat.one_mul, Nat.mul_comm (b.length / rate)]
  omega
theorem pad_get {rate : Nat} (hr : 0 < rate) {b : List Int} (hb : ∀ i, i < b.length → 0 ≤ b.getD i 0 ∧ b.getD i 0 < 256) : ∀ i, i < (b ++ tailP rate (b.length % rate)).length → 0 ≤ (b ++ tailP rate (b.length % rate)).getD i 0 ∧ (b ++ tailP rate (b.length % rate)).getD i 0 < 256 := fun i hi => by
  have ht : ∀ x ∈ tailP rate (b.length % rate), 0 ≤ x ∧ x < 256 := fun x hx => by
    unfold tailP at hx
    split at hx
    · rw [List.mem_singleton.1 hx]; decide
    · rcases List.mem_cons.1 hx with rfl | hx
      · decide
      · rcases List.mem_append.1 hx with hx | hx
        · rw [(List.mem_replicate.1 hx).2]; decide
        · rw [List.mem_singleton.1 hx]; decide
  rcases Nat.lt_or_ge i b.length with h | h
  · rw [List.getD_eq_getElem?_getD, List.getElem?_append_left h, ← List.getD_eq_getElem?_getD]; exact hb i h
  · rw [List.getD_eq_getElem?_getD, List.getElem?_append_right h]
    have h2 : i - b.length < (tailP rate (b.length % rate)).length := by rw [List.length_append] at hi; omega
    rw [List.getElem?_eq_getElem h2]
    exact ht _ (List.getElem_mem h2)
theorem outs_len (rate : Nat) (f : List Int) (o n : Nat) : (outs rate f o n).length = n := by rw [outs, List.length_map, List.length_range]
theorem outs_get {rate n : Nat} (f : List Int) (o : Nat) {i : Nat} (h : i < n) : (outs rate f o n).getD i 0 = str rate f (o + i) := by
  rw [outs, List.getD_eq_getElem?_getD, List.getElem?_map, List.getElem?_range h]; rfl
theorem outs_snoc {rate : Nat} (f : List Int) (o n q a : Nat) (ha : a < rate) (h : q * rate + a = o + n) : outs rate f o (n + 1) = outs rate f o n ++ [byt (permN f q) a] := by
  have h1 : (o + n) / rate = q := by rw [← h, Nat.mul_comm, Nat.mul_add_div (by omega), Nat.div_eq_of_lt ha, Nat.add_zero]
  have h2 : (o + n) % rate = a := by rw [← h, Nat.mul_comm, Nat.mul_add_mod, Nat.mod_eq_of_lt ha]
  rw [outs, List.range_succ, List.map_append, List.map_singleton, outs, str, h1, h2]
end Go.Proofs.YteogihkpplaioaaDoor.PShake
