/- Lists of hints as bytes, and back: the plain law. No program in sight. -/
import Derived.Test.YtbkbdnlolfaneaaMXW
namespace Go.Proofs.Ytbkbdnlolfaneaa.PRound
set_option linter.unusedVariables false
/-- The places of what is true, the first of which is i. -/
def plc : Nat → List Bool → List Int
  | _, [] => []
  | i, b :: l => (if b then [(i : Int)] else []) ++ plc (i + 1) l
theorem plc_append : ∀ (a b : List Bool) (i : Nat), plc i (a ++ b) = plc i a ++ plc (i + a.length) b
  | [], b, i => by simp [plc]
  | x :: a, b, i => by
    simp only [List.cons_append, plc, plc_append a b (i + 1), List.append_assoc, List.length_cons]
    rw [show i + 1 + a.length = i + (a.length + 1) by omega]
theorem plc_succ (l : List Bool) (k : Nat) (hk : k < l.length) : plc 0 (l.take (k + 1)) = plc 0 (l.take k) ++ (if l.getD k false then [(k : Int)] else []) := by
  rw [List.take_succ_eq_append_getElem hk, plc_append]
  have : (l.take k).length = k := by simp; omega
  rw [this, Nat.zero_add, List.getD_eq_getElem?_getD, List.getElem?_eq_getElem hk]
  simp [plc]
theorem plc_le (l : List Bool) (k i : Nat) : (plc i (l.take k)).length ≤ (plc i l).length := by
  have := plc_append (l.take k) (l.drop k) i
  rw [List.take_append_drop] at this
  rw [this, List.length_append]
  omega
theorem plc_len : ∀ (l : List Bool) (i : Nat), (plc i l).length ≤ l.length
  | [], i => by simp [plc]
  | x :: a, i => by
    have := plc_len a (i + 1)
    simp only [plc, List.length_append, List.length_cons]
    split <;> simp <;> omega
def allP (L : List (List Bool)) : List Int := L.flatMap (plc 0)
theorem allP_succ (L : List (List Bool)) (i : Nat) (hi : i < L.length) : allP (L.take (i + 1)) = allP (L.take i) ++ plc 0 L[i] := by
  rw [List.take_succ_eq_append_getElem hi]
  unfold allP
  rw [List.flatMap_append]
  simp only [List.flatMap_cons, List.flatMap_nil, List.append_nil]
theorem allP_le (L : List (List Bool)) (i k : Nat) (hi : i < L.length) : (allP (L.take i)).length + (plc 0 (L[i].take k)).length ≤ (allP L).length := by
  have h1 := allP_succ L i hi
  have h2 : allP L = allP (L.take (i + 1)) ++ allP (L.drop (i + 1)) := by
    conv => lhs; rw [← List.take_append_drop (i + 1) L]
    simp only [allP, List.flatMap_append]
  have := plc_le L[i] k 0
  rw [h2, h1]
  simp only [List.length_append]
  omega
theorem allP_take_le (L : List (List Bool)) (i : Nat) : (allP (L.take i)).length ≤ (allP L).length := by
  have h2 : allP L = allP (L.take i) ++ allP (L.drop i) := by
    conv => lhs; rw [← List.take_append_drop i L]
    simp only [allP, List.flatMap_append]
  rw [h2, List.length_append]
  omega
/-- Where each list ends. -/
def endsP (L : List (List Bool)) (i : Nat) : List Int := (List.range i).map fun j => ((allP (L.take (j + 1))).length : Int)
theorem endsP_len (L : List (List Bool)) (i : Nat) : (endsP L i).length = i := by simp [endsP]
theorem endsP_succ (L : List (List Bool)) (i : Nat) : endsP L (i + 1) = endsP L i ++ [((allP (L.take (i + 1))).length : Int)] := by
  simp [endsP, List.range_succ]
def packOk (L : List (List Bool)) (most : Int) : Prop := 0 ≤ most ∧ most ≤ 255 ∧ L.length ≤ 16 ∧ (∀ l ∈ L, l.length = 256) ∧ ((allP L).length : Int) ≤ most
instance (L : List (List Bool)) (most : Int) : Decidable (packOk L most) := by unfold packOk; infer_instance
def packB (L : List (List Bool)) (most : Int) : Option (List Int) :=
  if packOk L most then some (allP L ++ List.replicate (most.toNat - (allP L).length) 0 ++ endsP L L.length) else none
/-- The bytes that are being written: i lists are done, of the next one what is in cur. -/
def outS (L : List (List Bool)) (m i : Nat) (cur : List Int) : List Int := cur ++ List.replicate (m - cur.length) 0 ++ (endsP L i ++ List.replicate (L.length - i) 0)
theorem outS_len (L : List (List Bool)) (m i : Nat) (cur : List Int) (hi : i ≤ L.length) (hc : cur.length ≤ m) : (outS L m i cur).length = m + L.length := by
  simp [outS, endsP_len]; omega
theorem outS_place (L : List (List Bool)) (m i : Nat) (cur : List Int) (x : Int) (hc : cur.length < m) : (outS L m i cur).set cur.length x = outS L m i (cur ++ [x]) := by
  have h1 : m - cur.length = (m - (cur ++ [x]).length) + 1 := by simp; omega
  unfold outS
  rw [h1, List.append_assoc, List.set_append_right _ _ (Nat.le_refl _), Nat.sub_self, List.replicate_succ]
  simp [List.append_assoc]
theorem outS_end (L : List (List Bool)) (m i : Nat) (hi : i < L.length) (hc : (allP (L.take (i + 1))).length ≤ m) : (outS L m i (allP (L.take (i + 1)))).set (m + i) ((allP (L.take (i + 1))).length : Int) = outS L m (i + 1) (allP (L.take (i + 1))) := by
  have h1 : L.length - i = (L.length - (i + 1)) + 1 := by omega
  have h2 : (allP (L.take (i + 1)) ++ List.replicate (m - (allP (L.take (i + 1))).length) (0 : Int)).length = m := by simp; omega
  unfold outS
  rw [List.set_append_right _ _ (by omega), h2, endsP_succ, h1, List.replicate_succ]
  rw [show m + i - m = (endsP L i).length by rw [endsP_len]; omega, List.set_append_right _ _ (Nat.le_refl _), Nat.sub_self]
  simp [List.append_assoc]
theorem outS_done (L : List (List Bool)) (most : Int) (h : packOk L most) : packB L most = some (outS L most.toNat L.length (allP L)) := by
  simp [packB, h, outS]
theorem outS_0 (L : List (List Bool)) (m : Nat) : outS L m 0 (allP (L.take 0)) = List.replicate (m + L.length) 0 := by
  simp [outS, allP, endsP, List.replicate_append_replicate]
/-! ### Back -/
/-- A list of 256, true at these places. -/
def mkL (seg : List Int) : List Bool := seg.foldl (fun l p => l.set p.toNat true) (List.replicate 256 false)
theorem mkL_snoc (seg : List Int) (p : Int) : mkL (seg ++ [p]) = (mkL seg).set p.toNat true := by
  unfold mkL
  rw [List.foldl_append]
  rfl
theorem mkL_len (seg : List Int) : (mkL seg).length = 256 := by
  suffices ∀ l : List Bool, l.length = 256 → (seg.foldl (fun l p => l.set p.toNat true) l).length = 256 by
    exact this _ List.length_replicate
  induction seg with
  | nil => exact fun l h => h
  | cons p seg ih => exact fun l h => ih _ (by simpa using h)
theorem mkL_get (seg : List Int) (h : ∀ p ∈ seg, 0 ≤ p ∧ p < 256) (j : Nat) (hj : j < 256) : (mkL seg).getD j false = decide ((j : Int) ∈ seg) := by
  suffices ∀ l : List Bool, l.length = 256 → (seg.foldl (fun l p => l.set p.toNat true) l).getD j false = (l.getD j false || decide ((j : Int) ∈ seg)) by
    have e := this (List.replicate 256 false) List.length_replicate
    unfold mkL
    rw [e, List.getD_eq_getElem?_getD, List.getElem?_replicate]
    simp [hj]
  induction seg with
  | nil => exact fun l _ => by simp
  | cons p seg ih =>
    intro l hl
    have hp := h p (by simp)
    rw [List.foldl_cons, ih (fun q hq => h q (by simp [hq])) _ (by simpa using hl)]
    simp only [List.getD_eq_getElem?_getD, List.getElem?_set, List.mem_cons]
    by_cases e : p.toNat = j
    · have e2 : (j : Int) = p := by omega
      simp [e, e2, hl, hj]
    · have e2 : ¬ (j : Int) = p := by omega
      simp [e, e2]
theorem plc_mem : ∀ (l : List Bool) (i : Nat) (x : Int), x ∈ plc i l ↔ ∃ k, k < l.length ∧ x = ((i + k : Nat) : Int) ∧ l.getD k false = true
  | [], i, x => by simp [plc]
  | b :: l, i, x => by
    simp only [plc, List.mem_append, plc_mem l (i + 1) x]
    constructor
    · rintro (h | ⟨k, h1, h2, h3⟩)
      · cases b with
        | false => simp at h
        | true => simp at h; exact ⟨0, by simp, by simpa using h, rfl⟩
      · exact ⟨k + 1, by simpa using h1, by rw [h2]; congr 1; omega, by simpa using h3⟩
    · rintro ⟨k, h1, h2, h3⟩
      cases k with
      | zero =>
        left
        have : b = true := by simpa using h3
        simp [this, h2]
      | succ k =>
        exact .inr ⟨k, by simpa using h1, by rw [h2]; congr 1; omega, by simpa using h3⟩
/-- Rising. -/
def Up (l : List Int) : Prop := l.Pairwise (· < ·)
theorem plc_up : ∀ (l : List Bool) (i : Nat), Up (plc i l)
  | [], i => .nil
  | b :: l, i => by
    unfold Up plc
    refine List.pairwise_append.2 ⟨by split <;> simp, plc_up l (i + 1), fun x hx y hy => ?_⟩
    obtain ⟨k, _, h2, _⟩ := (plc_mem l (i + 1) y).1 hy
    cases b with
    | false => simp at hx
    | true => simp at hx; omega
theorem up_ext : ∀ (a b : List Int), Up a → Up b → (∀ x, x ∈ a ↔ x ∈ b) → a = b
  | [], [], _, _, _ => rfl
  | [], y :: b, _, _, h => by have := (h y).2 (by simp); simp at this
  | x :: a, [], _, _, h => by have := (h x).1 (by simp); simp at this
  | x :: a, y :: b, ha, hb, h => by
    obtain ⟨ha1, ha2⟩ := List.pairwise_cons.1 ha
    obtain ⟨hb1, hb2⟩ := List.pairwise_cons.1 hb
    have hxy : x = y := by
      have h1 := (h x).1 (by simp)
      have h2 := (h y).2 (by simp)
      rcases List.mem_cons.1 h1 with h1 | h1
      · exact h1
      · rcases List.mem_cons.1 h2 with h2 | h2
        · exact h2.symm
        · have := ha1 y h2
          have := hb1 x h1
          omega
    subst hxy
    congr 1
    refine up_ext a b ha2 hb2 fun z => ⟨fun hz => ?_, fun hz => ?_⟩
    · rcases List.mem_cons.1 ((h z).1 (by simp [hz])) with e | e
      · have := ha1 z hz; omega
      · exact e
    · rcases List.mem_cons.1 ((h z).2 (by simp [hz])) with e | e
      · have := hb1 z hz; omega
      · exact e
/-- A rising list of places, made true and read again. -/
theorem plc_mkL (seg : List Int) (hu : Up seg) (h : ∀ p ∈ seg, 0 ≤ p ∧ p < 256) : plc 0 (mkL seg) = seg := by
  refine up_ext _ _ (plc_up _ _) hu fun x => ?_
  rw [plc_mem, mkL_len]
  constructor
  · rintro ⟨k, h1, h2, h3⟩
    rw [mkL_get seg h k h1] at h3
    rw [h2, Nat.zero_add]
    simpa using h3
  · intro hx
    have := h x hx
    refine ⟨x.toNat, by omega, by omega, ?_⟩
    rw [mkL_get seg h _ (by omega), show ((x.toNat : Nat) : Int) = x by omega]
    simpa using hx
theorem mkL_plc (l : List Bool) (hl : l.length = 256) : mkL (plc 0 l) = l := by
  have hb : ∀ p ∈ plc 0 l, 0 ≤ p ∧ p < 256 := fun p hp => by
    obtain ⟨k, h1, h2, _⟩ := (plc_mem l 0 p).1 hp
    omega
  refine List.ext_getElem (by rw [mkL_len, hl]) fun j h1 h2 => ?_
  have e := mkL_get (plc 0 l) hb j (by omega)
  rw [List.getD_eq_getElem?_getD, List.getElem?_eq_getElem h1] at e
  have e2 : decide ((j : Int) ∈ plc 0 l) = l[j] := by
    rw [Bool.eq_iff_iff, decide_eq_true_iff, plc_mem]
    constructor
    · rintro ⟨k, h3, h4, h5⟩
      obtain rfl : k = j := by omega
      simpa [List.getD_eq_getElem?_getD, h3] using h5
    · intro h
      exact ⟨j, by omega, by omega, by simpa [List.getD_eq_getElem?_getD, h2] using h⟩
  rw [← e2]
  simpa using e
end Go.Proofs.Ytbkbdnlolfaneaa.PRound
