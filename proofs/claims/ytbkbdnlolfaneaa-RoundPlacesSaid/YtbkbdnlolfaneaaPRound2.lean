/- Bytes as lists of hints: the program's way and the document's are one, and both undo what was packed. No program in sight. -/
import Derived.Test.YtbkbdnlolfaneaaPRound
namespace Go.Proofs.Ytbkbdnlolfaneaa.PRound
set_option linter.unusedVariables false
/-- Where the i-th list ends, by the bytes; where it begins; its bytes. -/
def endU (b : List Int) (m i : Nat) : Nat := (b.getD (m + i) 0).toNat
def fromU (b : List Int) (m : Nat) : Nat → Nat
  | 0 => 0
  | i + 1 => endU b m i
def segU (b : List Int) (m i : Nat) : List Int := (b.take (endU b m i)).drop (fromU b m i)
def segR (b : List Int) (m i : Nat) : List Int := (b.take (min (endU b m i) m)).drop (fromU b m i)
def stepOk (b : List Int) (m i : Nat) : Prop := fromU b m i ≤ endU b m i ∧ endU b m i ≤ m ∧ Up (segU b m i)
def unpC (b : List Int) (n m : Int) : Prop := 0 ≤ n ∧ n ≤ 16 ∧ 0 ≤ m ∧ m ≤ 255 ∧ (b.length : Int) = m + n
def unpOk (b : List Int) (n m : Int) : Prop := unpC b n m ∧ (∀ i, i < n.toNat → stepOk b m.toNat i) ∧ ∀ k, fromU b m.toNat n.toNat ≤ k → k < m.toNat → b.getD k 0 = 0
noncomputable instance (b : List Int) (n m : Int) : Decidable (unpOk b n m) := Classical.propDecidable _
noncomputable instance (b : List Int) (n m : Int) : Decidable (unpC b n m) := Classical.propDecidable _
noncomputable def unpB (b : List Int) (n m : Int) : Option (List (List Bool)) := if unpOk b n m then some ((List.range n.toNat).map fun i => mkL (segU b m.toNat i)) else none
def listsR (b : List Int) (n m : Int) : List (List Bool) := (List.range n.toNat).map fun i => mkL (segR b m.toNat i)
noncomputable def unpR (b : List Int) (n m : Int) : Option (List (List Bool)) := if unpC b n m ∧ packB (listsR b n m) m = some b then some (listsR b n m) else none
theorem take_seg (b : List Int) (f e : Nat) (h : f ≤ e) : b.take f ++ (b.take e).drop f = b.take e := by
  have := List.take_append_drop f (b.take e)
  rw [List.take_take, Nat.min_eq_left h] at this
  exact this
theorem unp_packs {b : List Int} {n m : Int} (h : unpOk b n m) (hb : ∀ x ∈ b, 0 ≤ x ∧ x < 256) : packB ((List.range n.toNat).map fun i => mkL (segU b m.toNat i)) m = some b := by
  obtain ⟨⟨h1, h2, h3, h4, h5⟩, h6, h7⟩ := h
  obtain ⟨L, hL⟩ : ∃ L, L = (List.range n.toNat).map fun i => mkL (segU b m.toNat i) := ⟨_, rfl⟩
  rw [← hL]
  have hlen : L.length = n.toNat := by rw [hL]; simp
  have hget : ∀ i (hi : i < L.length), L[i] = mkL (segU b m.toNat i) := fun i hi => by
    subst hL
    simp
  have hall : ∀ i, i ≤ L.length → allP (L.take i) = b.take (fromU b m.toNat i) := fun i => by
    induction i with
    | zero => intro _; simp [allP, fromU]
    | succ i ih =>
      intro hi
      obtain ⟨s1, s2, s3⟩ := h6 i (by omega)
      have hseg : plc 0 (mkL (segU b m.toNat i)) = segU b m.toNat i := plc_mkL _ s3 fun p hp => hb p (List.mem_of_mem_take (List.mem_of_mem_drop hp))
      rw [allP_succ L i (by omega), ih (by omega), hget i (by omega), hseg]
      exact take_seg b _ _ s1
  have hfl : ∀ i, i ≤ L.length → fromU b m.toNat i ≤ m.toNat := fun i hi => by
    cases i with
    | zero => exact Nat.zero_le _
    | succ i => exact (h6 i (by omega)).2.1
  have hfn := hfl L.length (Nat.le_refl _)
  have hA : allP L = b.take (fromU b m.toNat L.length) := by
    have := hall L.length (Nat.le_refl _)
    rwa [List.take_length] at this
  have hAl : (allP L).length = fromU b m.toNat L.length := by rw [hA, List.length_take]; omega
  have hE : endsP L L.length = b.drop m.toNat := by
    refine List.ext_getElem (by rw [endsP_len, List.length_drop]; omega) fun j g1 g2 => ?_
    rw [endsP_len] at g1
    have e1 : (allP (L.take (j + 1))).length = fromU b m.toNat (j + 1) := by
      have := hfl (j + 1) (by omega)
      rw [hall (j + 1) (by omega), List.length_take]
      omega
    have hbd := hb b[m.toNat + j] (List.getElem_mem _)
    have e2 : b.getD (m.toNat + j) 0 = b[m.toNat + j] := by rw [List.getD_eq_getElem?_getD, List.getElem?_eq_getElem]; rfl
    simp only [endsP, List.getElem_map, List.getElem_range, List.getElem_drop, e1, fromU, endU, e2]
    omega
  have hok : packOk L m := by
    refine ⟨h3, h4, by omega, fun l hl => ?_, by omega⟩
    rw [hL] at hl
    obtain ⟨i, _, rfl⟩ := List.mem_map.1 hl
    exact mkL_len _
  have hZ : List.replicate (m.toNat - (allP L).length) 0 = (b.take m.toNat).drop (fromU b m.toNat L.length) := by
    refine List.ext_getElem (by simp; omega) fun j g1 g2 => ?_
    simp only [List.length_replicate] at g1
    have := h7 (fromU b m.toNat L.length + j) (by rw [hlen]; omega) (by omega)
    rw [List.getD_eq_getElem?_getD, List.getElem?_eq_getElem (by omega)] at this
    simp only [List.getElem_replicate, List.getElem_drop, List.getElem_take]
    exact this.symm
  unfold packB
  rw [if_pos hok, hZ, hE, hA, take_seg b _ _ hfn, List.take_append_drop]
theorem pack_unp {L : List (List Bool)} {m : Int} {b : List Int} (h : packB L m = some b) : unpOk b L.length m ∧ ((List.range L.length).map fun i => mkL (segU b m.toNat i)) = L := by
  unfold packB at h
  by_cases hok : packOk L m
  · rw [if_pos hok] at h
    obtain ⟨h1, h2, h3, h4, h5⟩ := hok
    injection h with h
    have hbl : b.length = m.toNat + L.length := by rw [← h]; simp [endsP_len]; omega
    have hend : ∀ i, i < L.length → endU b m.toNat i = (allP (L.take (i + 1))).length := fun i hi => by
      have hl : (allP L ++ List.replicate (m.toNat - (allP L).length) (0 : Int)).length = m.toNat := by simp; omega
      have hp : (endsP L L.length)[i]? = some ((allP (L.take (i + 1))).length : Int) := by
        simp only [endsP, List.getElem?_map, List.getElem?_range hi]
        rfl
      unfold endU
      rw [List.getD_eq_getElem?_getD, ← h, List.getElem?_append_right (by omega), hl, show m.toNat + i - m.toNat = i by omega, hp]
      simp
    have hfrom : ∀ i, i ≤ L.length → fromU b m.toNat i = (allP (L.take i)).length := fun i hi => by
      cases i with
      | zero => simp [fromU, allP]
      | succ i => exact hend i (by omega)
    have htake : ∀ i, i ≤ L.length → b.take (allP (L.take i)).length = allP (L.take i) := fun i hi => by
      have h2 : allP L = allP (L.take i) ++ allP (L.drop i) := by
        conv => lhs; rw [← List.take_append_drop i L]
        simp only [allP, List.flatMap_append]
      rw [← h, h2, List.append_assoc, List.append_assoc, List.take_left']
      rfl
    have hseg : ∀ i (hi : i < L.length), segU b m.toNat i = plc 0 L[i] := fun i hi => by
      unfold segU
      rw [hend i hi, hfrom i (by omega), htake (i + 1) (by omega), allP_succ L i hi, List.drop_left']
      rfl
    have hle : ∀ i, (allP (L.take i)).length ≤ m.toNat := fun i => by have := allP_take_le L i; omega
    refine ⟨⟨⟨by omega, by omega, h1, h2, by omega⟩, fun i hi => ?_, fun k hk1 hk2 => ?_⟩, ?_⟩
    · have hi : i < L.length := by omega
      refine ⟨?_, ?_, ?_⟩
      · rw [hfrom i (by omega), hend i hi, allP_succ L i hi, List.length_append]; omega
      · rw [hend i hi]; exact hle _
      · rw [hseg i hi]; exact plc_up _ _
    · rw [show ((L.length : Int)).toNat = L.length by omega, hfrom L.length (Nat.le_refl _), List.take_length] at hk1
      rw [List.getD_eq_getElem?_getD, ← h, List.getElem?_append_left (by simp; omega), List.getElem?_append_right hk1, List.getElem?_replicate]
      split <;> rfl
    · refine List.ext_getElem (by simp) fun i g1 g2 => ?_
      simp only [List.getElem_map, List.getElem_range]
      rw [hseg i g2]
      exact mkL_plc _ (h4 _ (List.getElem_mem _))
  · rw [if_neg hok] at h
    cases h
theorem unpB_of_pack {L : List (List Bool)} {m : Int} {b : List Int} (h : packB L m = some b) : unpB b L.length m = some L := by
  obtain ⟨h1, h2⟩ := pack_unp h
  unfold unpB
  rw [if_pos h1, show ((L.length : Int)).toNat = L.length by omega, h2]
theorem unpR_eq {b : List Int} {n m : Int} (hb : ∀ x ∈ b, 0 ≤ x ∧ x < 256) : unpR b n m = unpB b n m := by
  by_cases hok : unpOk b n m
  · have hl : listsR b n m = (List.range n.toNat).map fun i => mkL (segU b m.toNat i) := by
      unfold listsR
      refine List.map_congr_left fun i hi => ?_
      have hi : i < n.toNat := List.mem_range.1 hi
      have := (hok.2.1 i hi).2.1
      unfold segR segU
      rw [Nat.min_eq_left this]
    have hp := unp_packs hok hb
    unfold unpR unpB
    rw [hl, if_pos ⟨hok.1, hp⟩, if_pos hok]
  · unfold unpR unpB
    rw [if_neg hok, if_neg]
    rintro ⟨h1, h2⟩
    have h3 := (pack_unp h2).1
    have hlen : (listsR b n m).length = n.toNat := by simp [listsR]
    rw [hlen, show ((n.toNat : Nat) : Int) = n by have := h1.1; omega] at h3
    exact hok h3
theorem packB_of_unp {b : List Int} {n m : Int} {L : List (List Bool)} (hb : ∀ x ∈ b, 0 ≤ x ∧ x < 256) (h : unpB b n m = some L) : packB L m = some b := by
  unfold unpB at h
  by_cases hok : unpOk b n m
  · rw [if_pos hok] at h
    injection h with h
    rw [← h]
    exact unp_packs hok hb
  · rw [if_neg hok] at h
    cases h
end Go.Proofs.Ytbkbdnlolfaneaa.PRound
