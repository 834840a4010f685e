/- A log on a disk that may go down: what appending does, and what is there behind a crash, in plain words. -/
import Derived.Test.YtgfpibojgkleiaaNWl9
import Derived.Test.YtgfpibojgkleiaaNWlA
namespace Go.Proofs.Ytgfpibojgkleiaa.NWl
open Go Go.RowKit Go.Proofs.Ytgfpibojgkleiaa.MX Go.Proofs.Ytgfpibojgkleiaa.PWal Go.Proofs.Ytgfpibojgkleiaa.NPl
set_option linter.unusedVariables false
set_option linter.unusedSimpArgs false
set_option linter.unusedVariables false
/-- So many sectors were written (the disk may be down since). -/
structure Wr2 (p q : Pl) (at_ : Nat) (sec : Nat → List Int) (n : Nat) : Prop where
  nn : q.n = p.n
  nl : q.now.length = p.now.length
  sf : q.safe = p.safe
  lo : q.loose = p.loose ++ (List.range n).map (fun i => (at_ + i, sec i))
  now : ∀ j, nowAt q j = if at_ ≤ j ∧ j < at_ + n then sec (j - at_) else nowAt p j
theorem Wrd.two {p q : Pl} {at_ : Nat} {sec : Nat → List Int} {n : Nat} (h : Wrd p q at_ sec n) : Wr2 p q at_ sec n := ⟨h.nn, h.nl, h.sf, h.lo, h.now⟩
theorem stepP_armed {p : Pl} (hd : p.down = false) (hl : 0 < p.left) : stepP p = ({ p with left := p.left - 1 }, true) := by
  rw [stepP, if_pos hl, hd]
  rfl
theorem stepP_last {p : Pl} (hl : p.left = 0) : stepP p = ({ p with down := true }, false) := by
  rw [stepP, if_neg (by omega), if_pos hl]
theorem writeP_armed {p : Pl} {i : Nat} {b : List Int} (hd : p.down = false) (hl : 0 < p.left) (hi : i < p.n) (hb : b.length = 64) : writeP p i b = ({ p with left := p.left - 1, now := p.now.set i b, loose := p.loose ++ [(i, b)] }, 0) := by
  have ht : thereP p i = 0 := by rw [thereP, if_neg (by simp [hd]), if_neg (by omega)]
  rw [writeP, if_neg (by simp [ht]), if_neg (by simp [hb]), if_neg (by rw [stepP_armed hd hl]; simp), stepP_armed hd hl]
  rfl
theorem writeP_last {p : Pl} {i : Nat} {b : List Int} (hd : p.down = false) (hl : p.left = 0) (hi : i < p.n) (hb : b.length = 64) : writeP p i b = ({ p with down := true }, 50) := by
  have ht : thereP p i = 0 := by rw [thereP, if_neg (by simp [hd]), if_neg (by omega)]
  rw [writeP, if_neg (by simp [ht]), if_neg (by simp [hb]), if_pos (by rw [stepP_last hl]), stepP_last hl]
/-- An armed disk: so many writes are done as are left. -/
theorem wrs_armed {p : Pl} {at_ : Nat} {sec : Nat → List Int} (hd : p.down = false) (hl : 0 ≤ p.left) (hnl : p.now.length = p.n) : ∀ n, at_ + n ≤ p.n → (∀ i, i < n → (sec i).length = 64) →
    ((n : Int) ≤ p.left ∧ (wrsP p at_ sec n).2 = 0 ∧ Wr2 p (wrsP p at_ sec n).1 at_ sec n ∧ (wrsP p at_ sec n).1.left = p.left - n ∧ (wrsP p at_ sec n).1.down = false) ∨
    (p.left < (n : Int) ∧ (wrsP p at_ sec n).2 = 50 ∧ Wr2 p (wrsP p at_ sec n).1 at_ sec p.left.toNat ∧ (wrsP p at_ sec n).1.down = true ∧ (wrsP p at_ sec n).1.left = 0)
  | 0, _, _ => .inl ⟨hl, rfl, (Wrd.zero p at_ sec).two, by simp [wrsP], hd⟩
  | n + 1, h, hs => by
    rcases wrs_armed (at_ := at_) (sec := sec) hd hl hnl n (by omega) (fun i hi => hs i (by omega)) with ⟨h1, h2, h3, h4, h5⟩ | ⟨h1, h2, h3, h4, h5⟩
    · have e : wrsP p at_ sec (n + 1) = writeP (wrsP p at_ sec n).1 ((at_ + n : Nat) : Int) (sec n) := by
        simp only [wrsP]
        rw [h2]
        rfl
      by_cases hz : p.left = n
      · have hw := writeP_last (p := (wrsP p at_ sec n).1) (i := at_ + n) (b := sec n) h5 (by rw [h4]; omega) (by rw [h3.nn]; omega) (hs n (by omega))
        rw [e, hw]
        refine .inr ⟨by omega, rfl, ?_, rfl, by show (wrsP p at_ sec n).1.left = 0; rw [h4]; omega⟩
        rw [show p.left.toNat = n by omega]
        exact ⟨h3.nn, h3.nl, h3.sf, h3.lo, h3.now⟩
      · have hw := writeP_armed (p := (wrsP p at_ sec n).1) (i := at_ + n) (b := sec n) h5 (by rw [h4]; omega) (by rw [h3.nn]; omega) (hs n (by omega))
        rw [e, hw]
        have h6 : Wrd (wrsP p at_ sec n).1 (wrsP p at_ sec n).1 at_ sec 0 := Wrd.zero _ _ _
        refine .inl ⟨by omega, rfl, ⟨h3.nn, by show (List.set _ _ _).length = _; rw [List.length_set, h3.nl], h3.sf, ?_, fun j => ?_⟩, by show (wrsP p at_ sec n).1.left - 1 = _; rw [h4]; omega, h5⟩
        · show (wrsP p at_ sec n).1.loose ++ [(at_ + n, sec n)] = _
          rw [h3.lo, List.range_succ, List.map_append, List.append_assoc]
          rfl
        · have e2 := nowAt_set (p := (wrsP p at_ sec n).1) (i := at_ + n) (j := j) (s := sec n) (by rw [h3.nl, hnl]; omega)
          show nowAt { (wrsP p at_ sec n).1 with now := (wrsP p at_ sec n).1.now.set (at_ + n) (sec n) } j = _
          rw [e2, h3.now j]
          by_cases hj : at_ + n = j
          · rw [if_pos hj, if_pos (by omega), show j - at_ = n by omega]
          · rw [if_neg hj]
            by_cases hj2 : at_ ≤ j ∧ j < at_ + n
            · rw [if_pos hj2, if_pos (by omega)]
            · rw [if_neg hj2, if_neg (by omega)]
    · rw [wrsP_stuck (k := n) (by rw [h2]; decide) (n + 1) (by omega)]
      exact .inr ⟨by omega, h2, h3, h4, h5⟩
/-- What is safe behind writes one behind the other, some of which are kept. -/
theorem rev_rng {k : Nat → Bool} {at_ n : Nat} {sec : Nat → List Int} {s : List (List Int)} (hs : at_ + n ≤ s.length) : ∀ j, j ≤ n → ∀ x, (revS k ((List.range n).map (fun i => (at_ + i, sec i))) s j).getD x [] = if (at_ ≤ x ∧ x < at_ + j) ∧ k (x - at_) = true then sec (x - at_) else s.getD x []
  | 0, _, x => by rw [if_neg (by omega)]; rfl
  | j + 1, hj, x => by
    have ih := rev_rng (k := k) (sec := sec) hs j (by omega) x
    have hat : ((List.range n).map (fun i => (at_ + i, sec i)))[j]? = some (at_ + j, sec j) := by
      rw [List.getElem?_map, List.getElem?_range (by omega)]
      rfl
    cases hk : k j with
    | true =>
      rw [revS_some hat hk, List.getD_eq_getElem?_getD, List.getElem?_set]
      dsimp only
      by_cases hx : at_ + j = x
      · rw [if_pos hx, if_pos (by rw [revS_len]; omega), if_pos ⟨by omega, by rw [show x - at_ = j by omega]; exact hk⟩, show x - at_ = j by omega]
        rfl
      · rw [if_neg hx, ← List.getD_eq_getElem?_getD, ih]
        by_cases h2 : (at_ ≤ x ∧ x < at_ + j) ∧ k (x - at_) = true
        · rw [if_pos h2, if_pos ⟨by omega, h2.2⟩]
        · rw [if_neg h2, if_neg (fun h3 => h2 ⟨by omega, h3.2⟩)]
    | false =>
      rw [revS_not hk, ih]
      by_cases h2 : (at_ ≤ x ∧ x < at_ + j) ∧ k (x - at_) = true
      · rw [if_pos h2, if_pos ⟨by omega, h2.2⟩]
      · rw [if_neg h2, if_neg (fun h3 => h2 ⟨by
          have h4 : x ≠ at_ + j := fun e => by
            rw [e, show at_ + j - at_ = j by omega, hk] at h3
            cases h3.2
          omega, h3.2⟩)]
end Go.Proofs.Ytgfpibojgkleiaa.NWl
