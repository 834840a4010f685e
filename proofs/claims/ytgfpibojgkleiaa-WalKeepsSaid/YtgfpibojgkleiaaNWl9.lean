/- Records laid in sectors, and what may stand behind them, in plain words. -/
import Derived.Test.YtgfpibojgkleiaaNWl8
namespace Go.Proofs.Ytgfpibojgkleiaa.NWl
open Go Go.RowKit Go.Proofs.Ytgfpibojgkleiaa.MX Go.Proofs.Ytgfpibojgkleiaa.PWal Go.Proofs.Ytgfpibojgkleiaa.NPl
set_option linter.unusedVariables false
set_option linter.unusedSimpArgs false
set_option linter.unusedVariables false
def recAt (S : Nat → List Int) (at_ gen op nx : Nat) (b : List Int) : Prop := ∀ i, i < needs b.length → S (at_ + i) = secB gen op nx b i
theorem needs_le {n : Nat} (h : n ≤ 65536) : needs n ≤ 1366 := by unfold needs; omega
theorem rdS_secB {gen op nx : Nat} {b : List Int} {i : Nat} (h1 : gen < 4294967296) (h2 : op < 4294967296) (h3 : nx < 4294967296) (hb : b.length ≤ 65536) (hi : i < needs b.length) : rdS (secB gen op nx b i) = ⟨gen, op, nx, i, needs b.length - 1, partB b i⟩ := by
  have := needs_le hb
  exact rdS_secN h1 h2 h3 (by omega) (by omega)
theorem parts_join (b : List Int) : ∀ n, n ≤ needs b.length → ((List.range n).map (partB b)).flatten = (bodyB b).take (48 * n)
  | 0, _ => by simp
  | n + 1, h => by
    rw [List.range_succ, List.map_append, List.flatten_append, parts_join b n (by omega)]
    have e : ([n].map (partB b)).flatten = ((bodyB b).take ((n + 1) * 48)).drop (n * 48) := by simp [partB]
    rw [e, show 48 * (n + 1) = (n + 1) * 48 by omega, show 48 * n = n * 48 by omega]
    have h2 := List.take_append_drop (n * 48) ((bodyB b).take ((n + 1) * 48))
    rw [List.take_take, show min (n * 48) ((n + 1) * 48) = n * 48 by omega] at h2
    exact h2
theorem bodyTo_rec {S : Nat → List Int} {at_ gen op nx : Nat} {b : List Int} (h1 : gen < 4294967296) (h2 : op < 4294967296) (h3 : nx < 4294967296) (hb : b.length ≤ 65536) (h : recAt S at_ gen op nx b) : bodyTo S at_ (needs b.length) = bodyB b := by
  have e : (List.range (needs b.length)).map (fun i => (rdS (S (at_ + i))).body) = (List.range (needs b.length)).map (partB b) := List.map_congr_left fun i hi => by
    have hi := List.mem_range.1 hi
    rw [h i hi, rdS_secB h1 h2 h3 hb hi]
  rw [bodyTo, e, parts_join b _ (Nat.le_refl _), List.take_of_length_le (by rw [bodyB_len]; exact Nat.le_refl _)]
theorem body_len4 (b : List Int) (h : b.length < 4294967296) : numS ((bodyB b).take 4) = b.length := by
  have e : (bodyB b).take 4 = be b.length 4 := by
    unfold bodyB
    rw [List.append_assoc, List.take_append_of_le_length (by rw [be_len]; omega), List.take_of_length_le (by rw [be_len]; omega)]
  rw [e, numS_be 4 _ (by simpa using h)]
theorem body_mid (b : List Int) : ((bodyB b).take (4 + b.length)).drop 4 = b := by
  unfold bodyB
  rw [List.append_assoc]
  exact cut_mid (be b.length 4) b _ (be_len _ _) rfl
theorem body_end (b : List Int) : noughts ((bodyB b).drop (4 + b.length)) = true := by
  have e : (bodyB b).drop (4 + b.length) = List.replicate (48 * needs b.length - (4 + b.length)) 0 := by
    unfold bodyB
    rw [List.drop_append, List.drop_eq_nil_of_le (by simp [be_len]), show 4 + b.length - (be b.length 4 ++ b).length = 0 by simp [be_len]]
    simp
  rw [e, noughts, List.all_eq_true]
  intro x hx
  rw [List.eq_of_mem_replicate hx]
  rfl
/-- A record that is laid is taken. -/
theorem take_rec {S : Nat → List Int} {to at_ gen op nx low : Nat} {b : List Int} (h1 : gen < 4294967296) (h2 : op < 4294967296) (h3 : nx < 4294967296) (hb : b.length ≤ 65536) (h : recAt S at_ gen op nx b) (hto : at_ + needs b.length ≤ to) (hlow : max low 1 ≤ op) : takeP S to at_ gen nx low = some (b, op) := by
  have hnd := needs_bd b.length
  have hf : rdS (S at_) = ⟨gen, op, nx, 0, needs b.length - 1, partB b 0⟩ := by
    have := h 0 (by omega)
    rw [Nat.add_zero] at this
    rw [this, rdS_secB h1 h2 h3 hb (by omega)]
  have hbody : bodyTo S at_ (needs b.length - 1 + 1) = bodyB b := by rw [show needs b.length - 1 + 1 = needs b.length by omega]; exact bodyTo_rec h1 h2 h3 hb h
  unfold takeP
  dsimp only
  rw [hf]
  dsimp only
  rw [if_neg (by omega), if_neg, hbody, body_len4 b (by omega), if_neg, body_mid]
  · intro hx
    rcases hx with hx | hx | hx
    · omega
    · omega
    · rw [body_end] at hx
      cases hx
  · intro hx
    apply hx
    intro i hi
    have := h (i + 1) (by omega)
    unfold partOk
    rw [this, rdS_secB h1 h2 h3 hb (by omega)]
    exact ⟨rfl, rfl, rfl, rfl, rfl⟩
/-- Records laid one behind the other. -/
def laid (S : Nat → List Int) (gen : Nat) : List (List Int × Nat) → Nat → Nat → Nat → Nat → Prop
  | [], at_, nx, low, e => e = at_
  | (b, o) :: rs, at_, nx, low, e => b.length ≤ 65536 ∧ max low 1 ≤ o ∧ o < 4294967296 ∧ recAt S at_ gen o nx b ∧ laid S gen rs (at_ + needs b.length) (nx + 1) o e
def lastOp (low : Nat) : List (List Int × Nat) → Nat
  | [] => low
  | (_, o) :: rs => lastOp o rs
theorem laid_le {S : Nat → List Int} {gen : Nat} : ∀ {rs : List (List Int × Nat)} {at_ nx low e : Nat}, laid S gen rs at_ nx low e → at_ + rs.length ≤ e
  | [], at_, nx, low, e, h => by rw [show e = at_ from h]; simp
  | (b, o) :: rs, at_, nx, low, e, h => by
    have := laid_le h.2.2.2.2
    have hnd := needs_bd b.length
    simp only [List.length_cons]
    omega
theorem laid_congr {S S' : Nat → List Int} {gen : Nat} : ∀ {rs : List (List Int × Nat)} {at_ nx low e : Nat}, laid S gen rs at_ nx low e → (∀ i, at_ ≤ i → i < e → S' i = S i) → laid S' gen rs at_ nx low e
  | [], at_, nx, low, e, h, _ => h
  | (b, o) :: rs, at_, nx, low, e, h, hs => by
    have hle := laid_le h.2.2.2.2
    refine ⟨h.1, h.2.1, h.2.2.1, fun i hi => ?_, laid_congr h.2.2.2.2 (fun i h1 h2 => hs i (by omega) h2)⟩
    rw [hs (at_ + i) (by omega) (by omega)]
    exact h.2.2.2.1 i hi
theorem laid_snoc {S : Nat → List Int} {gen : Nat} {b : List Int} {op : Nat} : ∀ {rs : List (List Int × Nat)} {at_ nx low e : Nat}, laid S gen rs at_ nx low e → b.length ≤ 65536 → max (lastOp low rs) 1 ≤ op → op < 4294967296 → recAt S e gen op (nx + rs.length) b → laid S gen (rs ++ [(b, op)]) at_ nx low (e + needs b.length)
  | [], at_, nx, low, e, h, hb, ho, ho2, hr => by
    obtain rfl : e = at_ := h
    exact ⟨hb, ho, ho2, hr, rfl⟩
  | (b', o) :: rs, at_, nx, low, e, h, hb, ho, ho2, hr => ⟨h.1, h.2.1, h.2.2.1, h.2.2.2.1, laid_snoc h.2.2.2.2 hb ho ho2 (by rw [show nx + 1 + rs.length = nx + ((b', o) :: rs).length by simp; omega]; exact hr)⟩
theorem lastOp_snoc {b : List Int} {op : Nat} : ∀ (rs : List (List Int × Nat)) (low : Nat), lastOp low (rs ++ [(b, op)]) = op
  | [], _ => rfl
  | (_, o) :: rs, _ => lastOp_snoc rs o
theorem scan_laid {S : Nat → List Int} {gen to : Nat} (hg : gen < 4294967296) : ∀ {rs : List (List Int × Nat)} {at_ nx low e : Nat}, laid S gen rs at_ nx low e → e ≤ to → nx + rs.length < 4294967296 → (e < to → takeP S to e gen (nx + rs.length) (lastOp low rs) = none) → scan S to gen (to - at_) at_ nx low = (rs.map (·.1), e, nx + rs.length)
  | [], at_, nx, low, e, h, he, hn, ht => by
    obtain rfl : e = at_ := h
    exact scan_none ht
  | (b, o) :: rs, at_, nx, low, e, h, he, hn, ht => by
    have hle := laid_le h.2.2.2.2
    have hnd := needs_bd b.length
    simp only [List.length_cons] at hn ht ⊢
    have h1 := take_rec (to := to) (low := low) hg h.2.2.1 (by omega) h.1 h.2.2.2.1 (by omega) h.2.1
    rw [scan_some (by omega) h1, scan_laid hg h.2.2.2.2 he (by omega) (by rw [show nx + 1 + rs.length = nx + (rs.length + 1) by omega]; exact ht)]
    simp
    omega
/-- All of a record of this opening is there. -/
def whole (S : Nat → List Int) (to at_ gen nx o : Nat) : Prop :=
  (rdS (S at_)).gen = gen ∧ (rdS (S at_)).num = nx ∧ (rdS (S at_)).op = o ∧ (rdS (S at_)).place = 0 ∧ at_ + (rdS (S at_)).last < to ∧ ∀ i, i < (rdS (S at_)).last → partOk S (rdS (S at_)) at_ gen nx (i + 1)
theorem take_none {S : Nat → List Int} {to at_ gen nx low : Nat} (h : ∀ o, ¬ whole S to at_ gen nx o) : takeP S to at_ gen nx low = none := by
  unfold takeP
  dsimp only
  by_cases h1 : (rdS (S at_)).gen ≠ gen ∨ (rdS (S at_)).num ≠ nx ∨ (rdS (S at_)).op < max low 1 ∨ (rdS (S at_)).place ≠ 0 ∨ to ≤ at_ + (rdS (S at_)).last
  · rw [if_pos h1]
  · rw [if_neg h1, if_pos]
    intro h2
    exact h _ ⟨by omega, by omega, rfl, by omega, by omega, h2⟩
/-- What stands behind the records. -/
structure Beh (S : Nat → List Int) (to gen at_ nx : Nat) : Prop where
  num : ∀ i, at_ ≤ i → i < to → (rdS (S i)).gen = gen → (rdS (S i)).num ≤ nx ∧ (rdS (S i)).place ≤ (rdS (S i)).last
  nwh : ∀ o, ¬ whole S to at_ gen nx o
/-- Nothing there of this record and opening. -/
def fresh (S : Nat → List Int) (to gen at_ nx op : Nat) : Prop := ∀ i, at_ ≤ i → i < to → (rdS (S i)).gen = gen → (rdS (S i)).num = nx → (rdS (S i)).op ≠ op
theorem topTo_le {S : Nat → List Int} {gen from_ : Nat} : ∀ {m i : Nat}, i < m → (rdS (S (from_ + i))).gen = gen → 0 < (rdS (S (from_ + i))).num → (rdS (S (from_ + i))).place ≤ (rdS (S (from_ + i))).last → (rdS (S (from_ + i))).op ≤ topTo S gen from_ m
  | 0, i, h, _, _, _ => by omega
  | m + 1, i, h, h1, h2, h3 => by
    simp only [topTo]
    by_cases hi : i = m
    · subst hi
      rw [if_pos ⟨h1, h2, h3⟩]
      exact Nat.le_max_right _ _
    · have := topTo_le (m := m) (i := i) (by omega) h1 h2 h3
      split
      · exact Nat.le_trans this (Nat.le_max_left _ _)
      · exact this
theorem fresh_open {S : Nat → List Int} {to gen at_ nx from_ : Nat} (h : Beh S to gen at_ nx) (hf : from_ ≤ at_) (hn : 0 < nx) : fresh S to gen at_ nx (topTo S gen from_ (to - from_) + 1) := fun i h1 h2 hg hx => by
  have := topTo_le (S := S) (gen := gen) (from_ := from_) (m := to - from_) (i := i - from_) (by omega) (by rw [show from_ + (i - from_) = i by omega]; exact hg) (by rw [show from_ + (i - from_) = i by omega]; omega) (by rw [show from_ + (i - from_) = i by omega]; exact (h.num i h1 h2 hg).2)
  rw [show from_ + (i - from_) = i by omega] at this
  omega
/-- Behind one more record. -/
theorem Beh.next {S S' : Nat → List Int} {to gen at_ nx n op : Nat} (h : Beh S to gen at_ nx) (hs : ∀ i, at_ + n ≤ i → i < to → S' i = S i) : Beh S' to gen (at_ + n) (nx + 1) ∧ fresh S' to gen (at_ + n) (nx + 1) op := by
  have key : ∀ i, at_ + n ≤ i → i < to → (rdS (S' i)).gen = gen → (rdS (S' i)).num ≤ nx ∧ (rdS (S' i)).place ≤ (rdS (S' i)).last := fun i h1 h2 hg => by
    rw [hs i h1 h2] at hg ⊢
    exact h.num i (by omega) h2 hg
  refine ⟨⟨fun i h1 h2 hg => ?_, fun o hw => ?_⟩, fun i h1 h2 hg hx => ?_⟩
  · have := key i h1 h2 hg
    exact ⟨by omega, this.2⟩
  · have := key (at_ + n) (Nat.le_refl _) (by have := hw.2.2.2.2.1; omega) hw.1
    have := hw.2.1
    omega
  · have := key i h1 h2 hg
    omega
/-- Behind an attempt that was cut off: not all of its sectors are there. -/
theorem Beh.cut {S S' : Nat → List Int} {to gen at_ nx op i0 : Nat} {b : List Int} (h : Beh S to gen at_ nx) (hf : fresh S to gen at_ nx op) (h1 : gen < 4294967296) (h2 : op < 4294967296) (h3 : nx < 4294967296) (hb : b.length ≤ 65536) (hto : at_ + needs b.length ≤ to)
    (hs : ∀ i, i < needs b.length → S' (at_ + i) = S (at_ + i) ∨ S' (at_ + i) = secB gen op nx b i) (ho : ∀ i, at_ + needs b.length ≤ i → i < to → S' i = S i) (hi0 : i0 < needs b.length) (h0 : S' (at_ + i0) = S (at_ + i0)) : Beh S' to gen at_ nx := by
  have hrd : ∀ i, at_ ≤ i → i < to → S' i = S i ∨ (i < at_ + needs b.length ∧ rdS (S' i) = ⟨gen, op, nx, i - at_, needs b.length - 1, partB b (i - at_)⟩) := fun i hi1 hi2 => by
    by_cases hi : i < at_ + needs b.length
    · have := hs (i - at_) (by omega)
      rw [show at_ + (i - at_) = i by omega] at this
      rcases this with e | e
      · exact .inl e
      · exact .inr ⟨hi, by rw [e, rdS_secB h1 h2 h3 hb (by omega)]⟩
    · exact .inl (ho i (by omega) hi2)
  refine ⟨fun i hi1 hi2 hg => ?_, fun o hw => ?_⟩
  · rcases hrd i hi1 hi2 with e | ⟨hi, e⟩
    · rw [e] at hg ⊢
      exact h.num i hi1 hi2 hg
    · rw [e]
      exact ⟨Nat.le_refl _, by dsimp only; omega⟩
  · obtain ⟨w1, w2, w3, w4, w5, w6⟩ := hw
    have hall : ∀ i, i ≤ (rdS (S' at_)).last → (rdS (S' (at_ + i))).gen = gen ∧ (rdS (S' (at_ + i))).num = nx ∧ (rdS (S' (at_ + i))).op = o := fun i hi => by
      cases i with
      | zero => exact ⟨w1, w2, w3⟩
      | succ i =>
        have := w6 i (by omega)
        exact ⟨this.1, this.2.2.1, this.2.1.trans w3⟩
    by_cases hop : o = op
    · subst hop
      have hnew : ∀ i, i ≤ (rdS (S' at_)).last → at_ + i < at_ + needs b.length ∧ rdS (S' (at_ + i)) = ⟨gen, o, nx, at_ + i - at_, needs b.length - 1, partB b (at_ + i - at_)⟩ := fun i hi => by
        rcases hrd (at_ + i) (by omega) (by omega) with e | e
        · exfalso
          obtain ⟨a1, a2, a3⟩ := hall i hi
          rw [e] at a1 a2 a3
          exact hf (at_ + i) (by omega) (by omega) a1 a2 a3
        · exact e
      have hl : (rdS (S' at_)).last = needs b.length - 1 := by
        have := (hnew 0 (Nat.zero_le _)).2
        rw [Nat.add_zero] at this
        rw [this]
      obtain ⟨a1, a2, a3⟩ := hall i0 (by omega)
      rw [h0] at a1 a2 a3
      exact hf (at_ + i0) (by omega) (by omega) a1 a2 a3
    · have hold : ∀ i, i ≤ (rdS (S' at_)).last → S' (at_ + i) = S (at_ + i) := fun i hi => by
        rcases hrd (at_ + i) (by omega) (by omega) with e | ⟨_, e⟩
        · exact e
        · exfalso
          have := (hall i hi).2.2
          rw [e] at this
          exact hop this.symm
      have hz := hold 0 (Nat.zero_le _)
      rw [Nat.add_zero] at hz
      refine h.nwh o ⟨by rw [← hz]; exact w1, by rw [← hz]; exact w2, by rw [← hz]; exact w3, by rw [← hz]; exact w4, by rw [← hz]; exact w5, fun i hi => ?_⟩
      rw [← hz] at hi ⊢
      have := w6 i hi
      unfold partOk at this ⊢
      rw [← hold (i + 1) (by omega)]
      exact this
end Go.Proofs.Ytgfpibojgkleiaa.NWl
