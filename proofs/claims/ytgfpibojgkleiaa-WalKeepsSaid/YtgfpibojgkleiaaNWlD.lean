/- Lives of a log: opened, written, cut off, revived, in plain words. -/
import Derived.Test.YtgfpibojgkleiaaNWlC
namespace Go.Proofs.Ytgfpibojgkleiaa.NWl
open Go Go.RowKit Go.Proofs.Ytgfpibojgkleiaa.MX Go.Proofs.Ytgfpibojgkleiaa.PWal Go.Proofs.Ytgfpibojgkleiaa.NPl
set_option linter.unusedVariables false
set_option linter.unusedSimpArgs false
set_option linter.unusedVariables false
/-- Between two lives: these records are laid, and no whole one behind them. -/
structure Js (from_ to gen K : Nat) (q : Pl) (rs : List (List Int × Nat)) (at_ : Nat) : Prop where
  up : Ups q
  lf : q.left < 0
  tn : to ≤ q.n
  ft : from_ < to
  gn : 1 ≤ gen ∧ gen < 2147483648
  ld : laid (nowAt q) gen rs from_ 1 0 at_
  ae : at_ ≤ to
  bh : Beh (nowAt q) to gen at_ (1 + rs.length)
  ops : ∀ i, from_ ≤ i → i < to → (rdS (nowAt q i)).gen = gen → (rdS (nowAt q i)).op ≤ K
/-- In a life. -/
structure Lf (from_ to gen K : Nat) (q : Pl) (l : Lg) (a : La) (rs : List (List Int × Nat)) : Prop where
  up : Ups q
  tn : to ≤ q.n
  ft : from_ < to
  tt : l.to = to
  gn : l.gen = gen ∧ 1 ≤ gen ∧ gen < 2147483648
  op : l.op ≤ K ∧ 1 ≤ l.op
  nx : l.nx = 1 + rs.length
  ll : l.list = rs.map (·.1)
  br : l.broken = false
  ld : laid (nowAt q) gen rs from_ 1 0 l.at_
  lo : lastOp 0 rs ≤ l.op
  ae : l.at_ ≤ to
  bh : Beh (nowAt q) to gen l.at_ l.nx
  fr : fresh (nowAt q) to gen l.at_ l.nx l.op
  ops : ∀ i, from_ ≤ i → i < to → (rdS (nowAt q i)).gen = gen → (rdS (nowAt q i)).op ≤ K
  js : JOk .u8 a.js l.list
theorem topTo_bd {S : Nat → List Int} {gen from_ K : Nat} : ∀ m, (∀ i, i < m → (rdS (S (from_ + i))).gen = gen → (rdS (S (from_ + i))).op ≤ K) → topTo S gen from_ m ≤ K
  | 0, _ => Nat.zero_le _
  | m + 1, h => by
    have ih := topTo_bd m (fun i hi => h i (by omega))
    simp only [topTo]
    split
    · rename_i hx
      have := h m (by omega) hx.1
      omega
    · exact ih
theorem lastOp_top {S : Nat → List Int} {gen from_ to : Nat} (hg : gen < 4294967296) : ∀ {rs : List (List Int × Nat)} {at_ nx low e : Nat}, laid S gen rs at_ nx low e → from_ ≤ at_ → e ≤ to → 0 < nx → nx + rs.length < 4294967296 → low ≤ topTo S gen from_ (to - from_) → lastOp low rs ≤ topTo S gen from_ (to - from_)
  | [], at_, nx, low, e, h, hf, he, hn, hb, hl => hl
  | (b, o) :: rs, at_, nx, low, e, h, hf, he, hn, hb, hl => by
    have hle := laid_le h.2.2.2.2
    have hnd := needs_bd b.length
    simp only [List.length_cons] at hb
    have h0 := h.2.2.2.1 0 (by omega)
    rw [Nat.add_zero] at h0
    have h1 := rdS_secB (gen := gen) (op := o) (nx := nx) (b := b) (i := 0) hg h.2.2.1 (by omega) h.1 (by omega)
    have h2 := topTo_le (S := S) (gen := gen) (from_ := from_) (m := to - from_) (i := at_ - from_) (by omega) (by rw [show from_ + (at_ - from_) = at_ by omega, h0, h1]) (by rw [show from_ + (at_ - from_) = at_ by omega, h0, h1]; exact hn) (by rw [show from_ + (at_ - from_) = at_ by omega, h0, h1]; exact Nat.zero_le _)
    rw [show from_ + (at_ - from_) = at_ by omega, h0, h1] at h2
    show lastOp o rs ≤ _
    exact lastOp_top hg h.2.2.2.2 (by omega) he (by omega) (by omega) h2
/-- The log that is opened. -/
theorem Js.opened {from_ to gen K : Nat} {q : Pl} {rs : List (List Int × Nat)} {at_ : Nat} (h : Js from_ to gen K q rs at_) (a : La) (hj : JOk .u8 a.js (openP (nowAt q) from_ to gen).list) :
    Lf from_ to gen (K + 1) q (openP (nowAt q) from_ to gen) a rs ∧ (openP (nowAt q) from_ to gen).list = rs.map (·.1) ∧ (openP (nowAt q) from_ to gen).at_ = at_ := by
  have h1 := laid_le h.ld
  have h2 := h.up.ok.hi
  have h3 := h.tn
  have h4 := h.ae
  have h5 := h.ft
  have hg := h.gn
  have e := scan_laid (to := to) (by omega) h.ld h4 (by omega) (fun _ => take_none h.bh.nwh)
  have e2 : openP (nowAt q) from_ to gen = ⟨at_, to, gen, topTo (nowAt q) gen from_ (to - from_) + 1, 1 + rs.length, rs.map (·.1), false⟩ := by rw [openP, e]
  have ht := topTo_bd (S := nowAt q) (gen := gen) (from_ := from_) (K := K) (to - from_) (fun i hi hx => h.ops (from_ + i) (by omega) (by omega) hx)
  have hlo := lastOp_top (to := to) (by omega) h.ld (Nat.le_refl _) h4 (by decide) (by omega) (Nat.zero_le _)
  have hfr : fresh (nowAt q) to gen at_ (1 + rs.length) (topTo (nowAt q) gen from_ (to - from_) + 1) := fresh_open h.bh (by omega) (by omega)
  rw [e2] at hj ⊢
  exact ⟨⟨h.up, h3, h5, rfl, ⟨rfl, hg⟩, ⟨by dsimp only; omega, by dsimp only; omega⟩, rfl, rfl, rfl, h.ld, by dsimp only; omega, h4, h.bh, hfr, fun i h1 h2 hx => by have := h.ops i h1 h2 hx; omega, hj⟩, rfl, rfl⟩
theorem Lf.len {from_ to gen K : Nat} {q : Pl} {l : Lg} {a : La} {rs : List (List Int × Nat)} (h : Lf from_ to gen K q l a rs) : rs.length ≤ 16384 ∧ l.list.length = rs.length := by
  have h1 := laid_le h.ld
  have h2 := h.up.ok.hi
  have h3 := h.tn
  have h4 := h.ae
  exact ⟨by omega, by rw [h.ll, List.length_map]⟩
theorem Lf.ok {from_ to gen K : Nat} {q : Pl} {l : Lg} {a : La} {rs : List (List Int × Nat)} (h : Lf from_ to gen K q l a rs) (hK : K ≤ 1000000) : LgOk l ∧ l.op < 4294967296 ∧ l.to ≤ q.n := by
  obtain ⟨h1, h2⟩ := h.len
  have h3 := h.tn
  have h4 := h.up.ok.hi
  have h5 := h.tt
  have h6 := h.gn
  have h7 := h.op
  have h8 := h.nx
  exact ⟨⟨by rw [h5]; exact h.ae, by omega, by omega, by omega, by omega, by omega⟩, by omega, by omega⟩
/-- One more record. -/
theorem Lf.next {from_ to gen K : Nat} {q q' : Pl} {l : Lg} {a : La} {rs : List (List Int × Nat)} {b : List Int} (h : Lf from_ to gen K q l a rs) (hK : K ≤ 1000000) (hbl : b.length ≤ 65536) (hfit : l.at_ + needs b.length ≤ l.to)
    (hu : Ups q') (hn : q'.n = q.n) (hnow : ∀ j, nowAt q' j = if l.at_ ≤ j ∧ j < l.at_ + needs b.length then secB l.gen l.op l.nx b (j - l.at_) else nowAt q j) (a' : La) (hj : JOk .u8 a'.js (l.list ++ [b])) :
    Lf from_ to gen K q' { l with at_ := l.at_ + needs b.length, nx := l.nx + 1, list := l.list ++ [b] } a' (rs ++ [(b, l.op)]) := by
  obtain ⟨h1, h2⟩ := h.len
  obtain ⟨h3, h4, h5⟩ := h.ok hK
  have h6 := h.tt
  have h7 := h.gn
  have h8 := h.nx
  have h9 := h.op
  rw [h7.1] at hnow
  have hnew : ∀ i, i < needs b.length → nowAt q' (l.at_ + i) = secB gen l.op l.nx b i := fun i hi => by rw [hnow, if_pos (by omega), show l.at_ + i - l.at_ = i by omega]
  have hold : ∀ i, (i < l.at_ ∨ l.at_ + needs b.length ≤ i) → nowAt q' i = nowAt q i := fun i hi => by rw [hnow, if_neg (by omega)]
  have hbn := h.bh.next (S' := nowAt q') (n := needs b.length) (op := l.op) (fun i h1 h2 => hold i (.inr h1))
  refine ⟨hu, by rw [hn]; exact h.tn, h.ft, h.tt, h.gn, h.op, by dsimp only; rw [List.length_append, List.length_singleton]; omega, by dsimp only; rw [h.ll]; simp, h.br, ?_, by rw [lastOp_snoc]; exact Nat.le_refl _, by dsimp only; omega, hbn.1, hbn.2, fun i hi1 hi2 hx => ?_, hj⟩
  · refine laid_snoc (laid_congr h.ld (fun i h1 h2 => hold i (.inl h2))) hbl (by have := h.lo; omega) h4 ?_
    rw [← h8]
    exact hnew
  · by_cases hi : l.at_ ≤ i ∧ i < l.at_ + needs b.length
    · have := hnew (i - l.at_) (by omega)
      rw [show l.at_ + (i - l.at_) = i by omega] at this
      rw [this, rdS_secB (by omega) h4 (by omega) hbl (by omega)]
      exact h9.1
    · rw [hold i (by omega)] at hx ⊢
      exact h.ops i hi1 hi2 hx
/-- A life that ends with nothing under way. -/
theorem Lf.close {from_ to gen K : Nat} {q q' : Pl} {l : Lg} {a : La} {rs : List (List Int × Nat)} (h : Lf from_ to gen K q l a rs) (hu : Ups q') (hl : q'.left < 0) (hn : q'.n = q.n) (hnow : ∀ j, nowAt q' j = nowAt q j) : Js from_ to gen K q' rs l.at_ := by
  have e : nowAt q' = nowAt q := funext hnow
  exact ⟨hu, hl, by rw [hn]; exact h.tn, h.ft, h.gn.2, by rw [e]; exact h.ld, h.ae, by rw [e, ← h.nx]; exact h.bh, by rw [e]; exact h.ops⟩
/-- A record cut off: it is there as a whole, or not. -/
theorem Lf.cut {from_ to gen K j : Nat} {q q' : Pl} {l : Lg} {a : La} {rs : List (List Int × Nat)} {b : List Int} {k : Nat → Bool} (h : Lf from_ to gen K q l a rs) (hK : K ≤ 1000000) (hbl : b.length ≤ 65536) (hfit : l.at_ + needs b.length ≤ l.to) (hjn : j ≤ needs b.length)
    (hu : Ups q') (hl : q'.left < 0) (hn : q'.n = q.n) (hnow : ∀ x, nowAt q' x = if (l.at_ ≤ x ∧ x < l.at_ + j) ∧ k (x - l.at_) = true then secB l.gen l.op l.nx b (x - l.at_) else nowAt q x) :
    ((j = needs b.length ∧ ∀ i, i < j → k i = true) → Js from_ to gen K q' (rs ++ [(b, l.op)]) (l.at_ + needs b.length)) ∧ (¬ (j = needs b.length ∧ ∀ i, i < j → k i = true) → Js from_ to gen K q' rs l.at_) := by
  obtain ⟨h1, h2⟩ := h.len
  obtain ⟨h3, h4, h5⟩ := h.ok hK
  have h6 := h.tt
  have h7 := h.gn
  have h8 := h.nx
  have h9 := h.op
  rw [h7.1] at hnow
  have hops : ∀ i, from_ ≤ i → i < to → (rdS (nowAt q' i)).gen = gen → (rdS (nowAt q' i)).op ≤ K := fun i hi1 hi2 hx => by
    rw [hnow] at hx ⊢
    split at hx
    · rename_i hc
      rw [if_pos hc, rdS_secB (by omega) h4 (by omega) hbl (by omega)]
      exact h9.1
    · rename_i hc
      rw [if_neg hc]
      exact h.ops i hi1 hi2 hx
  constructor
  · rintro ⟨rfl, hk⟩
    have hnew : ∀ i, i < needs b.length → nowAt q' (l.at_ + i) = secB gen l.op l.nx b i := fun i hi => by rw [hnow, if_pos ⟨by omega, by rw [show l.at_ + i - l.at_ = i by omega]; exact hk i hi⟩, show l.at_ + i - l.at_ = i by omega]
    have hold : ∀ i, (i < l.at_ ∨ l.at_ + needs b.length ≤ i) → nowAt q' i = nowAt q i := fun i hi => by rw [hnow, if_neg (by omega)]
    have hbn := h.bh.next (S' := nowAt q') (n := needs b.length) (op := l.op) (fun i h1 h2 => hold i (.inr h1))
    refine ⟨hu, hl, by rw [hn]; exact h.tn, h.ft, h.gn.2, ?_, by omega, by rw [List.length_append, List.length_singleton, ← Nat.add_assoc, ← h8]; exact hbn.1, hops⟩
    refine laid_snoc (laid_congr h.ld (fun i h1 h2 => hold i (.inl h2))) hbl (by have := h.lo; omega) h4 ?_
    rw [← h8]
    exact hnew
  · intro hne
    have hnd := needs_bd b.length
    obtain ⟨i0, hi0, hk0⟩ : ∃ i0, i0 < needs b.length ∧ ¬ (i0 < j ∧ k i0 = true) := by
      by_cases hj : j = needs b.length
      · have : ¬ ∀ i, i < j → k i = true := fun h => hne ⟨hj, h⟩
        obtain ⟨i0, hi0⟩ := Classical.not_forall.1 this
        have hi1 : i0 < j := Classical.byContradiction fun h => hi0 (fun h2 => absurd h2 h)
        exact ⟨i0, by omega, fun h => hi0 (fun _ => h.2)⟩
      · exact ⟨j, by omega, fun h => absurd h.1 (Nat.lt_irrefl _)⟩
    refine ⟨hu, hl, by rw [hn]; exact h.tn, h.ft, h.gn.2, laid_congr h.ld (fun i h1 h2 => by rw [hnow, if_neg (by omega)]), h.ae, ?_, hops⟩
    rw [← h8]
    refine h.bh.cut (op := l.op) (b := b) (i0 := i0) h.fr (by omega) h4 (by omega) hbl (by omega) (fun i hi => ?_) (fun i h1 h2 => by rw [hnow, if_neg (by omega)]) hi0 ?_
    · rw [hnow]
      split
      · rw [show l.at_ + i - l.at_ = i by omega]
        exact .inr rfl
      · exact .inl rfl
    · rw [hnow, if_neg (fun hc => hk0 ⟨by omega, by rw [show l.at_ + i0 - l.at_ = i0 by omega] at hc; exact hc.2⟩)]
end Go.Proofs.Ytgfpibojgkleiaa.NWl
