/- A log on a disk that is up: what appending does, in plain words. -/
import Derived.Test.YtgfpibojgkleiaaNWl6
import Derived.Test.YtgfpibojgkleiaaNWl7
namespace Go.Proofs.Ytgfpibojgkleiaa.NWl
open Go Go.RowKit Go.Proofs.Ytgfpibojgkleiaa.MX Go.Proofs.Ytgfpibojgkleiaa.PWal Go.Proofs.Ytgfpibojgkleiaa.NPl
set_option linter.unusedVariables false
set_option linter.unusedSimpArgs false
set_option linter.unusedVariables false
theorem sync_done' {p : Pl} (hd : p.down = false) (hl : p.left < 0) : syncP p = ({ p with safe := revS (fun _ => true) p.loose p.safe p.loose.length, loose := [] }, 0) := by
  rw [syncP, if_neg (by simp [hd]), if_neg (by rw [stepP_done hd hl]; simp), stepP_done hd hl]
theorem nowAt_set {p : Pl} {i j : Nat} {s : List Int} (hi : i < p.now.length) : nowAt { p with now := p.now.set i s } j = if i = j then s else nowAt p j := by
  show (p.now.set i s).getD j [] = _
  rw [List.getD_eq_getElem?_getD, List.getElem?_set]
  by_cases h : i = j
  · subst h
    rw [if_pos rfl, if_pos rfl, if_pos hi]
    rfl
  · rw [if_neg h, if_neg h, nowAt, List.getD_eq_getElem?_getD]
/-- Sectors that were written. -/
structure Wrd (p q : Pl) (at_ : Nat) (sec : Nat → List Int) (n : Nat) : Prop where
  dn : q.down = p.down
  nn : q.n = p.n
  nl : q.now.length = p.now.length
  sf : q.safe = p.safe
  lo : q.loose = p.loose ++ (List.range n).map (fun i => (at_ + i, sec i))
  now : ∀ j, nowAt q j = if at_ ≤ j ∧ j < at_ + n then sec (j - at_) else nowAt p j
theorem Wrd.zero (p : Pl) (at_ : Nat) (sec : Nat → List Int) : Wrd p p at_ sec 0 := ⟨rfl, rfl, rfl, rfl, by simp, fun j => by rw [if_neg (by omega)]⟩
theorem Wrd.succ {p q q1 : Pl} {at_ : Nat} {sec : Nat → List Int} {n : Nat} (h : Wrd p q at_ sec n) (hn : at_ + n < q.now.length) (h1 : q1.down = q.down) (h2 : q1.n = q.n) (h3 : q1.safe = q.safe) (h4 : q1.loose = q.loose ++ [(at_ + n, sec n)]) (h5 : q1.now = q.now.set (at_ + n) (sec n)) : Wrd p q1 at_ sec (n + 1) := by
  refine ⟨h1.trans h.dn, h2.trans h.nn, by rw [h5, List.length_set, h.nl], h3.trans h.sf, by rw [h4, h.lo, List.range_succ, List.map_append, List.append_assoc]; rfl, fun j => ?_⟩
  have e : nowAt q1 j = nowAt { q with now := q.now.set (at_ + n) (sec n) } j := by
    show q1.now.getD j [] = _
    rw [h5]
    rfl
  rw [e, nowAt_set hn, h.now j]
  by_cases hj : at_ + n = j
  · rw [if_pos hj, if_pos (by omega), show j - at_ = n by omega]
  · rw [if_neg hj]
    by_cases hj2 : at_ ≤ j ∧ j < at_ + n
    · rw [if_pos hj2, if_pos (by omega)]
    · rw [if_neg hj2, if_neg (by omega)]
theorem wrs_done {p : Pl} {at_ : Nat} {sec : Nat → List Int} (hd : p.down = false) (hl : p.left < 0) (hnl : p.now.length = p.n) : ∀ n, at_ + n ≤ p.n → (∀ i, i < n → (sec i).length = 64) → (wrsP p at_ sec n).2 = 0 ∧ Wrd p (wrsP p at_ sec n).1 at_ sec n ∧ (wrsP p at_ sec n).1.left = p.left
  | 0, _, _ => ⟨rfl, Wrd.zero _ _ _, rfl⟩
  | n + 1, h, hs => by
    obtain ⟨h1, h2, h3⟩ := wrs_done (at_ := at_) (sec := sec) hd hl hnl n (by omega) (fun i hi => hs i (by omega))
    have hw := writeP_done (p := (wrsP p at_ sec n).1) (i := at_ + n) (b := sec n) (h2.dn.trans hd) (by rw [h3]; exact hl) (by rw [h2.nn]; omega) (hs n (by omega))
    have e : wrsP p at_ sec (n + 1) = writeP (wrsP p at_ sec n).1 ((at_ + n : Nat) : Int) (sec n) := by
      simp only [wrsP]
      rw [h1]
      rfl
    rw [e, hw]
    exact ⟨rfl, h2.succ (by rw [h2.nl, hnl]; omega) rfl rfl rfl rfl rfl, h3⟩
/-- A disk that is up, with all that was written safe. -/
structure Upp (p : Pl) : Prop where
  ok : PlOk p
  dn : p.down = false
  lf : p.left < 0
  ls : p.loose = []
  wf : PlWf p
theorem upp_new {n : Nat} (h1 : 8 ≤ n) (h2 : n ≤ 16384) : Upp (new0 n) := by
  refine ⟨⟨h1, h2, by simp [new0], by simp [new0], fun s hs => by rw [List.eq_of_mem_replicate hs]; rfl, fun s hs => by rw [List.eq_of_mem_replicate hs]; rfl, fun x hx => by simp [new0] at hx, by simp [new0], by simp [new0]⟩, rfl, (show (-1 : Int) < 0 by decide), rfl, fun s hs x hx => ?_⟩
  rw [List.eq_of_mem_replicate hs] at hx
  rw [List.eq_of_mem_replicate hx]
  decide
theorem plwf_of {p : Pl} (h : ∀ j, j < p.now.length → ∀ x ∈ nowAt p j, 0 ≤ x ∧ x < 256) : PlWf p := fun s hs x hx => by
  obtain ⟨j, hj, rfl⟩ := List.getElem_of_mem hs
  exact h j hj x (by rw [nowAt, List.getD_eq_getElem?_getD, List.getElem?_eq_getElem hj]; exact hx)
theorem plwf_at {p : Pl} (h : PlWf p) (j : Nat) : ∀ x ∈ nowAt p j, 0 ≤ x ∧ x < 256 := fun x hx => by
  rw [nowAt, List.getD_eq_getElem?_getD] at hx
  cases hj : p.now[j]? with
  | none => rw [hj] at hx; cases hx
  | some s => rw [hj] at hx; exact h s (List.mem_of_getElem? hj) x hx
theorem secB_wf {gen op nx : Nat} {b : List Int} {i : Nat} (hb : ∀ x ∈ b, 0 ≤ x ∧ x < 256) : ∀ x ∈ secB gen op nx b i, 0 ≤ x ∧ x < 256 := fun x hx => by
  simp only [secB, secN, List.mem_append] at hx
  rcases hx with ((((h | h) | h) | h) | h) | h
  · exact be_wf _ _ x h
  · exact be_wf _ _ x h
  · exact be_wf _ _ x h
  · exact be_wf _ _ x h
  · exact be_wf _ _ x h
  · have h := List.mem_of_mem_take (List.mem_of_mem_drop h)
    simp only [bodyB, List.mem_append] at h
    rcases h with (h | h) | h
    · exact be_wf _ _ x h
    · exact hb x h
    · rw [List.eq_of_mem_replicate h]; decide
/-- What appending does where there is room. -/
theorem append_ok {p : Pl} {l : Lg} {b : List Int} (hu : Upp p) (hb : ∀ x ∈ b, 0 ≤ x ∧ x < 256) (hbr : l.broken = false) (hbl : b.length ≤ 65536) (hle : l.at_ + needs b.length ≤ l.to) (hto : l.to ≤ p.n) :
    ∃ q, appendL p l b = (q, { l with at_ := l.at_ + needs b.length, nx := l.nx + 1, list := l.list ++ [b] }, 0) ∧ Upp q ∧ q.n = p.n ∧ ∀ j, nowAt q j = if l.at_ ≤ j ∧ j < l.at_ + needs b.length then secB l.gen l.op l.nx b (j - l.at_) else nowAt p j := by
  obtain ⟨h1, h2, h3⟩ := wrs_done (at_ := l.at_) (sec := secB l.gen l.op l.nx b) hu.dn hu.lf hu.ok.nl (needs b.length) (by omega) (fun i hi => secB_len hi)
  have hnd := needs_bd b.length
  obtain ⟨q, hq⟩ : ∃ q, q = (wrsP p l.at_ (secB l.gen l.op l.nx b) (needs b.length)).1 := ⟨_, rfl⟩
  rw [← hq] at h2 h3
  have hs := sync_done' (p := q) (h2.dn.trans hu.dn) (by rw [h3]; exact hu.lf)
  refine ⟨(syncP q).1, ?_, ?_, by rw [hs]; exact h2.nn, fun j => by rw [hs]; exact h2.now j⟩
  · unfold appendL
    rw [if_neg (by simp [hbr]), if_neg (by omega), if_neg (by omega), if_neg (by rw [h1]; simp), ← hq, if_neg (by rw [hs]; simp)]
  · have hnow : ∀ j, j < p.n → (nowAt q j).length = 64 := fun j hj => by
      rw [h2.now j]
      split
      · rename_i hj2
        exact secB_len (by omega)
      · exact nowAt_len hu.ok hj
    have hqo : PlOk q := by
      have hll := hu.ls
      refine ⟨by rw [h2.nn]; exact hu.ok.lo, by rw [h2.nn]; exact hu.ok.hi, by rw [h2.sf, h2.nn]; exact hu.ok.sl, by rw [h2.nl, h2.nn]; exact hu.ok.nl, by rw [h2.sf]; exact hu.ok.ss, fun s hs => ?_, fun x hx => ?_, ?_, by rw [h3]; exact hu.ok.lf⟩
      · obtain ⟨j, hj, rfl⟩ := List.getElem_of_mem hs
        have := hnow j (by rw [← hu.ok.nl, ← h2.nl]; exact hj)
        rw [nowAt, List.getD_eq_getElem?_getD, List.getElem?_eq_getElem hj] at this
        exact this
      · rw [h2.lo, hll, List.nil_append] at hx
        obtain ⟨i, hi, rfl⟩ := List.mem_map.1 hx
        have hi := List.mem_range.1 hi
        exact ⟨by rw [h2.nn]; dsimp only; omega, secB_len hi⟩
      · rw [h2.lo, hll]
        simp
        omega
    have hok := ok_sync hqo
    rw [hs] at hok ⊢
    refine ⟨hok, h2.dn.trans hu.dn, by show q.left < 0; rw [h3]; exact hu.lf, rfl, plwf_of fun j _ x hx => ?_⟩
    have hx : x ∈ nowAt q j := hx
    rw [h2.now j] at hx
    split at hx
    · exact secB_wf hb x hx
    · exact plwf_at hu.wf j x hx
theorem append_full {p : Pl} {l : Lg} {b : List Int} (hbr : l.broken = false) (hbl : b.length ≤ 65536) (h : l.to - l.at_ < needs b.length) : appendL p l b = (p, l, 52) := by
  rw [appendL, if_neg (by simp [hbr]), if_neg (by omega), if_pos h]
/-- No sector is of this generation. -/
theorem open_none {S : Nat → List Int} {from_ to gen : Nat} (h : ∀ i, from_ ≤ i → i < to → (rdS (S i)).gen ≠ gen) (hlt : from_ < to) : openP S from_ to gen = ⟨from_, to, gen, 1, 1, [], false⟩ := by
  have ht : ∀ m, from_ + m ≤ to → topTo S gen from_ m = 0 := by
    intro m
    induction m with
    | zero => intro _; rfl
    | succ m ih =>
      intro hm
      simp only [topTo]
      rw [if_neg (fun hx => h (from_ + m) (by omega) (by omega) hx.1), ih (by omega)]
  have hs : scan S to gen (to - from_) from_ 1 0 = ([], from_, 1) := scan_none (fun _ => by
    unfold takeP
    dsimp only
    rw [if_pos (.inl (h from_ (Nat.le_refl _) hlt))])
  rw [openP, hs, ht _ (by omega)]
theorem new_gen {n gen i : Nat} (hg : 1 ≤ gen) : (rdS (nowAt (new0 n) i)).gen ≠ gen := by
  have e : (rdS (nowAt (new0 n) i)).gen = 0 := by
    show numS ((nowAt (new0 n) i).take 4) = 0
    rw [nowAt, List.getD_eq_getElem?_getD]
    show numS ((((List.replicate n (List.replicate 64 0))[i]?).getD []).take 4) = 0
    rw [List.getElem?_replicate]
    split
    · rfl
    · rfl
  omega
end Go.Proofs.Ytgfpibojgkleiaa.NWl
