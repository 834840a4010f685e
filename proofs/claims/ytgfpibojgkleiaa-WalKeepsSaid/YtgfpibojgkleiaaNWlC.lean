/- A record, appended on a disk that may go down; the disk revived: in plain words. -/
import Derived.Test.YtgfpibojgkleiaaNWlB
namespace Go.Proofs.Ytgfpibojgkleiaa.NWl
open Go Go.RowKit Go.Proofs.Ytgfpibojgkleiaa.MX Go.Proofs.Ytgfpibojgkleiaa.PWal Go.Proofs.Ytgfpibojgkleiaa.NPl
set_option linter.unusedVariables false
set_option linter.unusedSimpArgs false
set_option linter.unusedVariables false
/-- A disk that is up; all that was written is safe. It may be armed. -/
structure Ups (p : Pl) : Prop where
  ok : PlOk p
  dn : p.down = false
  ls : p.loose = []
  wf : PlWf p
  sn : p.safe = p.now
theorem ups_new {n : Nat} (h1 : 8 ≤ n) (h2 : n ≤ 16384) : Ups (new0 n) := ⟨(upp_new h1 h2).ok, rfl, rfl, (upp_new h1 h2).wf, rfl⟩
theorem Ups.upp {p : Pl} (h : Ups p) (hl : p.left < 0) : Upp p := ⟨h.ok, h.dn, hl, h.ls, h.wf⟩
theorem Ups.arm {p : Pl} (h : Ups p) (m : Int) (hm : m ≤ 9223372036854775807) : Ups (armP p m) := ⟨⟨h.ok.lo, h.ok.hi, h.ok.sl, h.ok.nl, h.ok.ss, h.ok.ns, h.ok.ls, h.ok.ll, by show -1 ≤ max m (-1) ∧ max m (-1) ≤ _; omega⟩, h.dn, h.ls, h.wf, h.sn⟩
theorem getD_ext {a b : List (List Int)} (hl : a.length = b.length) (h : ∀ i, i < a.length → a.getD i [] = b.getD i []) : a = b := by
  apply List.ext_getElem hl
  intro i h1 h2
  have := h i h1
  rwa [List.getD_eq_getElem?_getD, List.getD_eq_getElem?_getD, List.getElem?_eq_getElem h1, List.getElem?_eq_getElem h2] at this
theorem ok_wr2 {p q : Pl} {at_ n : Nat} {sec : Nat → List Int} (h : Ups p) (hw : Wr2 p q at_ sec n) (hn : at_ + n ≤ p.n) (hs : ∀ i, i < n → (sec i).length = 64) (hn2 : n ≤ 10000) (hl : -1 ≤ q.left ∧ q.left ≤ 9223372036854775807) : PlOk q := by
  have hll := h.ls
  have hnow : ∀ j, j < p.n → (nowAt q j).length = 64 := fun j hj => by
    rw [hw.now j]
    split
    · exact hs _ (by omega)
    · exact nowAt_len h.ok hj
  refine ⟨by rw [hw.nn]; exact h.ok.lo, by rw [hw.nn]; exact h.ok.hi, by rw [hw.sf, hw.nn]; exact h.ok.sl, by rw [hw.nl, hw.nn]; exact h.ok.nl, by rw [hw.sf]; exact h.ok.ss, fun s hs2 => ?_, fun x hx => ?_, ?_, hl⟩
  · obtain ⟨j, hj, rfl⟩ := List.getElem_of_mem hs2
    have := hnow j (by rw [← h.ok.nl, ← hw.nl]; exact hj)
    rw [nowAt, List.getD_eq_getElem?_getD, List.getElem?_eq_getElem hj] at this
    exact this
  · rw [hw.lo, hll, List.nil_append] at hx
    obtain ⟨i, hi, rfl⟩ := List.mem_map.1 hx
    have hi := List.mem_range.1 hi
    exact ⟨by rw [hw.nn]; dsimp only; omega, hs i hi⟩
  · rw [hw.lo, hll]
    simp
    omega
/-- What is safe once all is synced, or revived. -/
theorem safe_wr2 {p q : Pl} {at_ n : Nat} {sec : Nat → List Int} (h : Ups p) (hw : Wr2 p q at_ sec n) (hn : at_ + n ≤ p.n) (k : Nat → Bool) (x : Nat) : (revS k q.loose q.safe q.loose.length).getD x [] = if (at_ ≤ x ∧ x < at_ + n) ∧ k (x - at_) = true then sec (x - at_) else nowAt p x := by
  have e : q.loose = (List.range n).map (fun i => (at_ + i, sec i)) := by rw [hw.lo, h.ls, List.nil_append]
  have hl : q.loose.length = n := by rw [e]; simp
  rw [hl, e, hw.sf]
  have := rev_rng (k := k) (at_ := at_) (n := n) (sec := sec) (s := p.safe) (by rw [h.ok.sl]; exact hn) n (Nat.le_refl _) x
  rw [this, h.sn]
  rfl
theorem sync_ups {p q : Pl} {at_ n : Nat} {sec : Nat → List Int} (h : Ups p) (hw : Wr2 p q at_ sec n) (hn : at_ + n ≤ p.n) : revS (fun _ => true) q.loose q.safe q.loose.length = q.now := by
  refine getD_ext (by rw [revS_len, hw.sf, hw.nl, h.ok.sl, h.ok.nl]) fun i _ => ?_
  rw [safe_wr2 h hw hn]
  have := hw.now i
  unfold nowAt at this ⊢
  rw [this]
  by_cases hi : at_ ≤ i ∧ i < at_ + n
  · rw [if_pos ⟨hi, rfl⟩, if_pos hi]
  · rw [if_neg (fun h2 => hi h2.1), if_neg hi]
/-- A record appended, or an attempt cut off. -/
theorem append_armed {p : Pl} {l : Lg} {b : List Int} (hu : Ups p) (hb : ∀ x ∈ b, 0 ≤ x ∧ x < 256) (hbr : l.broken = false) (hbl : b.length ≤ 65536) (hle : l.at_ + needs b.length ≤ l.to) (hto : l.to ≤ p.n) :
    (∃ q, appendL p l b = (q, { l with at_ := l.at_ + needs b.length, nx := l.nx + 1, list := l.list ++ [b] }, 0) ∧ Ups q ∧ q.n = p.n ∧ (∀ j, nowAt q j = if l.at_ ≤ j ∧ j < l.at_ + needs b.length then secB l.gen l.op l.nx b (j - l.at_) else nowAt p j) ∧ (p.left < 0 ∨ (needs b.length : Int) < p.left)) ∨
    (∃ q j, appendL p l b = (q, { l with broken := true }, 50) ∧ PlOk q ∧ q.n = p.n ∧ j ≤ needs b.length ∧ q.loose.length = j ∧ 0 ≤ p.left ∧ p.left ≤ (needs b.length : Int) ∧ (j : Int) = p.left ∧
      ∀ ks, Ups (revP q ks) ∧ (revP q ks).left < 0 ∧ ∀ x, nowAt (revP q ks) x = if (l.at_ ≤ x ∧ x < l.at_ + j) ∧ ks.getD (x - l.at_) false = true then secB l.gen l.op l.nx b (x - l.at_) else nowAt p x) := by
  have hnd := needs_bd b.length
  have hn1 := needs_le hbl
  have hlf := hu.ok.lf
  have hcr : ∀ (q : Pl) (j : Nat), j ≤ needs b.length → PlOk q → Wr2 p q l.at_ (secB l.gen l.op l.nx b) j → ∀ ks, Ups (revP q ks) ∧ (revP q ks).left < 0 ∧ ∀ x, nowAt (revP q ks) x = if (l.at_ ≤ x ∧ x < l.at_ + j) ∧ ks.getD (x - l.at_) false = true then secB l.gen l.op l.nx b (x - l.at_) else nowAt p x := fun q j hj hqo hw ks => by
    have hnow : ∀ x, nowAt (revP q ks) x = if (l.at_ ≤ x ∧ x < l.at_ + j) ∧ ks.getD (x - l.at_) false = true then secB l.gen l.op l.nx b (x - l.at_) else nowAt p x := fun x => safe_wr2 hu hw (by omega) (fun j => ks.getD j false) x
    have hok : PlOk (revP q ks) := ⟨hqo.lo, hqo.hi, by show (revS _ _ _ _).length = _; rw [revS_len]; exact hqo.sl, by show (revS _ _ _ _).length = _; rw [revS_len]; exact hqo.sl, revS_64 hqo.ss (fun x hx => (hqo.ls x hx).2) _, revS_64 hqo.ss (fun x hx => (hqo.ls x hx).2) _, fun x hx => (by cases hx), by show 0 ≤ _; omega, by show -1 ≤ (-1 : Int) ∧ (-1 : Int) ≤ _; decide⟩
    refine ⟨⟨hok, rfl, rfl, plwf_of fun x _ y hy => ?_, rfl⟩, (show (-1 : Int) < 0 by decide), hnow⟩
    rw [hnow x] at hy
    split at hy
    · exact secB_wf hb y hy
    · exact plwf_at hu.wf x y hy
  by_cases hl : p.left < 0
  · left
    obtain ⟨q, h1, h2, h3, h4⟩ := append_ok (hu.upp hl) hb hbr hbl hle hto
    refine ⟨q, h1, ⟨h2.ok, h2.dn, h2.ls, h2.wf, ?_⟩, h3, h4, .inl hl⟩
    obtain ⟨k1, k2, k3⟩ := wrs_done (at_ := l.at_) (sec := secB l.gen l.op l.nx b) hu.dn hl hu.ok.nl (needs b.length) (by omega) (fun i hi => secB_len hi)
    have hs := sync_done' (p := (wrsP p l.at_ (secB l.gen l.op l.nx b) (needs b.length)).1) (k2.dn.trans hu.dn) (by rw [k3]; exact hl)
    have hq : q = (syncP (wrsP p l.at_ (secB l.gen l.op l.nx b) (needs b.length)).1).1 := by
      have h1 := congrArg (fun r => r.1) h1
      unfold appendL at h1
      rw [if_neg (by simp [hbr]), if_neg (by omega), if_neg (by omega), if_neg (by rw [k1]; simp), if_neg (by rw [hs]; simp)] at h1
      exact h1.symm
    rw [hq, hs]
    exact sync_ups hu k2.two (by omega)
  · rcases wrs_armed (at_ := l.at_) (sec := secB l.gen l.op l.nx b) hu.dn (by omega) hu.ok.nl (needs b.length) (by omega) (fun i hi => secB_len hi) with ⟨k1, k2, k3, k4, k5⟩ | ⟨k1, k2, k3, k4, k5⟩
    · obtain ⟨r, hr⟩ : ∃ r, r = (wrsP p l.at_ (secB l.gen l.op l.nx b) (needs b.length)).1 := ⟨_, rfl⟩
      rw [← hr] at k3 k4 k5
      have hro : PlOk r := ok_wr2 hu k3 (by omega) (fun i hi => secB_len hi) (by omega) (by rw [k4]; omega)
      by_cases hz : p.left = (needs b.length : Int)
      · right
        have hst := stepP_last (p := r) (by rw [k4]; omega)
        have hs : syncP r = ({ r with down := true }, 50) := by rw [syncP, if_neg (by simp [k5]), if_pos (by rw [hst]), hst]
        refine ⟨{ r with down := true }, needs b.length, ?_, ⟨hro.lo, hro.hi, hro.sl, hro.nl, hro.ss, hro.ns, hro.ls, hro.ll, hro.lf⟩, k3.nn, Nat.le_refl _, ?_, by omega, by omega, by omega, hcr _ _ (Nat.le_refl _) ⟨hro.lo, hro.hi, hro.sl, hro.nl, hro.ss, hro.ns, hro.ls, hro.ll, hro.lf⟩ ⟨k3.nn, k3.nl, k3.sf, k3.lo, k3.now⟩⟩
        · unfold appendL
          rw [if_neg (by simp [hbr]), if_neg (by omega), if_neg (by omega), if_neg (by rw [k2]; simp), ← hr, if_pos (by rw [hs]; show (50 : Int) ≠ 0; decide), hs]
        · show r.loose.length = _
          rw [k3.lo, hu.ls]
          simp
      · left
        have hst := stepP_armed (p := r) k5 (by rw [k4]; omega)
        have hs : syncP r = ({ r with left := r.left - 1, safe := revS (fun _ => true) r.loose r.safe r.loose.length, loose := [] }, 0) := by rw [syncP, if_neg (by simp [k5]), if_neg (by rw [hst]; simp), hst]
        have hok := ok_sync hro
        rw [hs] at hok
        refine ⟨_, ?_, ⟨hok, k5, rfl, ?_, sync_ups hu k3 (by omega)⟩, k3.nn, k3.now, .inr (by omega)⟩
        · unfold appendL
          rw [if_neg (by simp [hbr]), if_neg (by omega), if_neg (by omega), if_neg (by rw [k2]; simp), ← hr, if_neg (by rw [hs]; simp), hs]
        · refine plwf_of fun x _ y hy => ?_
          have hy : y ∈ nowAt r x := hy
          rw [k3.now x] at hy
          split at hy
          · exact secB_wf hb y hy
          · exact plwf_at hu.wf x y hy
    · right
      obtain ⟨r, hr⟩ : ∃ r, r = (wrsP p l.at_ (secB l.gen l.op l.nx b) (needs b.length)).1 := ⟨_, rfl⟩
      rw [← hr] at k3 k4 k5
      have hlr : -1 ≤ r.left ∧ r.left ≤ 9223372036854775807 := by rw [k5]; decide
      have hro : PlOk r := ok_wr2 hu k3 (by omega) (fun i hi => secB_len (by omega)) (by omega) hlr
      refine ⟨r, p.left.toNat, ?_, hro, k3.nn, by omega, ?_, by omega, by omega, by omega, hcr _ _ (by omega) hro k3⟩
      · unfold appendL
        rw [if_neg (by simp [hbr]), if_neg (by omega), if_neg (by omega), if_pos (by rw [k2]; decide), ← hr, k2]
      · rw [k3.lo, hu.ls]
        simp
end Go.Proofs.Ytgfpibojgkleiaa.NWl
