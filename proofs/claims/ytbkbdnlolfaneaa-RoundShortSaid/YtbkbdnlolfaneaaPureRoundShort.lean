/- Lists that aren't of 256 are refused by the program, too many too; others, of noughts, are packed into as many bytes as the document says: for every list of at most 40 lengths. -/
import Derived.Test.YtbkbdnlolfaneaaPRoundShortx2
import Derived.Test.YtbkbdnlolfaneaaMVal
namespace Go.Proofs.Ytbkbdnlolfaneaa.Pure
open Go.RowKit Go.Proofs.Ytbkbdnlolfaneaa.PRoundShort Go.Proofs.YtbkbdnlolfaneaaW.PrintWords Go.Proofs.YtbkbdnlolfaneaaW.PrintLast Go.Proofs.YtbkbdnlolfaneaaW.PrintMore
open Go.Proofs.Ytbkbdnlolfaneaa.MBase Go.Proofs.Ytbkbdnlolfaneaa.MVal
namespace RoundShortAid

theorem anchor_at : chancerylaw04_anchor.f 40 = some true := by decide +kernel
theorem anchor_ev : Ev (fun k => chancerylaw04_anchor.f k) true := Ev.of chancerylaw04_anchor.mono anchor_at

/-- Of each length a list of noughts. -/
def offs (l : List Int) : List (List Bool) := l.map fun n => List.replicate n.toNat false
/-- Whether all lengths are 256. -/
def all256 (l : List Int) : Bool := l.all fun n => n == 256

theorem ph_l1 {m nn : Int} {out : List Int} {i : Int} {ls : List (List Bool)} {c : Nat} (hc : c ≤ 1000) (x30 : Int) (h0 : 0 ≤ wrap64 (m + i)) (h1 : wrap64 (m + i) < (out.length : Int)) : ∀ (d j : Nat), j + d = c → ∀ r,
    Ev (fun k => round_PackHints.l0 k m (out.set (wrap64 (m + i)).toNat (nn % 256)) nn ls (ls.length : Int) (wrap64 (x30 + 1))) r → Ev (fun k => round_PackHints.l1 k m out nn i ls (ls.length : Int) x30 (List.replicate c false) ((List.replicate c false).length : Int) (j : Int)) r := by
  intro d
  induction d with
  | zero =>
    intro j hj r h
    exact Ev.step (fun k => by rw [round_PackHints.l1, if_neg (by simp; omega), if_pos h0, if_pos h1]) h
  | succ d ih =>
    intro j hj r h
    have e : rdOf false (List.replicate c false) (j : Int) = false := by
      unfold rdOf
      rw [List.getD_eq_getElem?_getD, List.getElem?_replicate]
      split <;> rfl
    refine Ev.step (fun k => by rw [round_PackHints.l1, if_pos (by simp; omega), if_pos (by omega), if_pos (by simp; omega), e, if_neg (by decide)]) ?_
    rw [w64_succ (show j < c by omega) (by omega)]
    exact ih (j + 1) (by omega) r h

theorem ph_l0 {m : Int} (hm : 0 ≤ m) (hm' : m ≤ 255) {sz : List Int} (hs : ∀ x ∈ sz, 0 ≤ x ∧ x ≤ 600) (hn : sz.length ≤ 16) : ∀ (d i : Nat) (out : List Int), i + d = sz.length → (out.length : Int) = m + sz.length →
    ∃ r, Ev (fun k => round_PackHints.l0 k m out 0 (offs sz) ((offs sz).length : Int) (i : Int)) r ∧ ((all256 (sz.drop i) = true ∧ r.2 = true ∧ (r.1.length : Int) = m + sz.length) ∨ (all256 (sz.drop i) = false ∧ r = ([], false))) := by
  intro d
  have ho : (offs sz).length = sz.length := by simp [offs]
  induction d with
  | zero =>
    intro i out hi hl
    exact ⟨(out, true), Ev.step (f := fun _ => some (out, true)) (fun k => by rw [round_PackHints.l0, if_neg (by omega)]) (Ev.now _), .inl ⟨by rw [List.drop_of_length_le (by omega)]; rfl, rfl, hl⟩⟩
  | succ d ih =>
    intro i out hi hl
    have hlt : i < sz.length := by omega
    have hx := hs (sz[i]) (List.getElem_mem hlt)
    have e : rd_L3 (offs sz) (i : Int) = List.replicate (sz[i]).toNat false := by
      simp [rd_L3, offs, List.getD_eq_getElem?_getD, hlt]
    have hd : sz.drop i = sz[i] :: sz.drop (i + 1) := List.drop_eq_getElem_cons hlt
    by_cases c : sz[i] = 256
    · have hw : wrap64 (m + (i : Int)) = m + i := w64 (by omega) (by omega)
      obtain ⟨r, h1, h2⟩ := ih (i + 1) (out.set (m + (i : Int)).toNat (0 % 256)) (by omega) (by simpa using hl)
      refine ⟨r, ?_, ?_⟩
      · refine Ev.step (fun k => by rw [round_PackHints.l0, if_pos (by omega), if_pos (by omega), if_pos (by omega), e, if_pos (by simp; omega)]) ?_
        refine ph_l1 (by omega) (i : Int) (by omega) (by omega) (sz[i]).toNat 0 (by omega) r ?_
        rw [hw, w64_succ hlt (by omega)]
        exact h1
      · rw [hd, show all256 (sz[i] :: sz.drop (i + 1)) = all256 (sz.drop (i + 1)) by unfold all256; rw [List.all_cons, beq_iff_eq.mpr c, Bool.true_and]]
        exact h2
    · refine ⟨([], false), Ev.step (f := fun _ => some ([], false)) (fun k => by rw [round_PackHints.l0, if_pos (by omega), if_pos (by omega), if_pos (by omega), e, if_neg (by simp; omega)]) (Ev.now _), .inr ⟨?_, rfl⟩⟩
      rw [hd]
      unfold all256
      rw [List.all_cons, beq_eq_false_iff_ne.mpr c, Bool.false_and]

theorem ph_ev {m : Int} {sz : List Int} (hs : ∀ x ∈ sz, 0 ≤ x ∧ x ≤ 600) :
    ∃ r, Ev (fun k => round_PackHints.f k (offs sz) m) r ∧ (((0 ≤ m ∧ m ≤ 255 ∧ sz.length ≤ 16 ∧ all256 sz = true) ∧ r.2 = true ∧ (r.1.length : Int) = m + sz.length) ∨ (¬ (0 ≤ m ∧ m ≤ 255 ∧ sz.length ≤ 16 ∧ all256 sz = true) ∧ r = ([], false))) := by
  have ho : (offs sz).length = sz.length := by simp [offs]
  have out : Ev (fun k => round_PackHints.j0 k (offs sz) m true) ([], false) := Ev.step (f := fun _ => some ([], false)) (fun k => by rw [round_PackHints.j0, if_pos rfl]) (Ev.now _)
  unfold round_PackHints.f
  by_cases c0 : m < 0
  · exact ⟨_, Ev.pos c0 out, .inr ⟨by omega, rfl⟩⟩
  by_cases c1 : m > 255
  · exact ⟨_, Ev.neg c0 (Ev.pos c1 out), .inr ⟨by omega, rfl⟩⟩
  by_cases c2 : ((offs sz).length : Int) > 16
  · rw [decide_eq_true c2]
    exact ⟨_, Ev.neg c0 (Ev.neg c1 out), .inr ⟨by omega, rfl⟩⟩
  rw [decide_eq_false c2]
  have hw : wrap64 (m + ((offs sz).length : Int)) = m + ((offs sz).length : Int) := w64 (by omega) (by omega)
  obtain ⟨r, h1, h2⟩ := ph_l0 (m := m) (by omega) (by omega) hs (by omega) sz.length 0 (List.replicate (m + ((offs sz).length : Int)).toNat 0) (by omega) (by simp; omega)
  refine ⟨r, Ev.neg c0 (Ev.neg c1 (Ev.step (fun k => by rw [round_PackHints.j0, if_neg (by decide), hw, if_pos (by omega), if_pos (by omega)]; rfl) h1)), ?_⟩
  rw [List.drop_zero] at h2
  rcases h2 with ⟨q, h2⟩ | ⟨q, h2⟩
  · exact .inl ⟨⟨by omega, by omega, by omega, q⟩, h2⟩
  · exact .inr ⟨by rw [q]; simp, h2⟩

theorem l0_go {sz : List Int} {m : Int} (hn : sz.length ≤ 40) {b0 : Bool} (hb : b0 = decide (0 ≤ m ∧ m ≤ 255 ∧ sz.length ≤ 16)) : ∀ (d i : Nat), i + d = sz.length → (∀ x ∈ sz.take i, 0 ≤ x ∧ x ≤ 600) →
    Ev (fun k => chancerylaw04_RoundShort.l0 k sz m (b0 && all256 (sz.take i)) (offs (sz.take i)) sz (sz.length : Int) (i : Int)) true := by
  intro d
  induction d with
  | zero =>
    intro i hi hs
    rw [List.take_of_length_le (by omega)] at *
    obtain ⟨r, h1, h2⟩ := ph_ev (m := m) hs
    refine Ev.step (fun k => by rw [chancerylaw04_RoundShort.l0, if_neg (by omega)]) ?_
    refine Ev.bind h1 ?_
    rcases h2 with ⟨⟨q0, q1, q2, q3⟩, h2, h3⟩ | ⟨q, rfl⟩
    · have e : (b0 && all256 sz) = true := by rw [hb, q3]; simp [q0, q1, q2]
      rw [e, h2]
      exact Ev.pos rfl (Ev.pos rfl (Ev.pos (by rw [h3, w64 (by omega) (by omega)]) (Ev.now _)))
    · have e : (b0 && all256 sz) = false := by
        rw [hb, Bool.eq_false_iff]
        intro h
        simp only [Bool.and_eq_true, decide_eq_true_eq] at h
        exact q ⟨h.1.1, h.1.2.1, h.1.2.2, h.2⟩
      rw [e]
      exact Ev.pos rfl (Ev.neg (by decide) (Ev.now _))
  | succ d ih =>
    intro i hi hs
    have hlt : i < sz.length := by omega
    have hr : rd sz (i : Int) = sz[i] := by rw [rd_nat, List.getD_eq_getElem?_getD, List.getElem?_eq_getElem hlt]; rfl
    have ht : sz.take (i + 1) = sz.take i ++ [sz[i]] := List.take_succ_eq_append_getElem hlt
    by_cases c0 : sz[i] < 0
    · exact Ev.step (f := fun _ => some true) (fun k => by rw [chancerylaw04_RoundShort.l0, if_pos (by omega), if_pos (by omega), if_pos (by omega), hr, if_pos c0]) (Ev.now _)
    by_cases c1 : sz[i] > 600
    · exact Ev.step (f := fun _ => some true) (fun k => by rw [chancerylaw04_RoundShort.l0, if_pos (by omega), if_pos (by omega), if_pos (by omega), hr, if_neg c0, if_pos c1]) (Ev.now _)
    have hlo : (offs (sz.take i)).length = i := by simp [offs]; omega
    have h := ih (i + 1) (by omega) (fun x hx => by
      rw [ht] at hx
      rcases List.mem_append.1 hx with hx | hx
      · exact hs x hx
      · rw [List.mem_singleton.1 hx]; omega)
    have eo : offs (sz.take (i + 1)) = offs (sz.take i) ++ [List.replicate (sz[i]).toNat false] := by unfold offs; rw [ht, List.map_append]; rfl
    have ea : all256 (sz.take (i + 1)) = (all256 (sz.take i) && sz[i] == 256) := by unfold all256; rw [ht, List.all_append]; simp
    rw [eo, ea, ← Bool.and_assoc, ← w64_succ hlt (by omega)] at h
    generalize (b0 && all256 (sz.take i)) = bb at *
    cases bb with
    | true => exact Ev.step (fun k => by rw [chancerylaw04_RoundShort.l0, if_pos (by omega), if_pos (by omega), if_pos (by omega), hr, if_neg c0, if_neg c1, if_pos rfl, if_pos (by omega), if_pos (by omega), if_pos (by omega)]) (by simpa using h)
    | false => exact Ev.step (fun k => by rw [chancerylaw04_RoundShort.l0, if_pos (by omega), if_pos (by omega), if_pos (by omega), hr, if_neg c0, if_neg c1, if_neg (by decide), if_pos (by omega), if_pos (by omega), if_pos (by omega)]) (by simpa using h)

theorem j0_go {sz : List Int} {m : Int} (hn : sz.length ≤ 40) {b0 : Bool} (hb : b0 = decide (0 ≤ m ∧ m ≤ 255 ∧ sz.length ≤ 16)) : Ev (fun k => chancerylaw04_RoundShort.j0 k sz m b0) true := by
  refine Ev.step (fun k => by rw [chancerylaw04_RoundShort.j0]) ?_
  have h := l0_go hn hb sz.length 0 (by omega) (by simp)
  simpa [all256, offs] using h

end RoundShortAid
open RoundShortAid

theorem RoundShort : chancerylaw04_RoundShort.Pure := by
  intro sz m _ _ _ _
  refine Ev.rounds ?_
  unfold chancerylaw04_RoundShort.f
  refine Ev.bind anchor_ev (Ev.pos rfl ?_)
  by_cases c0 : (sz.length : Int) > 40
  · exact Ev.pos c0 (Ev.now _)
  refine Ev.neg c0 ?_
  by_cases c1 : m ≥ 0
  · refine Ev.pos c1 ?_
    by_cases c2 : m ≤ 255
    · exact Ev.pos c2 (j0_go (by omega) (decide_eq_decide.mpr (by omega)))
    · exact Ev.neg c2 (j0_go (by omega) (decide_eq_false (by omega)).symm)
  · exact Ev.neg c1 (j0_go (by omega) (decide_eq_false (by omega)).symm)

end Go.Proofs.Ytbkbdnlolfaneaa.Pure
