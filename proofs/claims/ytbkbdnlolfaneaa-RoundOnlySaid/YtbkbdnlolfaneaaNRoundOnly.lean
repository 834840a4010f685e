/- RoundOnly, walked: true at every input. -/
import Derived.Test.YtbkbdnlolfaneaaNRound6
import Derived.Test.YtbkbdnlolfaneaaNSame
namespace Go.Proofs.Ytbkbdnlolfaneaa.NRound
open Go Go.RowKit Go.Proofs.Ytbkbdnlolfaneaa.MX Go.Proofs.Ytbkbdnlolfaneaa.PRound
set_option linter.unusedVariables false
set_option linter.unusedSimpArgs false
set_option linter.unusedVariables false
set_option maxRecDepth 100000 in
set_option maxHeartbeats 4000000 in
theorem only_any (b : List Int) (A : Option Addr) (c : Nat) (n m : Int) (w : World) (hr : Rds w A c .u8 b) (hb_ : ∀ x ∈ b, (Lit.int .u8 x).wf = true) (hn : (Lit.int .i64 n).wf = true) (hm : (Lit.int .i64 m).wf = true) :
    Calls Try.prog 10 #[.slice A b.length c, .int .i64 n, .int .i64 m] w fun e w' => e = .returned (.bool true) ∧ Chg (fun _ => False) w w' := by
  have hb : ∀ x ∈ b, 0 ≤ x ∧ x < 256 := fun x hx => wf8 (hb_ x hx)
  have hle := hr.le
  refine calls_of_X (Rr := Says w (.bool true)) (vs := [_, _, _]) (M := Hp w (fun _ => False) []) Try.func10 rfl Try.ntmps10 rfl (Hp.nil _ _) ?_
  repeat first
    | refine XC_region ?_
    | refine X_nil ?_
    | refine XC_condF rfl ?_
    | refine XC_seq ?_
    | refine XT_seq ?_
    | refine XC_skip ?_
    | refine Y_res (r_move rfl) rfl ?_
    | refine Y_res (r_assign rfl) rfl ?_
    | refine Y_res (r_gtr rfl rfl) rfl ?_
    | refine Y_res (r_notB rfl) rfl ?_
    | refine Y_res (r_len rfl) rfl ?_
    | refine Y_says (g := 11) rfl rfl (fun w1 hM => anchor_any w1) ?_
  refine XC_condP rfl (fun h1 => ?_) (fun h1 => ?_)
  · repeat first
      | refine XC_region ?_
      | refine X_nil ?_
      | refine XC_seq ?_
      | refine XT_seq ?_
      | refine XT_then_ret ?_
      | refine XC_ret ?_
      | refine Y_res (r_assign rfl) rfl ?_
    exact XT_says (.inl rfl) Try.results10 rfl rfl
  repeat first
    | refine XC_region ?_
    | refine XC_seq ?_
    | refine XT_seq ?_
    | refine XC_skip ?_
    | refine Y_res (r_move rfl) rfl ?_
  refine X_call (g := 31) rfl rfl (fun w1 q1 => (unp_any b A c n m w1 (hr.old q1 old_false) hb hn hm (by omega)).mono ?_)
  rintro e w2 ⟨A1, c1, rfl, hB1, g1⟩
  refine ⟨_, rfl, Hp w2 (fun _ => False) [], Hp.nil _ _, ?_⟩
  have k2 : Chg (fun _ => False) w w2 := q1.chg.over g1 (fun _ _ h => h.elim)
  clear q1 g1
  repeat first
    | refine XC_region ?_
    | refine X_nil ?_
    | refine XC_seq ?_
    | refine XT_seq ?_
    | refine Y_res (r_move rfl) rfl ?_
    | refine Y_res (r_assign rfl) rfl ?_
    | refine Y_res (r_extract rfl rfl) rfl ?_
  refine X_call (g := 33) rfl rfl (fun w3 q3 => (refunp_any b A c n m w3 ((hr.keep k2 old_false).old q3 old_false) hb hn hm (by omega)).mono ?_)
  rintro e w4 ⟨A2, c2, rfl, hB2, g3⟩
  refine ⟨_, rfl, Hp w4 (fun _ => False) [], Hp.nil _ _, ?_⟩
  have k4 : Chg (fun _ => False) w w4 := k2.over (q3.chg.over g3 (fun _ _ h => h.elim)) (fun _ _ h => h.elim)
  replace hB1 : BLs w4 A1 c1 ((unpB b n m).getD []) := hB1.keep (q3.chg.over g3 (fun _ _ h => h.elim))
  clear q3 g3
  rw [unpR_eq hb] at hB2 ⊢
  have hr4 := hr.keep k4 old_false
  repeat first
    | refine XC_region ?_
    | refine X_nil ?_
    | refine XC_seq ?_
    | refine XT_seq ?_
    | refine Y_res (r_move rfl) rfl ?_
    | refine Y_res (r_assign rfl) rfl ?_
    | refine Y_res (r_neqB rfl rfl) rfl ?_
    | refine Y_res (r_extract rfl rfl) rfl ?_
  refine Y_re (e := 35) (v' := .bool false) rfl (by simp) ?_
  cases hu : unpB b n m with
  | none =>
    rw [hu] at hB1 hB2
    repeat first
      | refine XC_region ?_
      | refine X_nil ?_
      | refine XC_condT rfl ?_
      | refine XC_condF rfl ?_
      | refine XC_seq ?_
      | refine XT_seq ?_
      | refine XT_then_ret ?_
      | refine XC_skip ?_
      | refine XC_ret ?_
      | refine Y_res (r_move rfl) rfl ?_
      | refine Y_res (r_assign rfl) rfl ?_
      | refine Y_on rfl rfl ?_
      | refine Y_res (r_notB rfl) rfl ?_
      | refine Y_res (r_pickF rfl rfl) rfl ?_
      | refine Y_says (g := 32) rfl rfl (fun w1 hM => samel_any _ _ _ _ _ _ w1 (hB1.keep hM.chg) (hB2.keep hM.chg)) ?_
    exact XT_ret1 (.inl rfl) Try.results10 rfl (fun w' h => ⟨rfl, k4.over h.chg (fun _ _ h => h.elim)⟩)
  | some L =>
    rw [hu] at hB1 hB2
    repeat first
      | refine X_nil ?_
      | refine XT_seq ?_
      | refine Y_res (r_move rfl) rfl ?_
      | refine Y_on rfl rfl ?_
      | refine Y_res (r_notB rfl) rfl ?_
      | refine Y_res (r_pickF rfl rfl) rfl ?_
      | refine Y_says (g := 32) rfl rfl (fun w1 hM => samel_any _ _ _ _ _ _ w1 (hB1.keep hM.chg) (hB2.keep hM.chg)) ?_
    refine XC_re (e := 40) (v' := .bool false) rfl (by simp) ?_
    repeat first
      | refine XC_region ?_
      | refine X_nil ?_
      | refine XC_condF rfl ?_
      | refine XC_seq ?_
      | refine XT_seq ?_
      | refine XC_skip ?_
      | refine Y_res (r_move rfl) rfl ?_
      | refine Y_res (r_notB rfl) rfl ?_
    refine X_call (g := 29) rfl rfl (fun w5 q5 => (pack_any L A1 c1 m w5 (hB1.keep q5.chg) hm).mono ?_)
    rw [packB_of_unp hb hu]
    rintro e w6 ⟨v, rfl, ⟨A5, c5, rfl, hp5, hf5⟩, g5⟩
    refine ⟨_, rfl, _, q5.add g5 hp5 hf5, ?_⟩
    clear q5 hp5 hf5 g5
    repeat first
      | refine XC_region ?_
      | refine X_nil ?_
      | refine XC_seq ?_
      | refine XT_seq ?_
      | refine XC_ret ?_
      | refine Y_res (r_move rfl) rfl ?_
      | refine Y_res (r_assign rfl) rfl ?_
      | refine Y_on rfl rfl ?_
      | refine Y_res (r_extract rfl rfl) rfl ?_
      | refine Y_res (r_pickT rfl rfl) rfl ?_
      | refine Y_says (g := 18) rfl rfl (fun w1 hM => NSame.same_any b b A A5 c c5 w1 (hr4.old hM old_false) (rds_sl hM.head)) ?_
    exact XT_ret1 (.inl rfl) Try.results10 rfl (fun w' h => ⟨by simp, k4.over h.chg (fun _ _ h => h.elim)⟩)
end Go.Proofs.Ytbkbdnlolfaneaa.NRound
