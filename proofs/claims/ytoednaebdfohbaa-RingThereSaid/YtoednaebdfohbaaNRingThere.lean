/- RingThere, walked: true at every input. -/
import Derived.Test.YtoednaebdfohbaaNRing6
namespace Go.Proofs.Ytoednaebdfohbaa.NRing
open Go Go.RowKit Go.Proofs.Ytoednaebdfohbaa.MX Go.Proofs.Ytoednaebdfohbaa.PRing
set_option linter.unusedVariables false
set_option linter.unusedSimpArgs false
set_option maxHeartbeats 2000000 in
set_option maxRecDepth 100000 in
theorem ringThere_any (a : List Int) (A : Option Addr) (ca : Nat) (w : World) (ha : Rds w A ca .i64 a) (hwf : ∀ n ∈ a, (Lit.int .i64 n).wf = true) :
    Calls Try.prog 3 #[.slice A a.length ca] w fun e w' => e = .returned (.bool true) ∧ Chg (fun _ => False) w w' := by
  refine calls_of_X (vs := [_]) (M := Hp w (fun _ => False) []) Try.func3 rfl Try.ntmps3 rfl (Hp.nil _ _) ?_
  repeat first
    | refine XC_region ?_
    | refine X_nil ?_
    | refine XC_condF rfl ?_
    | refine XC_seq ?_
    | refine XT_seq ?_
    | refine XC_skip ?_
    | refine Y_res (r_move rfl) rfl ?_
    | refine Y_res (r_assign rfl) rfl ?_
    | refine Y_res (r_notB rfl) rfl ?_
    | refine Y_call (g := 10) rfl rfl (fun w1 hM => (anchor_any w1).mono fun e w2 h => ⟨h.1, hM.keep h.2⟩) ?_
    | refine Y_call (g := 11) rfl rfl (fun w1 hM => (few_any a A ca w1).mono fun e w2 h => ⟨h.1, hM.keep h.2⟩) ?_
  refine XC_condN rfl (fun hfew => ?_) (fun hfew => ?_)
  · repeat first
      | refine XC_region ?_
      | refine X_nil ?_
      | refine XC_seq ?_
      | refine XT_seq ?_
      | refine XT_then_ret ?_
      | refine XC_ret ?_
      | refine Y_res (r_assign rfl) rfl ?_
    exact XT_ret1 (.inl rfl) Try.results3 rfl (fun w5 h5 => ⟨rfl, h5.chg⟩)
  repeat first
    | refine XC_region ?_
    | refine XC_seq ?_
    | refine XT_seq ?_
    | refine XC_skip ?_
    | refine Y_res (r_move rfl) rfl ?_
  refine X_call rfl rfl (fun w1 h1 => (there_any a A ca w1 (ha.old h1 old_false)).mono ?_)
  rintro e w2 ⟨hc2, hif2⟩
  by_cases hva : vd a = true
  · rw [if_pos hva] at hif2
    obtain ⟨v, rfl, A2, cap2, rfl, hp2, hf2⟩ := hif2
    refine ⟨_, rfl, _, h1.add hc2 hp2 hf2, ?_⟩
    have hoa := ok_vd hva
    have hot := thr_ok hoa
    have hob := bck_ok a
    have h1' : bck (thr a) = a := bck_thr hoa
    have h2' : thr (bck a) = a := thr_bck hoa
    obtain ⟨t, ht⟩ : ∃ t, t = thr a := ⟨_, rfl⟩
    obtain ⟨b, hb⟩ : ∃ b, b = bck a := ⟨_, rfl⟩
    rw [← ht] at hot h1' ⊢
    rw [← hb] at hob h2'
    clear hp2 hf2 hc2
    repeat first
      | refine XC_region ?_
      | refine X_nil ?_
      | refine XC_seq ?_
      | refine XT_seq ?_
      | refine Y_res (r_move rfl) rfl ?_
      | refine Y_res (r_assign rfl) rfl ?_
      | refine Y_res (r_extract rfl rfl) rfl ?_
    refine X_call rfl rfl (fun w3 h3 => (back_any a A ca w3 (ha.old h3 old_false)).mono ?_)
    rintro e w4 ⟨hc4, hif4⟩
    rw [if_pos hva, ← hb] at hif4
    obtain ⟨v, rfl, A4, cap4, rfl, hp4, hf4⟩ := hif4
    refine ⟨_, rfl, _, h3.add hc4 hp4 hf4, ?_⟩
    clear hp4 hf4 hc4
    have hrv : ∀ w1, Hp w (fun _ => False) [Ch.sl A4 cap4 3 .i64 b, Ch.sl A2 cap2 3 .i64 t] w1 → Calls Try.prog 14 #[.slice A a.length ca] w1 fun e w2 => e = .returned (.bool true) ∧ Hp w (fun _ => False) [Ch.sl A4 cap4 3 .i64 b, Ch.sl A2 cap2 3 .i64 t] w2 := fun w1 hM => (rvalid_any a A ca w1 (ha.old hM old_false)).mono fun e w2 h => ⟨by rw [h.1, hva], hM.keep h.2⟩
    repeat first
      | refine XC_region ?_
      | refine X_nil ?_
      | refine XC_condF rfl ?_
      | refine XC_seq ?_
      | refine XT_seq ?_
      | refine XC_skip ?_
      | refine Y_res (r_move rfl) rfl ?_
      | refine Y_res (r_assign rfl) rfl ?_
      | refine Y_res (r_neqB rfl rfl) rfl ?_
      | refine Y_on rfl rfl ?_
      | refine Y_res (r_notB rfl) rfl ?_
      | refine Y_res (r_extract rfl rfl) rfl ?_
      | refine Y_res (r_pickF rfl rfl) rfl ?_
      | refine Y_call (g := 14) rfl rfl hrv ?_
      | refine Y_splitF rfl rfl (by decide) ?_
    refine X_call rfl rfl (fun w5 h5 => (back_any t A2 cap2 w5 (rds_sl h5.tail.head)).mono ?_)
    rw [h1']
    rintro e w6 ⟨hc6, hif6⟩
    rw [if_pos (vd_ok hot)] at hif6
    obtain ⟨v, rfl, A6, cap6, rfl, hp6, hf6⟩ := hif6
    refine ⟨_, rfl, _, h5.add hc6 hp6 hf6, ?_⟩
    clear hp6 hf6 hc6 hrv
    repeat first
      | refine XC_region ?_
      | refine X_nil ?_
      | refine XC_seq ?_
      | refine XT_seq ?_
      | refine Y_res (r_move rfl) rfl ?_
      | refine Y_res (r_assign rfl) rfl ?_
      | refine Y_res (r_extract rfl rfl) rfl ?_
    refine X_call rfl rfl (fun w7 h7 => (there_any b A4 cap4 w7 (rds_sl h7.tail.head)).mono ?_)
    rw [h2']
    rintro e w8 ⟨hc8, hif8⟩
    rw [if_pos (vd_ok hob)] at hif8
    obtain ⟨v, rfl, A8, cap8, rfl, hp8, hf8⟩ := hif8
    refine ⟨_, rfl, _, h7.add hc8 hp8 hf8, ?_⟩
    clear hp8 hf8 hc8
    repeat first
      | refine XC_region ?_
      | refine X_nil ?_
      | refine XC_seq ?_
      | refine XT_seq ?_
      | refine Y_res (r_move rfl) rfl ?_
      | refine Y_res (r_assign rfl) rfl ?_
      | refine Y_res (r_extract rfl rfl) rfl ?_
    refine X_call rfl rfl (fun w9 h9 => (rthere_any a A ca w9 (ha.old h9 old_false) hoa).mono ?_)
    rw [← ht]
    rintro e w10 ⟨v, rfl, ⟨A10, cap10, rfl, hp10, hf10⟩, hc10⟩
    refine ⟨_, rfl, _, h9.add hc10 hp10 hf10, ?_⟩
    clear hp10 hf10 hc10
    repeat first
      | refine Y_res (r_move rfl) rfl ?_
      | refine Y_call (g := 15) rfl rfl (fun w1 hM => (same_any t t A2 A10 cap2 cap10 w1 (rds_sl hM.tail.tail.tail.tail.head) (rds_sl hM.head)).mono fun e w2 h => ⟨h.1, hM.keep h.2⟩) ?_
    refine Y_splitT rfl rfl rfl ?_
    repeat first
      | refine Y_res (r_move rfl) rfl ?_
      | refine Y_on rfl rfl ?_
      | refine Y_res (r_pickT rfl rfl) rfl ?_
      | refine Y_call (g := 15) rfl rfl (fun w1 hM => (same_any a a A6 A cap6 ca w1 (rds_sl hM.tail.tail.head) (ha.old hM old_false)).mono fun e w2 h => ⟨h.1, hM.keep h.2⟩) ?_
    refine Y_splitT rfl rfl rfl ?_
    repeat first
      | refine X_nil ?_
      | refine XT_seq ?_
      | refine XC_ret ?_
      | refine Y_res (r_move rfl) rfl ?_
      | refine Y_res (r_assign rfl) rfl ?_
      | refine Y_on rfl rfl ?_
      | refine Y_res (r_pickT rfl rfl) rfl ?_
      | refine Y_call (g := 15) rfl rfl (fun w1 hM => (same_any a a A8 A cap8 ca w1 (rds_sl hM.tail.head) (ha.old hM old_false)).mono fun e w2 h => ⟨h.1, hM.keep h.2⟩) ?_
    exact XT_ret1 (.inl rfl) Try.results3 rfl (fun w5 h5 => ⟨by rw [decide_eq_true rfl], h5.chg⟩)
  · rw [if_neg hva] at hif2
    subst hif2
    have hvf : vd a = false := by simpa using hva
    refine ⟨_, rfl, _, h1.keep hc2, ?_⟩
    clear hc2
    repeat first
      | refine XC_region ?_
      | refine X_nil ?_
      | refine XC_seq ?_
      | refine XT_seq ?_
      | refine Y_res (r_move rfl) rfl ?_
      | refine Y_res (r_assign rfl) rfl ?_
      | refine Y_res (r_extract rfl rfl) rfl ?_
    refine X_call rfl rfl (fun w3 h3 => (back_any a A ca w3 (ha.old h3 old_false)).mono ?_)
    rintro e w4 ⟨hc4, hif4⟩
    rw [if_neg hva] at hif4
    subst hif4
    refine ⟨_, rfl, _, h3.keep hc4, ?_⟩
    clear hc4
    have hrv : ∀ w1, Hp w (fun _ => False) [] w1 → Calls Try.prog 14 #[.slice A a.length ca] w1 fun e w2 => e = .returned (.bool false) ∧ Hp w (fun _ => False) [] w2 := fun w1 hM => (rvalid_any a A ca w1 (ha.old hM old_false)).mono fun e w2 h => ⟨by rw [h.1, hvf], hM.keep h.2⟩
    repeat first
      | refine XC_region ?_
      | refine X_nil ?_
      | refine XC_condT rfl ?_
      | refine XC_condF rfl ?_
      | refine XC_seq ?_
      | refine XT_seq ?_
      | refine XT_then_ret ?_
      | refine XC_skip ?_
      | refine XC_ret ?_
      | refine Y_res (r_move rfl) rfl ?_
      | refine Y_res (r_assign rfl) rfl ?_
      | refine Y_res (r_eql rfl rfl) rfl ?_
      | refine Y_res (r_neqB rfl rfl) rfl ?_
      | refine Y_on rfl rfl ?_
      | refine Y_res (r_notB rfl) rfl ?_
      | refine Y_res (r_len rfl) rfl ?_
      | refine Y_res (r_extract rfl rfl) rfl ?_
      | refine Y_res (r_pickT rfl rfl) rfl ?_
      | refine Y_res (r_pickF rfl rfl) rfl ?_
      | refine Y_call (g := 14) rfl rfl hrv ?_
    exact XT_ret1 (.inl rfl) Try.results3 rfl (fun w5 h5 => ⟨by rfl, h5.chg⟩)
end Go.Proofs.Ytoednaebdfohbaa.NRing
