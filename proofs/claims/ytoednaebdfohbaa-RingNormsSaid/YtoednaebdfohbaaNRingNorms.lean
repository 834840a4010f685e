/- RingNorms, walked: true at every input. -/
import Derived.Test.YtoednaebdfohbaaNRing7
namespace Go.Proofs.Ytoednaebdfohbaa.NRing
open Go Go.RowKit Go.Proofs.Ytoednaebdfohbaa.MX Go.Proofs.Ytoednaebdfohbaa.PRing
set_option linter.unusedVariables false
set_option linter.unusedSimpArgs false
theorem ctr_tmod (n : Int) : -8380416 ≤ n.tmod 8380417 ∧ n.tmod 8380417 ≤ 8380416 ∧ (n.tmod 8380417 - ctr n).tmod 8380417 = 0 := by
  have h1 := Int.emod_add_mul_ediv n 8380417
  have h2 := Int.tmod_add_mul_tdiv n 8380417
  have h3 : Int.sign 8380417 = 1 := by decide
  have hb := Int.emod_nonneg n (show (8380417 : Int) ≠ 0 by decide)
  have hb2 := Int.emod_lt_of_pos n (show (0 : Int) < 8380417 by decide)
  have ht : n.tmod 8380417 = n % 8380417 ∨ (n.tmod 8380417 = n % 8380417 - 8380417 ∧ 0 < n % 8380417) := by
    rw [Int.tdiv_eq_ediv] at h2
    split at h2 <;> omega
  refine ⟨by omega, by omega, ?_⟩
  have hd : n.tmod 8380417 - ctr n = 0 ∨ n.tmod 8380417 - ctr n = 8380417 ∨ n.tmod 8380417 - ctr n = -8380417 := by
    unfold ctr
    split <;> omega
  rcases hd with h | h | h <;> rw [h] <;> decide
set_option maxHeartbeats 1000000 in
set_option maxRecDepth 100000 in
theorem ringNorms_any (l : List Int) (A : Option Addr) (c : Nat) (n : Int) (w : World) (hr : Rds w A c .i64 l) (hwf : ∀ n ∈ l, (Lit.int .i64 n).wf = true) (hn : (Lit.int .i64 n).wf = true) :
    Calls Try.prog 9 #[.slice A l.length c, .int .i64 n] w fun e w' => e = .returned (.bool true) ∧ Chg (fun _ => False) w w' := by
  have hnb := wf64 hn
  have hcb := ctr_bd n
  obtain ⟨ht1, ht2, ht3⟩ := ctr_tmod n
  refine calls_of_X (vs := [_, _]) (M := Hp w (fun _ => False) []) Try.func9 rfl Try.ntmps9 rfl (Hp.nil _ _) ?_
  repeat first
    | refine XC_region ?_
    | refine X_nil ?_
    | refine XC_condF rfl ?_
    | refine XC_seq ?_
    | refine XT_seq ?_
    | refine XC_skip ?_
    | refine Y_res (r_move rfl) rfl ?_
    | refine Y_res (r_assign rfl) rfl ?_
    | refine Y_res (r_notB rfl) rfl ?_
    | refine Y_call (g := 10) rfl rfl (fun w1 hM => (anchor_any w1).mono fun e w2 h => ⟨h.1, hM.keep h.2⟩) ?_
    | refine Y_call (g := 11) rfl rfl (fun w1 hM => (few_any l A c w1).mono fun e w2 h => ⟨h.1, hM.keep h.2⟩) ?_
  refine XC_condN rfl (fun hfew => ?_) (fun hfew => ?_)
  · repeat first
      | refine XC_region ?_
      | refine X_nil ?_
      | refine XC_seq ?_
      | refine XT_seq ?_
      | refine XT_then_ret ?_
      | refine XC_ret ?_
      | refine Y_res (r_assign rfl) rfl ?_
    exact XT_ret1 (.inl rfl) Try.results9 rfl (fun w5 h5 => ⟨rfl, h5.chg⟩)
  repeat first
    | refine XC_region ?_
    | refine X_nil ?_
    | refine XC_seq ?_
    | refine XT_seq ?_
    | refine XC_skip ?_
    | refine Y_res (r_move rfl) rfl ?_
    | refine Y_res (r_assign rfl) rfl ?_
    | refine Y_res (r_sub64 rfl rfl (by omega)) rfl ?_
    | refine Y_res (r_lss rfl rfl) rfl ?_
    | refine Y_res (r_gtr rfl rfl) rfl ?_
    | refine Y_res (r_neq rfl rfl) rfl ?_
    | refine Y_on rfl rfl ?_
    | refine Y_res (r_pickF rfl rfl) rfl ?_
    | refine Y_call (g := 26) rfl rfl (fun w1 hM => (center_any n w1 hnb).mono fun e w2 h => ⟨h.1, hM.keep h.2⟩) ?_
    | refine Y_splitF rfl rfl (by omega) ?_
    | refine Y_res (r_rem' rfl rfl (by decide)) rfl ?_
  refine XC_condP rfl (fun h => absurd ht3 (by first | exact h | omega)) (fun _ => ?_)
  repeat first
    | refine XC_region ?_
    | refine X_nil ?_
    | refine XC_seq ?_
    | refine XT_seq ?_
    | refine XC_skip ?_
    | refine XC_ret ?_
    | refine Y_res (r_move rfl) rfl ?_
    | refine Y_res (r_assign rfl) rfl ?_
    | refine Y_res (r_eql rfl rfl) rfl ?_
    | refine Y_on rfl rfl ?_
    | refine Y_res (r_pickT rfl rfl) rfl ?_
    | refine Y_call (g := 27) rfl rfl (fun w1 hM => (rcenter_any n w1 hnb).mono fun e w2 h => ⟨h.1, hM.keep h.2⟩) ?_
    | refine Y_splitT rfl rfl rfl ?_
    | refine Y_call (g := 28) rfl rfl (fun w1 hM => (norm_any l A c w1 (hr.old hM old_false) hwf).mono fun e w2 h => ⟨h.1, hM.keep h.2⟩) ?_
    | refine Y_call (g := 29) rfl rfl (fun w1 hM => (rnorm_any l A c w1 (hr.old hM old_false) hwf).mono fun e w2 h => ⟨h.1, hM.keep h.2⟩) ?_
  exact XT_ret1 (.inl rfl) Try.results9 rfl (fun w5 h5 => ⟨by rw [decide_eq_true rfl], h5.chg⟩)
end Go.Proofs.Ytoednaebdfohbaa.NRing
