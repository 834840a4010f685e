/- RingUnits, walked: true at every input. -/
import Derived.Test.YtoednaebdfohbaaNRingA
namespace Go.Proofs.Ytoednaebdfohbaa.NRing
open Go Go.RowKit Go.Proofs.Ytoednaebdfohbaa.MX Go.Proofs.Ytoednaebdfohbaa.PRing
set_option linter.unusedVariables false
set_option linter.unusedSimpArgs false
set_option maxHeartbeats 4000000 in
set_option maxRecDepth 100000 in
theorem ringUnits_any (a : List Int) (A : Option Addr) (ca : Nat) (b : List Int) (B : Option Addr) (cb : Nat) (w : World) (ha : Rds w A ca .i64 a) (hwa : ∀ n ∈ a, (Lit.int .i64 n).wf = true) (hb : Rds w B cb .i64 b) (hwb : ∀ n ∈ b, (Lit.int .i64 n).wf = true) :
    Calls Try.prog 8 #[.slice A a.length ca, .slice B b.length cb] w fun e w' => e = .returned (.bool true) ∧ Chg (fun _ => False) w w' := by
  refine calls_of_X (vs := [_, _]) (M := Hp w (fun _ => False) []) Try.func8 rfl Try.ntmps8 rfl (Hp.nil _ _) ?_
  repeat first
    | refine XC_region ?_
    | refine X_nil ?_
    | refine XC_condF rfl ?_
    | refine XC_seq ?_
    | refine XT_seq ?_
    | refine XC_skip ?_
    | refine Y_res (r_move rfl) rfl ?_
    | refine Y_res (r_assign rfl) rfl ?_
    | refine Y_res (r_notB rfl) rfl ?_
    | refine Y_call (g := 10) rfl rfl (fun w1 hM => (anchor_any w1).mono fun e w2 h => ⟨h.1, hM.keep h.2⟩) ?_
  by_cases hva : vd a = true
  · by_cases hvb : vd b = true
    · have oa := ok_vd hva
      have ob := ok_vd hvb
      have hla := oa.1
      have hlb := ob.1
      have vz := vd_ok zeros_ok
      repeat first
        | refine XC_region ?_
        | refine X_nil ?_
        | refine XC_condF rfl ?_
        | refine XC_seq ?_
        | refine XT_seq ?_
        | refine XC_skip ?_
        | refine Y_res (r_move rfl) rfl ?_
        | refine Y_res (r_assign rfl) rfl ?_
        | refine Y_on rfl rfl ?_
        | refine Y_res (r_notB rfl) rfl ?_
        | refine Y_res (r_pickF rfl rfl) rfl ?_
        | (refine X_buildS (by rfl) (by rfl) (by simp) rfl ?_; intro _ _)
        | (refine X_make rfl rfl (by omega) (by omega) (by omega) rfl ?_; intro _ _)
        | refine Y_call (g := 14) rfl rfl (fun w1 hM => (rvalid_is _ _ _ w1 (by first | exact Rds.old (by assumption) hM old_false | exact rds_sl (PkS.has inferInstance hM)) (by assumption)).mono fun e w2 h => ⟨h.1, hM.keep h.2⟩) ?_
        | (refine X_appendI rfl rfl (fun w_ hM => (by first | exact Rds.old (by assumption) hM old_false | exact rds_sl (PkS.has inferInstance hM))) rfl rfl rfl (by first | omega | (simp only [List.length_nil]; omega)) (by first | omega | (simp only [List.length_nil]; omega)) rfl ?_; intro _ _; simp only [List.nil_append])
      obtain ⟨z, hz⟩ : ∃ z, z = List.replicate 256 (0 : Int) := ⟨_, rfl⟩
      rw [← hz] at vz ⊢
      have hlz : z.length = 256 := by rw [hz, List.length_replicate]
      rename_i gz hgz
      refine Y_re (e := 6) (v' := .slice (some ⟨gz, 0, none⟩) z.length 256) rfl (by rw [hlz]) ?_
      refine Y_re (e := 35) (v' := .slice (some ⟨gz, 0, none⟩) z.length 256) rfl (by rw [hlz]) ?_
      repeat first
        | refine X_told (g := 19) rfl rfl ⟨by assumption, by assumption⟩ (fun w1 hM => add_any _ _ _ _ _ _ w1 (by first | exact Rds.old (by assumption) hM old_false | exact rds_sl (PkS.has inferInstance hM)) (by first | exact Rds.old (by assumption) hM old_false | exact rds_sl (PkS.has inferInstance hM))) ?_
      intro A1 c1 x1 h1
      repeat first
        | refine XC_region ?_
        | refine X_nil ?_
        | refine XC_seq ?_
        | refine XT_seq ?_
        | refine Y_res (r_move rfl) rfl ?_
        | refine Y_res (r_assign rfl) rfl ?_
        | refine Y_res (r_extract rfl rfl) rfl ?_
        | refine X_told (g := 23) rfl rfl ⟨by assumption, by assumption⟩ (fun w1 hM => sub_any _ _ _ _ _ _ w1 (by first | exact Rds.old (by assumption) hM old_false | exact rds_sl (PkS.has inferInstance hM)) (by first | exact Rds.old (by assumption) hM old_false | exact rds_sl (PkS.has inferInstance hM))) ?_
      intro A2 c2 x2 h2
      repeat first
        | refine XC_region ?_
        | refine X_nil ?_
        | refine XC_seq ?_
        | refine XT_seq ?_
        | refine Y_res (r_move rfl) rfl ?_
        | refine Y_res (r_assign rfl) rfl ?_
        | refine Y_res (r_extract rfl rfl) rfl ?_
        | refine X_newl (g := 18) rfl rfl (fun w1 hM => lpower_any 0 w1 (by decide)) ?_
      intro A3 c3 x3 h3
      have v3 : vd x3 = true := by rw [h3]; exact vd_ok (ck_ok (by decide) (by decide))
      repeat first
        | refine X_told (g := 17) rfl rfl ⟨by assumption, by assumption⟩ (fun w1 hM => mul_any _ _ _ _ _ _ w1 (by first | exact Rds.old (by assumption) hM old_false | exact rds_sl (PkS.has inferInstance hM)) (by first | exact Rds.old (by assumption) hM old_false | exact rds_sl (PkS.has inferInstance hM))) ?_
      intro A4 c4 x4 h4
      repeat first
        | refine XC_region ?_
        | refine X_nil ?_
        | refine XC_seq ?_
        | refine XT_seq ?_
        | refine Y_res (r_move rfl) rfl ?_
        | refine Y_res (r_assign rfl) rfl ?_
        | refine Y_res (r_extract rfl rfl) rfl ?_
        | refine X_told (g := 17) rfl rfl ⟨by assumption, by assumption⟩ (fun w1 hM => mul_any _ _ _ _ _ _ w1 (by first | exact Rds.old (by assumption) hM old_false | exact rds_sl (PkS.has inferInstance hM)) (by first | exact Rds.old (by assumption) hM old_false | exact rds_sl (PkS.has inferInstance hM))) ?_
      intro A5 c5 x5 h5
      repeat first
        | refine XC_region ?_
        | refine X_nil ?_
        | refine XC_seq ?_
        | refine XT_seq ?_
        | refine Y_res (r_move rfl) rfl ?_
        | refine Y_res (r_assign rfl) rfl ?_
        | refine Y_res (r_extract rfl rfl) rfl ?_
        | refine X_told (g := 19) rfl rfl ⟨by assumption, by assumption⟩ (fun w1 hM => add_any _ _ _ _ _ _ w1 (by first | exact Rds.old (by assumption) hM old_false | exact rds_sl (PkS.has inferInstance hM)) (by first | exact Rds.old (by assumption) hM old_false | exact rds_sl (PkS.has inferInstance hM))) ?_
      intro A6 c6 x6 h6
      have o6 : Ok x6 := by rw [h6]; exact addP_ok _ _
      have v6 := vd_ok o6
      repeat first
        | refine XC_region ?_
        | refine X_nil ?_
        | refine XC_seq ?_
        | refine XT_seq ?_
        | refine Y_res (r_move rfl) rfl ?_
        | refine Y_res (r_assign rfl) rfl ?_
        | refine Y_res (r_extract rfl rfl) rfl ?_
        | refine X_told (g := 23) rfl rfl ⟨by assumption, by assumption⟩ (fun w1 hM => sub_any _ _ _ _ _ _ w1 (by first | exact Rds.old (by assumption) hM old_false | exact rds_sl (PkS.has inferInstance hM)) (by first | exact Rds.old (by assumption) hM old_false | exact rds_sl (PkS.has inferInstance hM))) ?_
      intro A7 c7 x7 h7
      repeat first
        | refine XC_region ?_
        | refine X_nil ?_
        | refine XC_seq ?_
        | refine XT_seq ?_
        | refine Y_res (r_move rfl) rfl ?_
        | refine Y_res (r_assign rfl) rfl ?_
        | refine Y_res (r_extract rfl rfl) rfl ?_
        | refine X_told (g := 12) rfl rfl (by assumption) (fun w1 hM => there_any _ _ _ w1 (by first | exact Rds.old (by assumption) hM old_false | exact rds_sl (PkS.has inferInstance hM))) ?_
      intro A8 c8 x8 h8
      repeat first
        | refine XC_region ?_
        | refine X_nil ?_
        | refine XC_seq ?_
        | refine XT_seq ?_
        | refine Y_res (r_move rfl) rfl ?_
        | refine X_told (g := 13) rfl rfl (by assumption) (fun w1 hM => back_any _ _ _ w1 (by first | exact Rds.old (by assumption) hM old_false | exact rds_sl (PkS.has inferInstance hM))) ?_
      intro A9 c9 x9 h9
      have e1 : x1 = a := by rw [h1, hz, addL_P]; exact add_zero oa
      have e2 : x2 = z := by rw [h2, hz, subL_P]; exact sub_self'
      have e3 : x4 = a := by rw [h4, h3, mulL_P]; exact mul_one' oa
      have e4 : x5 = z := by rw [h5, hz, mulL_P]; exact mul_zero' a
      have e5 : x7 = a := by rw [h7, h6, subL_P, addL_P]; exact add_sub oa ob
      repeat first
        | refine XC_region ?_
        | refine X_nil ?_
        | refine XC_seq ?_
        | refine XT_seq ?_
        | refine XC_ret ?_
        | refine Y_res (r_move rfl) rfl ?_
        | refine Y_res (r_assign rfl) rfl ?_
        | refine Y_on rfl rfl ?_
        | refine Y_res (r_pickT rfl rfl) rfl ?_
        | refine Y_call (g := 15) rfl rfl (fun w1 hM => (same_any _ _ _ _ _ _ w1 (by first | exact Rds.old (by assumption) hM old_false | exact rds_sl (PkS.has inferInstance hM)) (by first | exact Rds.old (by assumption) hM old_false | exact rds_sl (PkS.has inferInstance hM))).mono fun e w2 h => ⟨h.1, hM.keep h.2⟩) ?_
        | refine Y_call (g := 15) rfl rfl (fun w1 hM => (same_any _ _ _ _ _ _ w1 (by first | exact Rds.old (by assumption) hM old_false | exact rds_sl (PkS.has inferInstance hM)) (by first | exact Rds.old (by assumption) hM old_false | exact rds_sl (PkS.has inferInstance hM))).mono fun e w2 h => ⟨h.1, hM.keep h.2⟩) ?_
        | refine Y_splitT rfl rfl (by assumption) ?_
      exact XT_ret1 (.inl rfl) Try.results8 rfl (fun w5 h5 => ⟨by rw [decide_eq_true rfl], h5.chg⟩)
    · have hvb := Bool.eq_false_iff.2 hvb
      repeat first
        | refine XC_region ?_
        | refine X_nil ?_
        | refine XC_condT rfl ?_
        | refine XC_seq ?_
        | refine XT_seq ?_
        | refine XT_then_ret ?_
        | refine XC_ret ?_
        | refine Y_res (r_move rfl) rfl ?_
        | refine Y_res (r_assign rfl) rfl ?_
        | refine Y_on rfl rfl ?_
        | refine Y_res (r_notB rfl) rfl ?_
        | refine Y_res (r_pickF rfl rfl) rfl ?_
        | refine Y_call (g := 14) rfl rfl (fun w1 hM => (rvalid_is _ _ _ w1 (by first | exact Rds.old (by assumption) hM old_false | exact rds_sl (PkS.has inferInstance hM)) (by assumption)).mono fun e w2 h => ⟨h.1, hM.keep h.2⟩) ?_
      exact XT_ret1 (.inl rfl) Try.results8 rfl (fun w5 h5 => ⟨rfl, h5.chg⟩)
  · have hva := Bool.eq_false_iff.2 hva
    repeat first
      | refine XC_region ?_
      | refine X_nil ?_
      | refine XC_condT rfl ?_
      | refine XC_seq ?_
      | refine XT_seq ?_
      | refine XT_then_ret ?_
      | refine XC_ret ?_
      | refine Y_res (r_move rfl) rfl ?_
      | refine Y_res (r_assign rfl) rfl ?_
      | refine Y_off rfl rfl rfl ?_
      | refine Y_res (r_notB rfl) rfl ?_
      | refine Y_res (r_pickT rfl rfl) rfl ?_
      | refine Y_call (g := 14) rfl rfl (fun w1 hM => (rvalid_is _ _ _ w1 (by first | exact Rds.old (by assumption) hM old_false | exact rds_sl (PkS.has inferInstance hM)) (by assumption)).mono fun e w2 h => ⟨h.1, hM.keep h.2⟩) ?_
    exact XT_ret1 (.inl rfl) Try.results8 rfl (fun w5 h5 => ⟨rfl, h5.chg⟩)
end Go.Proofs.Ytoednaebdfohbaa.NRing
