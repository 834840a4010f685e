/- RingLaws, walked: true at every input. -/
import Derived.Test.YtoednaebdfohbaaNRingA
namespace Go.Proofs.Ytoednaebdfohbaa.NRing
open Go Go.RowKit Go.Proofs.Ytoednaebdfohbaa.MX Go.Proofs.Ytoednaebdfohbaa.PRing
set_option linter.unusedVariables false
set_option linter.unusedSimpArgs false
set_option maxHeartbeats 4000000 in
set_option maxRecDepth 100000 in
theorem ringLaws_any (a : List Int) (A : Option Addr) (ca : Nat) (b : List Int) (B : Option Addr) (cb : Nat) (c : List Int) (C : Option Addr) (cc : Nat) (w : World) (ha : Rds w A ca .i64 a) (hwa : ∀ n ∈ a, (Lit.int .i64 n).wf = true) (hb : Rds w B cb .i64 b) (hwb : ∀ n ∈ b, (Lit.int .i64 n).wf = true) (hc : Rds w C cc .i64 c) (hwc : ∀ n ∈ c, (Lit.int .i64 n).wf = true) :
    Calls Try.prog 5 #[.slice A a.length ca, .slice B b.length cb, .slice C c.length cc] w fun e w' => e = .returned (.bool true) ∧ Chg (fun _ => False) w w' := by
  refine calls_of_X (vs := [_, _, _]) (M := Hp w (fun _ => False) []) Try.func5 rfl Try.ntmps5 rfl (Hp.nil _ _) ?_
  repeat first
    | refine XC_region ?_
    | refine X_nil ?_
    | refine XC_condF rfl ?_
    | refine XC_seq ?_
    | refine XT_seq ?_
    | refine XC_skip ?_
    | refine Y_res (r_move rfl) rfl ?_
    | refine Y_res (r_assign rfl) rfl ?_
    | refine Y_res (r_notB rfl) rfl ?_
    | refine Y_call (g := 10) rfl rfl (fun w1 hM => (anchor_any w1).mono fun e w2 h => ⟨h.1, hM.keep h.2⟩) ?_
  by_cases hva : vd a = true
  · by_cases hvb : vd b = true
    · by_cases hvc : vd c = true
      · have oa := ok_vd hva
        have ob := ok_vd hvb
        have oc := ok_vd hvc
        repeat first
          | refine XC_region ?_
          | refine X_nil ?_
          | refine XC_condF rfl ?_
          | refine XC_seq ?_
          | refine XT_seq ?_
          | refine XC_skip ?_
          | refine Y_res (r_move rfl) rfl ?_
          | refine Y_on rfl rfl ?_
          | refine Y_res (r_notB rfl) rfl ?_
          | refine Y_res (r_pickF rfl rfl) rfl ?_
          | refine Y_call (g := 14) rfl rfl (fun w1 hM => (rvalid_is _ _ _ w1 (by first | exact Rds.old (by assumption) hM old_false | exact rds_sl (PkS.has inferInstance hM)) (by assumption)).mono fun e w2 h => ⟨h.1, hM.keep h.2⟩) ?_
        refine X_told (g := 17) rfl rfl ⟨by assumption, by assumption⟩ (fun w1 hM => mul_any _ _ _ _ _ _ w1 (by first | exact Rds.old (by assumption) hM old_false | exact rds_sl (PkS.has inferInstance hM)) (by first | exact Rds.old (by assumption) hM old_false | exact rds_sl (PkS.has inferInstance hM))) ?_
        intro A1 c1 x1 h1
        have o1 : Ok x1 := by rw [h1]; exact bck_ok _
        have v1 := vd_ok o1
        repeat first
          | refine XC_region ?_
          | refine X_nil ?_
          | refine XC_seq ?_
          | refine XT_seq ?_
          | refine Y_res (r_move rfl) rfl ?_
          | refine Y_res (r_assign rfl) rfl ?_
          | refine Y_res (r_extract rfl rfl) rfl ?_
        refine X_told (g := 17) rfl rfl ⟨by assumption, by assumption⟩ (fun w1 hM => mul_any _ _ _ _ _ _ w1 (by first | exact Rds.old (by assumption) hM old_false | exact rds_sl (PkS.has inferInstance hM)) (by first | exact Rds.old (by assumption) hM old_false | exact rds_sl (PkS.has inferInstance hM))) ?_
        intro A2 c2 x2 h2
        have o2 : Ok x2 := by rw [h2]; exact bck_ok _
        have v2 := vd_ok o2
        repeat first
          | refine XC_region ?_
          | refine X_nil ?_
          | refine XC_seq ?_
          | refine XT_seq ?_
          | refine Y_res (r_move rfl) rfl ?_
          | refine Y_res (r_assign rfl) rfl ?_
          | refine Y_res (r_extract rfl rfl) rfl ?_
        refine X_told (g := 17) rfl rfl ⟨by assumption, by assumption⟩ (fun w1 hM => mul_any _ _ _ _ _ _ w1 (by first | exact Rds.old (by assumption) hM old_false | exact rds_sl (PkS.has inferInstance hM)) (by first | exact Rds.old (by assumption) hM old_false | exact rds_sl (PkS.has inferInstance hM))) ?_
        intro A3 c3 x3 h3
        have o3 : Ok x3 := by rw [h3]; exact bck_ok _
        have v3 := vd_ok o3
        repeat first
          | refine XC_region ?_
          | refine X_nil ?_
          | refine XC_seq ?_
          | refine XT_seq ?_
          | refine Y_res (r_move rfl) rfl ?_
          | refine Y_res (r_assign rfl) rfl ?_
          | refine Y_res (r_extract rfl rfl) rfl ?_
        refine X_told (g := 17) rfl rfl ⟨by assumption, by assumption⟩ (fun w1 hM => mul_any _ _ _ _ _ _ w1 (by first | exact Rds.old (by assumption) hM old_false | exact rds_sl (PkS.has inferInstance hM)) (by first | exact Rds.old (by assumption) hM old_false | exact rds_sl (PkS.has inferInstance hM))) ?_
        intro A4 c4 x4 h4
        repeat first
          | refine XC_region ?_
          | refine X_nil ?_
          | refine XC_seq ?_
          | refine XT_seq ?_
          | refine Y_res (r_move rfl) rfl ?_
          | refine Y_res (r_assign rfl) rfl ?_
          | refine Y_res (r_extract rfl rfl) rfl ?_
        refine X_told (g := 17) rfl rfl ⟨by assumption, by assumption⟩ (fun w1 hM => mul_any _ _ _ _ _ _ w1 (by first | exact Rds.old (by assumption) hM old_false | exact rds_sl (PkS.has inferInstance hM)) (by first | exact Rds.old (by assumption) hM old_false | exact rds_sl (PkS.has inferInstance hM))) ?_
        intro A5 c5 x5 h5
        repeat first
          | refine XC_region ?_
          | refine X_nil ?_
          | refine XC_seq ?_
          | refine XT_seq ?_
          | refine Y_res (r_move rfl) rfl ?_
          | refine Y_res (r_assign rfl) rfl ?_
          | refine Y_res (r_extract rfl rfl) rfl ?_
        refine X_told (g := 19) rfl rfl ⟨by assumption, by assumption⟩ (fun w1 hM => add_any _ _ _ _ _ _ w1 (by first | exact Rds.old (by assumption) hM old_false | exact rds_sl (PkS.has inferInstance hM)) (by first | exact Rds.old (by assumption) hM old_false | exact rds_sl (PkS.has inferInstance hM))) ?_
        intro A6 c6 x6 h6
        have o6 : Ok x6 := by rw [h6]; exact addP_ok _ _
        have v6 := vd_ok o6
        repeat first
          | refine XC_region ?_
          | refine X_nil ?_
          | refine XC_seq ?_
          | refine XT_seq ?_
          | refine Y_res (r_move rfl) rfl ?_
          | refine Y_res (r_assign rfl) rfl ?_
          | refine Y_res (r_extract rfl rfl) rfl ?_
        refine X_told (g := 17) rfl rfl ⟨by assumption, by assumption⟩ (fun w1 hM => mul_any _ _ _ _ _ _ w1 (by first | exact Rds.old (by assumption) hM old_false | exact rds_sl (PkS.has inferInstance hM)) (by first | exact Rds.old (by assumption) hM old_false | exact rds_sl (PkS.has inferInstance hM))) ?_
        intro A7 c7 x7 h7
        repeat first
          | refine XC_region ?_
          | refine X_nil ?_
          | refine XC_seq ?_
          | refine XT_seq ?_
          | refine Y_res (r_move rfl) rfl ?_
          | refine Y_res (r_assign rfl) rfl ?_
          | refine Y_res (r_extract rfl rfl) rfl ?_
        refine X_told (g := 17) rfl rfl ⟨by assumption, by assumption⟩ (fun w1 hM => mul_any _ _ _ _ _ _ w1 (by first | exact Rds.old (by assumption) hM old_false | exact rds_sl (PkS.has inferInstance hM)) (by first | exact Rds.old (by assumption) hM old_false | exact rds_sl (PkS.has inferInstance hM))) ?_
        intro A8 c8 x8 h8
        have o8 : Ok x8 := by rw [h8]; exact bck_ok _
        have v8 := vd_ok o8
        repeat first
          | refine XC_region ?_
          | refine X_nil ?_
          | refine XC_seq ?_
          | refine XT_seq ?_
          | refine Y_res (r_move rfl) rfl ?_
          | refine Y_res (r_assign rfl) rfl ?_
          | refine Y_res (r_extract rfl rfl) rfl ?_
        refine X_told (g := 19) rfl rfl ⟨by assumption, by assumption⟩ (fun w1 hM => add_any _ _ _ _ _ _ w1 (by first | exact Rds.old (by assumption) hM old_false | exact rds_sl (PkS.has inferInstance hM)) (by first | exact Rds.old (by assumption) hM old_false | exact rds_sl (PkS.has inferInstance hM))) ?_
        intro A9 c9 x9 h9
        repeat first
          | refine XC_region ?_
          | refine X_nil ?_
          | refine XC_seq ?_
          | refine XT_seq ?_
          | refine Y_res (r_move rfl) rfl ?_
          | refine Y_res (r_assign rfl) rfl ?_
          | refine Y_res (r_extract rfl rfl) rfl ?_
        refine X_told (g := 12) rfl rfl (by assumption) (fun w1 hM => there_any _ _ _ w1 (by first | exact Rds.old (by assumption) hM old_false | exact rds_sl (PkS.has inferInstance hM))) ?_
        intro A10 c10 x10 h10
        repeat first
          | refine XC_region ?_
          | refine X_nil ?_
          | refine XC_seq ?_
          | refine XT_seq ?_
          | refine Y_res (r_move rfl) rfl ?_
          | refine Y_res (r_assign rfl) rfl ?_
          | refine Y_res (r_extract rfl rfl) rfl ?_
        refine X_told (g := 12) rfl rfl (by assumption) (fun w1 hM => there_any _ _ _ w1 (by first | exact Rds.old (by assumption) hM old_false | exact rds_sl (PkS.has inferInstance hM))) ?_
        intro A11 c11 x11 h11
        have o11 : Ok x11 := by rw [h11]; exact thr_ok oa
        have v11 := vd_ok o11
        repeat first
          | refine XC_region ?_
          | refine X_nil ?_
          | refine XC_seq ?_
          | refine XT_seq ?_
          | refine Y_res (r_move rfl) rfl ?_
          | refine Y_res (r_assign rfl) rfl ?_
          | refine Y_res (r_extract rfl rfl) rfl ?_
        refine X_told (g := 12) rfl rfl (by assumption) (fun w1 hM => there_any _ _ _ w1 (by first | exact Rds.old (by assumption) hM old_false | exact rds_sl (PkS.has inferInstance hM))) ?_
        intro A12 c12 x12 h12
        have o12 : Ok x12 := by rw [h12]; exact thr_ok ob
        have v12 := vd_ok o12
        repeat first
          | refine XC_region ?_
          | refine X_nil ?_
          | refine XC_seq ?_
          | refine XT_seq ?_
          | refine Y_res (r_move rfl) rfl ?_
          | refine Y_res (r_assign rfl) rfl ?_
          | refine Y_res (r_extract rfl rfl) rfl ?_
        refine X_told (g := 20) rfl rfl ⟨by assumption, by assumption⟩ (fun w1 hM => point_any _ _ _ _ _ _ w1 (by first | exact Rds.old (by assumption) hM old_false | exact rds_sl (PkS.has inferInstance hM)) (by first | exact Rds.old (by assumption) hM old_false | exact rds_sl (PkS.has inferInstance hM))) ?_
        intro A13 c13 x13 h13
        have e1 : x1 = x2 := by rw [h1, h2, mulL_P, mulL_P]; exact mulP_comm _ _
        have e2 : x4 = x5 := by rw [h4, h5, h1, h3, mulL_P, mulL_P, mulL_P, mulL_P]; exact mulP_assoc _ _ _
        have e3 : x7 = x9 := by rw [h7, h9, h6, h1, h8, mulL_P, mulL_P, mulL_P, addL_P, addL_P]; exact mulP_add _ _ _
        have e4 : x10 = x13 := by rw [h10, h13, h1, h11, h12, mulL_P]; exact thr_mulP _ _
        have hl1 := o1.1
        repeat first
          | refine XC_region ?_
          | refine X_nil ?_
          | refine XC_seq ?_
          | refine XT_seq ?_
          | refine XC_ret ?_
          | refine Y_res (r_move rfl) rfl ?_
          | refine Y_res (r_assign rfl) rfl ?_
          | refine Y_res (r_eql rfl rfl) rfl ?_
          | refine Y_on rfl rfl ?_
          | refine Y_res (r_len rfl) rfl ?_
          | refine Y_res (r_extract rfl rfl) rfl ?_
          | refine Y_res (r_pickT rfl rfl) rfl ?_
          | refine Y_call (g := 15) rfl rfl (fun w1 hM => (same_any _ _ _ _ _ _ w1 (by first | exact Rds.old (by assumption) hM old_false | exact rds_sl (PkS.has inferInstance hM)) (by first | exact Rds.old (by assumption) hM old_false | exact rds_sl (PkS.has inferInstance hM))).mono fun e w2 h => ⟨h.1, hM.keep h.2⟩) ?_
          | refine Y_splitT rfl rfl (by omega) ?_
          | refine Y_splitT rfl rfl (by assumption) ?_
        exact XT_ret1 (.inl rfl) Try.results5 rfl (fun w5 h5 => ⟨by rw [decide_eq_true e4], h5.chg⟩)
      · have hvc := Bool.eq_false_iff.2 hvc
        repeat first
          | refine XC_region ?_
          | refine X_nil ?_
          | refine XC_condT rfl ?_
          | refine XC_seq ?_
          | refine XT_seq ?_
          | refine XT_then_ret ?_
          | refine XC_ret ?_
          | refine Y_res (r_move rfl) rfl ?_
          | refine Y_res (r_assign rfl) rfl ?_
          | refine Y_on rfl rfl ?_
          | refine Y_res (r_notB rfl) rfl ?_
          | refine Y_res (r_pickF rfl rfl) rfl ?_
          | refine Y_call (g := 14) rfl rfl (fun w1 hM => (rvalid_is _ _ _ w1 (by first | exact Rds.old (by assumption) hM old_false | exact rds_sl (PkS.has inferInstance hM)) (by assumption)).mono fun e w2 h => ⟨h.1, hM.keep h.2⟩) ?_
        exact XT_ret1 (.inl rfl) Try.results5 rfl (fun w5 h5 => ⟨rfl, h5.chg⟩)
    · have hvb := Bool.eq_false_iff.2 hvb
      repeat first
        | refine XC_region ?_
        | refine X_nil ?_
        | refine XC_condT rfl ?_
        | refine XC_seq ?_
        | refine XT_seq ?_
        | refine XT_then_ret ?_
        | refine XC_ret ?_
        | refine Y_res (r_move rfl) rfl ?_
        | refine Y_res (r_assign rfl) rfl ?_
        | refine Y_on rfl rfl ?_
        | refine Y_off rfl rfl rfl ?_
        | refine Y_res (r_notB rfl) rfl ?_
        | refine Y_res (r_pickT rfl rfl) rfl ?_
        | refine Y_res (r_pickF rfl rfl) rfl ?_
        | refine Y_call (g := 14) rfl rfl (fun w1 hM => (rvalid_is _ _ _ w1 (by first | exact Rds.old (by assumption) hM old_false | exact rds_sl (PkS.has inferInstance hM)) (by assumption)).mono fun e w2 h => ⟨h.1, hM.keep h.2⟩) ?_
      exact XT_ret1 (.inl rfl) Try.results5 rfl (fun w5 h5 => ⟨rfl, h5.chg⟩)
  · have hva := Bool.eq_false_iff.2 hva
    repeat first
      | refine XC_region ?_
      | refine X_nil ?_
      | refine XC_condT rfl ?_
      | refine XC_seq ?_
      | refine XT_seq ?_
      | refine XT_then_ret ?_
      | refine XC_ret ?_
      | refine Y_res (r_move rfl) rfl ?_
      | refine Y_res (r_assign rfl) rfl ?_
      | refine Y_off rfl rfl rfl ?_
      | refine Y_res (r_notB rfl) rfl ?_
      | refine Y_res (r_pickT rfl rfl) rfl ?_
      | refine Y_call (g := 14) rfl rfl (fun w1 hM => (rvalid_is _ _ _ w1 (by first | exact Rds.old (by assumption) hM old_false | exact rds_sl (PkS.has inferInstance hM)) (by assumption)).mono fun e w2 h => ⟨h.1, hM.keep h.2⟩) ?_
    exact XT_ret1 (.inl rfl) Try.results5 rfl (fun w5 h5 => ⟨rfl, h5.chg⟩)
end Go.Proofs.Ytoednaebdfohbaa.NRing
