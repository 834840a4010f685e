/- RingSums, walked: true at every input. -/
import Derived.Test.YtoednaebdfohbaaNRingA
namespace Go.Proofs.Ytoednaebdfohbaa.NRing
open Go Go.RowKit Go.Proofs.Ytoednaebdfohbaa.MX Go.Proofs.Ytoednaebdfohbaa.PRing
set_option linter.unusedVariables false
set_option linter.unusedSimpArgs false
theorem valid_is (a : List Int) (A : Option Addr) (c : Nat) (w : World) (hr : Rds w A c .i64 a) {b : Bool} (h : vd a = b) : Calls Try.prog 24 #[.slice A a.length c] w fun e w' => e = .returned (.bool b) ∧ Chg (fun _ => False) w w' := by
  rw [← h]; exact valid_any a A c w hr
theorem few_is (a : List Int) (A : Option Addr) (c : Nat) (w : World) {b : Bool} (h : decide (a.length ≤ 1000) = b) : Calls Try.prog 11 #[.slice A a.length c] w fun e w' => e = .returned (.bool b) ∧ Chg (fun _ => False) w w' := by
  rw [← h]; exact few_any a A c w
set_option maxHeartbeats 4000000 in
set_option maxRecDepth 100000 in
theorem ringSums_any (a : List Int) (A : Option Addr) (ca : Nat) (b : List Int) (B : Option Addr) (cb : Nat) (w : World) (ha : Rds w A ca .i64 a) (hwa : ∀ n ∈ a, (Lit.int .i64 n).wf = true) (hb : Rds w B cb .i64 b) (hwb : ∀ n ∈ b, (Lit.int .i64 n).wf = true) :
    Calls Try.prog 7 #[.slice A a.length ca, .slice B b.length cb] w fun e w' => e = .returned (.bool true) ∧ Chg (fun _ => False) w w' := by
  refine calls_of_X (vs := [_, _]) (M := Hp w (fun _ => False) []) Try.func7 rfl Try.ntmps7 rfl (Hp.nil _ _) ?_
  repeat first
    | refine XC_region ?_
    | refine X_nil ?_
    | refine XC_condF rfl ?_
    | refine XC_seq ?_
    | refine XT_seq ?_
    | refine XC_skip ?_
    | refine Y_res (r_move rfl) rfl ?_
    | refine Y_res (r_assign rfl) rfl ?_
    | refine Y_res (r_notB rfl) rfl ?_
    | refine Y_call (g := 10) rfl rfl (fun w1 hM => (anchor_any w1).mono fun e w2 h => ⟨h.1, hM.keep h.2⟩) ?_
  rcases hfa : decide (a.length ≤ 1000) with _ | _
  · repeat first
      | refine XC_region ?_
      | refine X_nil ?_
      | refine XC_condT rfl ?_
      | refine XC_seq ?_
      | refine XT_seq ?_
      | refine XT_then_ret ?_
      | refine XC_ret ?_
      | refine Y_res (r_move rfl) rfl ?_
      | refine Y_res (r_assign rfl) rfl ?_
      | refine Y_off rfl rfl rfl ?_
      | refine Y_res (r_notB rfl) rfl ?_
      | refine Y_res (r_pickT rfl rfl) rfl ?_
      | refine Y_call (g := 11) rfl rfl (fun w1 hM => (few_is _ _ _ w1 (by assumption)).mono fun e w2 h => ⟨h.1, hM.keep h.2⟩) ?_
    exact XT_ret1 (.inl rfl) Try.results7 rfl (fun w5 h5 => ⟨rfl, h5.chg⟩)
  rcases hfb : decide (b.length ≤ 1000) with _ | _
  · repeat first
      | refine XC_region ?_
      | refine X_nil ?_
      | refine XC_condT rfl ?_
      | refine XC_seq ?_
      | refine XT_seq ?_
      | refine XT_then_ret ?_
      | refine XC_ret ?_
      | refine Y_res (r_move rfl) rfl ?_
      | refine Y_res (r_assign rfl) rfl ?_
      | refine Y_on rfl rfl ?_
      | refine Y_res (r_notB rfl) rfl ?_
      | refine Y_res (r_pickF rfl rfl) rfl ?_
      | refine Y_call (g := 11) rfl rfl (fun w1 hM => (few_is _ _ _ w1 (by assumption)).mono fun e w2 h => ⟨h.1, hM.keep h.2⟩) ?_
    exact XT_ret1 (.inl rfl) Try.results7 rfl (fun w5 h5 => ⟨rfl, h5.chg⟩)
  rcases hva : vd a with _ | _
  · have hno : ¬ (vd a = true ∧ vd b = true) := by rw [hva]; exact fun h => (by cases h.1)
    repeat first
      | refine XC_region ?_
      | refine X_nil ?_
      | refine XC_condT rfl ?_
      | refine XC_condF rfl ?_
      | refine XC_seq ?_
      | refine XT_seq ?_
      | refine XT_then_ret ?_
      | refine XC_skip ?_
      | refine XC_ret ?_
      | refine Y_res (r_move rfl) rfl ?_
      | refine Y_res (r_assign rfl) rfl ?_
      | refine Y_res (r_eql rfl rfl) rfl ?_
      | refine Y_res (r_neqB rfl rfl) rfl ?_
      | refine Y_on rfl rfl ?_
      | refine Y_off rfl rfl rfl ?_
      | refine Y_res (r_notB rfl) rfl ?_
      | refine Y_res (r_len rfl) rfl ?_
      | refine Y_res (r_extract rfl rfl) rfl ?_
      | refine Y_res (r_pickT rfl rfl) rfl ?_
      | refine Y_res (r_pickF rfl rfl) rfl ?_
      | refine Y_call (g := 11) rfl rfl (fun w1 hM => (few_is _ _ _ w1 (by assumption)).mono fun e w2 h => ⟨h.1, hM.keep h.2⟩) ?_
      | refine Y_call (g := 14) rfl rfl (fun w1 hM => (rvalid_is _ _ _ w1 (by first | exact Rds.old (by assumption) hM old_false | exact rds_sl (PkS.has inferInstance hM)) (by assumption)).mono fun e w2 h => ⟨h.1, hM.keep h.2⟩) ?_
      | refine Y_call (g := 24) rfl rfl (fun w1 hM => (valid_is _ _ _ w1 (by first | exact Rds.old (by assumption) hM old_false | exact rds_sl (PkS.has inferInstance hM)) (by assumption)).mono fun e w2 h => ⟨h.1, hM.keep h.2⟩) ?_
      | refine X_toldF (g := 19) rfl rfl hno (fun w1 hM => add_any _ _ _ _ _ _ w1 (by first | exact Rds.old (by assumption) hM old_false | exact rds_sl (PkS.has inferInstance hM)) (by first | exact Rds.old (by assumption) hM old_false | exact rds_sl (PkS.has inferInstance hM))) ?_
      | refine X_toldF (g := 23) rfl rfl hno (fun w1 hM => sub_any _ _ _ _ _ _ w1 (by first | exact Rds.old (by assumption) hM old_false | exact rds_sl (PkS.has inferInstance hM)) (by first | exact Rds.old (by assumption) hM old_false | exact rds_sl (PkS.has inferInstance hM))) ?_
      | refine X_toldF (g := 17) rfl rfl hno (fun w1 hM => mul_any _ _ _ _ _ _ w1 (by first | exact Rds.old (by assumption) hM old_false | exact rds_sl (PkS.has inferInstance hM)) (by first | exact Rds.old (by assumption) hM old_false | exact rds_sl (PkS.has inferInstance hM))) ?_
      | refine X_toldF (g := 20) rfl rfl hno (fun w1 hM => point_any _ _ _ _ _ _ w1 (by first | exact Rds.old (by assumption) hM old_false | exact rds_sl (PkS.has inferInstance hM)) (by first | exact Rds.old (by assumption) hM old_false | exact rds_sl (PkS.has inferInstance hM))) ?_
      | refine Y_splitT rfl rfl rfl ?_
    exact XT_ret1 (.inl rfl) Try.results7 rfl (fun w5 h5 => ⟨rfl, h5.chg⟩)
  rcases hvb : vd b with _ | _
  · have hno : ¬ (vd a = true ∧ vd b = true) := by rw [hvb]; exact fun h => (by cases h.2)
    repeat first
      | refine XC_region ?_
      | refine X_nil ?_
      | refine XC_condT rfl ?_
      | refine XC_condF rfl ?_
      | refine XC_seq ?_
      | refine XT_seq ?_
      | refine XT_then_ret ?_
      | refine XC_skip ?_
      | refine XC_ret ?_
      | refine Y_res (r_move rfl) rfl ?_
      | refine Y_res (r_assign rfl) rfl ?_
      | refine Y_res (r_eql rfl rfl) rfl ?_
      | refine Y_res (r_neqB rfl rfl) rfl ?_
      | refine Y_on rfl rfl ?_
      | refine Y_res (r_notB rfl) rfl ?_
      | refine Y_res (r_len rfl) rfl ?_
      | refine Y_res (r_extract rfl rfl) rfl ?_
      | refine Y_res (r_pickT rfl rfl) rfl ?_
      | refine Y_res (r_pickF rfl rfl) rfl ?_
      | refine Y_call (g := 11) rfl rfl (fun w1 hM => (few_is _ _ _ w1 (by assumption)).mono fun e w2 h => ⟨h.1, hM.keep h.2⟩) ?_
      | refine Y_call (g := 14) rfl rfl (fun w1 hM => (rvalid_is _ _ _ w1 (by first | exact Rds.old (by assumption) hM old_false | exact rds_sl (PkS.has inferInstance hM)) (by assumption)).mono fun e w2 h => ⟨h.1, hM.keep h.2⟩) ?_
      | refine Y_call (g := 24) rfl rfl (fun w1 hM => (valid_is _ _ _ w1 (by first | exact Rds.old (by assumption) hM old_false | exact rds_sl (PkS.has inferInstance hM)) (by assumption)).mono fun e w2 h => ⟨h.1, hM.keep h.2⟩) ?_
      | refine X_toldF (g := 19) rfl rfl hno (fun w1 hM => add_any _ _ _ _ _ _ w1 (by first | exact Rds.old (by assumption) hM old_false | exact rds_sl (PkS.has inferInstance hM)) (by first | exact Rds.old (by assumption) hM old_false | exact rds_sl (PkS.has inferInstance hM))) ?_
      | refine X_toldF (g := 23) rfl rfl hno (fun w1 hM => sub_any _ _ _ _ _ _ w1 (by first | exact Rds.old (by assumption) hM old_false | exact rds_sl (PkS.has inferInstance hM)) (by first | exact Rds.old (by assumption) hM old_false | exact rds_sl (PkS.has inferInstance hM))) ?_
      | refine X_toldF (g := 17) rfl rfl hno (fun w1 hM => mul_any _ _ _ _ _ _ w1 (by first | exact Rds.old (by assumption) hM old_false | exact rds_sl (PkS.has inferInstance hM)) (by first | exact Rds.old (by assumption) hM old_false | exact rds_sl (PkS.has inferInstance hM))) ?_
      | refine X_toldF (g := 20) rfl rfl hno (fun w1 hM => point_any _ _ _ _ _ _ w1 (by first | exact Rds.old (by assumption) hM old_false | exact rds_sl (PkS.has inferInstance hM)) (by first | exact Rds.old (by assumption) hM old_false | exact rds_sl (PkS.has inferInstance hM))) ?_
      | refine Y_splitT rfl rfl rfl ?_
    exact XT_ret1 (.inl rfl) Try.results7 rfl (fun w5 h5 => ⟨rfl, h5.chg⟩)
  have oa := ok_vd hva
  have ob := ok_vd hvb
  have hla := oa.1
  have hlb := ob.1
  have hca := ha.le
  have hcb := hb.le
  repeat first
    | refine XC_region ?_
    | refine X_nil ?_
    | refine XC_condF rfl ?_
    | refine XC_seq ?_
    | refine XT_seq ?_
    | refine XC_skip ?_
    | refine Y_res (r_move rfl) rfl ?_
    | refine Y_res (r_assign rfl) rfl ?_
    | refine Y_on rfl rfl ?_
    | refine Y_res (r_notB rfl) rfl ?_
    | refine Y_res (r_pickT rfl rfl) rfl ?_
    | refine Y_res (r_pickF rfl rfl) rfl ?_
    | refine Y_call (g := 11) rfl rfl (fun w1 hM => (few_is _ _ _ w1 (by assumption)).mono fun e w2 h => ⟨h.1, hM.keep h.2⟩) ?_
    | refine Y_call (g := 14) rfl rfl (fun w1 hM => (rvalid_is _ _ _ w1 (by first | exact Rds.old (by assumption) hM old_false | exact rds_sl (PkS.has inferInstance hM)) (by assumption)).mono fun e w2 h => ⟨h.1, hM.keep h.2⟩) ?_
    | (refine X_told (g := 19) rfl rfl ⟨by assumption, by assumption⟩ (fun w1 hM => add_any _ _ _ _ _ _ w1 (by first | exact Rds.old (by assumption) hM old_false | exact rds_sl (PkS.has inferInstance hM)) (by first | exact Rds.old (by assumption) hM old_false | exact rds_sl (PkS.has inferInstance hM))) ?_)
  intro A1 c1 x1 h1
  repeat first
    | refine XC_region ?_
    | refine X_nil ?_
    | refine XC_seq ?_
    | refine XT_seq ?_
    | refine Y_res (r_move rfl) rfl ?_
    | refine Y_res (r_assign rfl) rfl ?_
    | refine Y_res (r_extract rfl rfl) rfl ?_
    | (refine X_told (g := 23) rfl rfl ⟨by assumption, by assumption⟩ (fun w1 hM => sub_any _ _ _ _ _ _ w1 (by first | exact Rds.old (by assumption) hM old_false | exact rds_sl (PkS.has inferInstance hM)) (by first | exact Rds.old (by assumption) hM old_false | exact rds_sl (PkS.has inferInstance hM))) ?_)
  intro A2 c2 x2 h2
  repeat first
    | refine XC_region ?_
    | refine X_nil ?_
    | refine XC_seq ?_
    | refine XT_seq ?_
    | refine Y_res (r_move rfl) rfl ?_
    | refine Y_res (r_assign rfl) rfl ?_
    | refine Y_res (r_extract rfl rfl) rfl ?_
    | (refine X_told (g := 17) rfl rfl ⟨by assumption, by assumption⟩ (fun w1 hM => mul_any _ _ _ _ _ _ w1 (by first | exact Rds.old (by assumption) hM old_false | exact rds_sl (PkS.has inferInstance hM)) (by first | exact Rds.old (by assumption) hM old_false | exact rds_sl (PkS.has inferInstance hM))) ?_)
  intro A3 c3 x3 h3
  repeat first
    | refine XC_region ?_
    | refine X_nil ?_
    | refine XC_seq ?_
    | refine XT_seq ?_
    | refine Y_res (r_move rfl) rfl ?_
    | refine Y_res (r_assign rfl) rfl ?_
    | refine Y_res (r_extract rfl rfl) rfl ?_
    | (refine X_told (g := 20) rfl rfl ⟨by assumption, by assumption⟩ (fun w1 hM => point_any _ _ _ _ _ _ w1 (by first | exact Rds.old (by assumption) hM old_false | exact rds_sl (PkS.has inferInstance hM)) (by first | exact Rds.old (by assumption) hM old_false | exact rds_sl (PkS.has inferInstance hM))) ?_)
  intro A4 c4 x4 h4
  have hl4 : x4.length = 256 := by rw [h4, zip2_len]
  have hg4 : ∀ i, i < 256 → x4.getD i 0 = a.getD i 0 * b.getD i 0 % 8380417 := fun i hi => by rw [h4, zip2_get _ _ _ _ hi]; rfl
  have hg4 := Lib.hid hg4
  clear h4
  repeat first
    | refine XC_region ?_
    | refine X_nil ?_
    | refine XC_condF rfl ?_
    | refine XC_seq ?_
    | refine XT_seq ?_
    | refine XC_block ?_
    | refine XC_skip ?_
    | refine Y_res (r_move rfl) rfl ?_
    | refine Y_res (r_assign rfl) rfl ?_
    | refine Y_res (r_neqB rfl rfl) rfl ?_
    | refine Y_on rfl rfl ?_
    | refine Y_res (r_notB rfl) rfl ?_
    | refine Y_res (r_len rfl) rfl ?_
    | refine Y_res (r_extract rfl rfl) rfl ?_
    | refine Y_res (r_pickF rfl rfl) rfl ?_
    | refine Y_call (g := 14) rfl rfl (fun w1 hM => (rvalid_is _ _ _ w1 (by first | exact Rds.old (by assumption) hM old_false | exact rds_sl (PkS.has inferInstance hM)) (by assumption)).mono fun e w2 h => ⟨h.1, hM.keep h.2⟩) ?_
    | refine Y_call (g := 24) rfl rfl (fun w1 hM => (valid_is _ _ _ w1 (by first | exact Rds.old (by assumption) hM old_false | exact rds_sl (PkS.has inferInstance hM)) (by assumption)).mono fun e w2 h => ⟨h.1, hM.keep h.2⟩) ?_
  refine XC_loop (ι := Nat) (fun i => i ≤ 256) (fun i => [(0, .slice A a.length ca), (1, .slice B b.length cb), (6, .slice A1 x1.length c1), (8, .slice A2 x2.length c2), (10, .slice A3 x3.length c3), (101, .slice A4 x4.length c4), (102, .int .i64 x4.length), (103, .int .i64 i)])
    (fun i => Hp w (fun _ => False) [Ch.sl A4 c4 3 .i64 x4, Ch.sl A3 c3 3 .i64 x3, Ch.sl A2 c2 3 .i64 x2, Ch.sl A1 c1 3 .i64 x1]) (fun i => 256 - i) 0 (by omega) ⟨rfl, rfl, rfl, rfl, rfl, rfl, rfl, rfl, trivial⟩ (fun _ h => h) ?_
  intro i hi
  repeat first
    | refine XC_region ?_
    | refine X_nil ?_
    | refine XC_seq ?_
    | refine XT_seq ?_
    | refine Y_res (r_lss rfl rfl) rfl ?_
  refine XC_condP rfl (fun hlt => ?_) (fun hge => ?_)
  · have hi2 : i < 256 := by omega
    have hx := oa.2 i hi2
    have hy := ob.2 i hi2
    have hm := mul_bd hx hy
    have h6 := hg4.out i hi2
    repeat first
      | refine XC_region ?_
      | refine XC_quietF rfl (by kernel_rfl) (by kernel_rfl) drw_hp ?_
      | refine X_nil ?_
      | refine XQ_nil ?_
      | refine XC_seq ?_
      | refine XT_seq ?_
      | refine XC_block ?_
      | refine XC_skip ?_
      | refine Y_res (r_move rfl) rfl ?_
      | refine Y_res (r_assign rfl) rfl ?_
      | refine Y_res (r_mul64 rfl rfl (by omega)) rfl ?_
      | refine Y_res (r_rem rfl rfl (by omega)) rfl ?_
      | refine Y_res (r_neq rfl rfl) rfl ?_
      | refine Y_res (r_indexS rfl rfl (by omega) (by first | omega | (simp only [List.length_set, List.length_replicate]; omega))) rfl ?_
      | refine Y_res (r_indexR rfl rfl (by assumption) (by omega) (by omega)) rfl ?_
      | refine Y_res (r_loadI rfl (by first | omega | (simp only [List.length_set, List.length_replicate]; omega))) rfl ?_
      | refine Y_res (r_loadR rfl (by assumption) (by first | exact old_false | assumption) (by omega)) rfl ?_
    refine XC_condP rfl (fun h => absurd h6 (by first | exact h | omega)) (fun _ => ?_)
    repeat first
      | refine XC_region ?_
      | refine X_nil ?_
      | refine XT_seq ?_
      | refine XT_block_normal ?_
      | refine XC_skip ?_
      | refine Y_res (r_move rfl) rfl ?_
      | refine Y_res (r_add64 rfl rfl (by omega)) rfl ?_
    exact XT_round (i + 1) (by omega) (by omega) ⟨rfl, rfl, rfl, rfl, rfl, rfl, rfl, rfl, trivial⟩ (fun w3 h3 => h3)
  · have hl1 : x1.length = 256 := by rw [h1, zip2_len]
    repeat first
      | refine XC_region ?_
      | refine XC_seq ?_
      | refine XT_seq ?_
      | refine XT_block_same rfl ?_
      | refine XT_then_exit ?_
      | refine XC_exit ?_
      | refine Y_res (r_move rfl) rfl ?_
    refine X_newl (g := 21) rfl rfl (fun w1 hM => radd_any _ _ _ _ _ _ w1 (by first | exact Rds.old (by assumption) hM old_false | exact rds_sl (PkS.has inferInstance hM)) (by first | exact Rds.old (by assumption) hM old_false | exact rds_sl (PkS.has inferInstance hM)) oa ob) ?_
    intro A5 c5 x5 h5
    have e1 : x1 = x5 := by rw [h1, h5]
    repeat first
      | refine Y_res (r_move rfl) rfl ?_
      | refine Y_on rfl rfl ?_
      | refine Y_call (g := 15) rfl rfl (fun w1 hM => (same_any _ _ _ _ _ _ w1 (by first | exact Rds.old (by assumption) hM old_false | exact rds_sl (PkS.has inferInstance hM)) (by first | exact Rds.old (by assumption) hM old_false | exact rds_sl (PkS.has inferInstance hM))).mono fun e w2 h => ⟨h.1, hM.keep h.2⟩) ?_
      | refine Y_splitT rfl rfl (by assumption) ?_
    refine X_newl (g := 25) rfl rfl (fun w1 hM => rsub_any _ _ _ _ _ _ w1 (by first | exact Rds.old (by assumption) hM old_false | exact rds_sl (PkS.has inferInstance hM)) (by first | exact Rds.old (by assumption) hM old_false | exact rds_sl (PkS.has inferInstance hM)) oa ob) ?_
    intro A6 c6 x6 h6
    have e2 : x2 = x6 := by rw [h2, h6]
    repeat first
      | refine Y_res (r_move rfl) rfl ?_
      | refine Y_on rfl rfl ?_
      | refine Y_res (r_pickT rfl rfl) rfl ?_
      | refine Y_call (g := 15) rfl rfl (fun w1 hM => (same_any _ _ _ _ _ _ w1 (by first | exact Rds.old (by assumption) hM old_false | exact rds_sl (PkS.has inferInstance hM)) (by first | exact Rds.old (by assumption) hM old_false | exact rds_sl (PkS.has inferInstance hM))).mono fun e w2 h => ⟨h.1, hM.keep h.2⟩) ?_
      | refine Y_splitT rfl rfl (by assumption) ?_
    refine X_newl (g := 22) rfl rfl (fun w1 hM => rmul_any _ _ _ _ _ _ w1 (by first | exact Rds.old (by assumption) hM old_false | exact rds_sl (PkS.has inferInstance hM)) (by first | exact Rds.old (by assumption) hM old_false | exact rds_sl (PkS.has inferInstance hM)) oa ob) ?_
    intro A7 c7 x7 h7
    have e3 : x3 = x7 := by rw [h3, h7]
    repeat first
      | refine X_nil ?_
      | refine XT_seq ?_
      | refine XC_ret ?_
      | refine Y_res (r_assign rfl) rfl ?_
      | refine Y_on rfl rfl ?_
      | refine Y_res (r_pickT rfl rfl) rfl ?_
      | refine Y_call (g := 15) rfl rfl (fun w1 hM => (same_any _ _ _ _ _ _ w1 (by first | exact Rds.old (by assumption) hM old_false | exact rds_sl (PkS.has inferInstance hM)) (by first | exact Rds.old (by assumption) hM old_false | exact rds_sl (PkS.has inferInstance hM))).mono fun e w2 h => ⟨h.1, hM.keep h.2⟩) ?_
    exact XT_ret1 (.inl rfl) Try.results7 rfl (fun w5 h5 => ⟨by rw [decide_eq_true e3], h5.chg⟩)
end Go.Proofs.Ytoednaebdfohbaa.NRing
