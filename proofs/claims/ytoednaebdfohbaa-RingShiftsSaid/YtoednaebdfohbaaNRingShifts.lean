/- RingShifts, walked: true at every input. -/
import Derived.Test.YtoednaebdfohbaaNRingA
namespace Go.Proofs.Ytoednaebdfohbaa.NRing
open Go Go.RowKit Go.Proofs.Ytoednaebdfohbaa.MX Go.Proofs.Ytoednaebdfohbaa.PRing
set_option linter.unusedVariables false
set_option linter.unusedSimpArgs false
set_option maxHeartbeats 4000000 in
set_option maxRecDepth 100000 in
theorem ringShifts_any (a : List Int) (A : Option Addr) (ca : Nat) (k : Int) (w : World) (ha : Rds w A ca .i64 a) (hwa : ∀ n ∈ a, (Lit.int .i64 n).wf = true) (hwk : (Lit.int .i64 k).wf = true) :
    Calls Try.prog 4 #[.slice A a.length ca, .int .i64 k] w fun e w' => e = .returned (.bool true) ∧ Chg (fun _ => False) w w' := by
  refine calls_of_X (vs := [_, _]) (M := Hp w (fun _ => False) []) Try.func4 rfl Try.ntmps4 rfl (Hp.nil _ _) ?_
  repeat first
    | refine XC_region ?_
    | refine X_nil ?_
    | refine XC_condF rfl ?_
    | refine XC_seq ?_
    | refine XT_seq ?_
    | refine XC_skip ?_
    | refine Y_res (r_move rfl) rfl ?_
    | refine Y_res (r_assign rfl) rfl ?_
    | refine Y_res (r_notB rfl) rfl ?_
    | refine Y_call (g := 10) rfl rfl (fun w1 hM => (anchor_any w1).mono fun e w2 h => ⟨h.1, hM.keep h.2⟩) ?_
  by_cases hva : vd a = true
  · have oa := ok_vd hva
    have hla := oa.1
    have hca := ha.le
    by_cases hk1 : k < 0
    · repeat first
        | refine XC_region ?_
        | refine X_nil ?_
        | refine XC_condT rfl ?_
        | refine XC_seq ?_
        | refine XT_seq ?_
        | refine XT_then_ret ?_
        | refine XC_ret ?_
        | refine Y_res (r_move rfl) rfl ?_
        | refine Y_res (r_assign rfl) rfl ?_
        | refine Y_res (r_lss rfl rfl) rfl ?_
        | refine Y_on rfl rfl ?_
        | refine Y_off rfl rfl rfl ?_
        | refine Y_res (r_notB rfl) rfl ?_
        | refine Y_res (r_pickT rfl rfl) rfl ?_
        | refine Y_res (r_pickF rfl rfl) rfl ?_
        | refine Y_call (g := 14) rfl rfl (fun w1 hM => (rvalid_is _ _ _ w1 (by first | exact Rds.old (by assumption) hM old_false | exact rds_sl (PkS.has inferInstance hM)) (by assumption)).mono fun e w2 h => ⟨h.1, hM.keep h.2⟩) ?_
        | refine Y_splitT rfl rfl hk1 ?_
      exact XT_ret1 (.inl rfl) Try.results4 rfl (fun w5 h5 => ⟨rfl, h5.chg⟩)
    by_cases hk2 : 255 < k
    · repeat first
        | refine X_nil ?_
        | refine XT_seq ?_
        | refine Y_res (r_move rfl) rfl ?_
        | refine Y_res (r_lss rfl rfl) rfl ?_
        | refine Y_res (r_gtr rfl rfl) rfl ?_
        | refine Y_on rfl rfl ?_
        | refine Y_res (r_notB rfl) rfl ?_
        | refine Y_res (r_pickF rfl rfl) rfl ?_
        | refine Y_call (g := 14) rfl rfl (fun w1 hM => (rvalid_is _ _ _ w1 (by first | exact Rds.old (by assumption) hM old_false | exact rds_sl (PkS.has inferInstance hM)) (by assumption)).mono fun e w2 h => ⟨h.1, hM.keep h.2⟩) ?_
        | refine Y_splitF rfl rfl hk1 ?_
      refine XC_condP rfl (fun h => ?_) (fun h => absurd hk2 h)
      repeat first
        | refine XC_region ?_
        | refine X_nil ?_
        | refine XC_seq ?_
        | refine XT_seq ?_
        | refine XT_then_ret ?_
        | refine XC_ret ?_
        | refine Y_res (r_assign rfl) rfl ?_
      exact XT_ret1 (.inl rfl) Try.results4 rfl (fun w5 h5 => ⟨rfl, h5.chg⟩)
    obtain ⟨m, rfl⟩ : ∃ m : Nat, k = m := ⟨k.toNat, by omega⟩
    have hm : m < 256 := by omega
    repeat first
      | refine X_nil ?_
      | refine XT_seq ?_
      | refine Y_res (r_move rfl) rfl ?_
      | refine Y_res (r_lss rfl rfl) rfl ?_
      | refine Y_res (r_gtr rfl rfl) rfl ?_
      | refine Y_on rfl rfl ?_
      | refine Y_res (r_notB rfl) rfl ?_
      | refine Y_res (r_pickF rfl rfl) rfl ?_
      | refine Y_call (g := 14) rfl rfl (fun w1 hM => (rvalid_is _ _ _ w1 (by first | exact Rds.old (by assumption) hM old_false | exact rds_sl (PkS.has inferInstance hM)) (by assumption)).mono fun e w2 h => ⟨h.1, hM.keep h.2⟩) ?_
      | refine Y_splitF rfl rfl hk1 ?_
    refine XC_condP rfl (fun h => absurd h hk2) (fun _ => ?_)
    repeat first
      | refine XC_region ?_
      | refine XC_seq ?_
      | refine XT_seq ?_
      | refine XC_skip ?_
      | refine Y_res (r_move rfl) rfl ?_
    refine X_newl (g := 18) rfl rfl (fun w1 hM => lpower_any m w1 hm) ?_
    intro A1 c1 x1 h1
    have o1 : Ok x1 := by rw [h1]; exact ck_ok hm (by decide)
    have v1 := vd_ok o1
    skip
    refine X_told (g := 17) rfl rfl ⟨by assumption, by assumption⟩ (fun w1 hM => mul_any _ _ _ _ _ _ w1 (by first | exact Rds.old (by assumption) hM old_false | exact rds_sl (PkS.has inferInstance hM)) (by first | exact Rds.old (by assumption) hM old_false | exact rds_sl (PkS.has inferInstance hM))) ?_
    intro A2 c2 x2 h2
    have e2 : x2 = shf a m := by rw [h2, h1, mulL_P]; exact mul_shf oa hm
    clear h2
    have hl2 : x2.length = 256 := by rw [e2]; exact mk_len _
    have hg1 : ∀ i, i + m < 256 → x2.getD (i + m) 0 = a.getD i 0 := fun i hi => by rw [e2, shf, mk_get _ _ hi, if_neg (by omega), show i + m - m = i by omega]
    have hg2 : ∀ i, i < 256 → ¬ i + m < 256 → x2.getD (i + m - 256) 0 = (8380417 - a.getD i 0) % 8380417 := fun i hi hi2 => by
      rw [e2, shf, mk_get _ _ (by omega), if_pos (by omega), show i + m - 256 + 256 - m = i by omega]
    have hg1 := Lib.hid hg1
    have hg2 := Lib.hid hg2
    clear e2
    repeat first
      | refine XC_region ?_
      | refine X_nil ?_
      | refine XC_condF rfl ?_
      | refine XC_seq ?_
      | refine XT_seq ?_
      | refine XC_block ?_
      | refine XC_skip ?_
      | refine Y_res (r_move rfl) rfl ?_
      | refine Y_res (r_assign rfl) rfl ?_
      | refine Y_res (r_notB rfl) rfl ?_
      | refine Y_res (r_len rfl) rfl ?_
      | refine Y_res (r_extract rfl rfl) rfl ?_
    refine XC_loop (ι := Nat) (fun i => i ≤ 256) (fun i => [(0, .slice A a.length ca), (1, .int .i64 m), (5, .slice A2 x2.length c2), (33, .slice A a.length ca), (34, .int .i64 a.length), (35, .int .i64 i)])
      (fun i => Hp w (fun _ => False) [Ch.sl A2 c2 3 .i64 x2, Ch.sl A1 c1 3 .i64 x1]) (fun i => 256 - i) 0 (by omega) ⟨rfl, rfl, rfl, rfl, rfl, rfl, trivial⟩ (fun _ h => h) ?_
    intro i hi
    repeat first
      | refine XC_region ?_
      | refine X_nil ?_
      | refine XC_seq ?_
      | refine XT_seq ?_
      | refine Y_res (r_lss rfl rfl) rfl ?_
    refine XC_condP rfl (fun hlt => ?_) (fun hge => ?_)
    · have hi2 : i < 256 := by omega
      have hx := oa.2 i hi2
      repeat first
        | refine XC_region ?_
        | refine X_nil ?_
        | refine XC_seq ?_
        | refine XT_seq ?_
        | refine XC_block ?_
        | refine XC_skip ?_
        | refine Y_res (r_move rfl) rfl ?_
        | refine Y_res (r_assign rfl) rfl ?_
        | refine Y_res (r_add64 rfl rfl (by omega)) rfl ?_
        | refine Y_res (r_geq rfl rfl) rfl ?_
        | refine Y_res (r_indexR rfl rfl (by assumption) (by omega) (by omega)) rfl ?_
        | refine Y_res (r_loadR rfl (by assumption) (by first | exact old_false | assumption) (by omega)) rfl ?_
      refine XC_condP rfl (fun h3 => ?_) (fun h3 => ?_)
      · have h4 : ¬ i + m < 256 := by omega
        have h5 : ((i : Int) + m - 256).toNat = i + m - 256 := by omega
        have h6 := hg2.out i hi2 h4
        repeat first
          | refine XC_region ?_
          | refine X_nil ?_
          | refine XC_seq ?_
          | refine XT_seq ?_
          | refine Y_res (r_move rfl) rfl ?_
          | refine Y_res (r_assign rfl) rfl ?_
          | refine Y_res (r_sub64 rfl rfl (by omega)) rfl ?_
          | refine Y_res (r_rem rfl rfl (by omega)) rfl ?_
          | refine Y_res (r_neq rfl rfl) rfl ?_
          | refine Y_res (r_indexST rfl rfl (by omega) (by omega) (by omega)) rfl ?_
          | refine Y_res (r_loadI rfl (by first | omega | (simp only [List.length_set, List.length_replicate]; omega))) rfl ?_
          | rw [h5]
        refine XC_condP rfl (fun h => absurd h6 (by first | exact h | omega)) (fun _ => ?_)
        repeat first
          | refine XC_region ?_
          | refine X_nil ?_
          | refine XT_seq ?_
          | refine XT_block_normal ?_
          | refine XC_skip ?_
          | refine Y_res (r_move rfl) rfl ?_
          | refine Y_res (r_add64 rfl rfl (by omega)) rfl ?_
        exact XT_round (i + 1) (by omega) (by omega) ⟨rfl, rfl, rfl, rfl, rfl, rfl, trivial⟩ (fun w3 h3 => h3)
      · have h4 : i + m < 256 := by omega
        have h6 := hg1.out i h4
        repeat first
          | refine XC_region ?_
          | refine X_nil ?_
          | refine XC_seq ?_
          | refine XT_seq ?_
          | refine XC_skip ?_
          | refine Y_res (r_move rfl) rfl ?_
          | refine Y_res (r_neq rfl rfl) rfl ?_
          | refine Y_res (r_indexS rfl rfl (by omega) (by first | omega | (simp only [List.length_set, List.length_replicate]; omega))) rfl ?_
          | refine Y_res (r_loadI rfl (by first | omega | (simp only [List.length_set, List.length_replicate]; omega))) rfl ?_
        refine XC_condP rfl (fun h => absurd h6 (by first | exact h | omega)) (fun _ => ?_)
        repeat first
          | refine XC_region ?_
          | refine X_nil ?_
          | refine XT_seq ?_
          | refine XT_block_normal ?_
          | refine XC_skip ?_
          | refine Y_res (r_move rfl) rfl ?_
          | refine Y_res (r_add64 rfl rfl (by omega)) rfl ?_
        exact XT_round (i + 1) (by omega) (by omega) ⟨rfl, rfl, rfl, rfl, rfl, rfl, trivial⟩ (fun w3 h3 => h3)
    · repeat first
        | refine XC_region ?_
        | refine X_nil ?_
        | refine XC_seq ?_
        | refine XT_seq ?_
        | refine XT_block_same rfl ?_
        | refine XT_then_exit ?_
        | refine XC_exit ?_
        | refine XC_ret ?_
        | refine Y_res (r_assign rfl) rfl ?_
      exact XT_ret1 (.inl rfl) Try.results4 rfl (fun w5 h5 => ⟨rfl, h5.chg⟩)
  · have hva := Bool.eq_false_iff.2 hva
    repeat first
      | refine XC_region ?_
      | refine X_nil ?_
      | refine XC_condT rfl ?_
      | refine XC_seq ?_
      | refine XT_seq ?_
      | refine XT_then_ret ?_
      | refine XC_ret ?_
      | refine Y_res (r_move rfl) rfl ?_
      | refine Y_res (r_assign rfl) rfl ?_
      | refine Y_off rfl rfl rfl ?_
      | refine Y_res (r_notB rfl) rfl ?_
      | refine Y_res (r_pickT rfl rfl) rfl ?_
      | refine Y_call (g := 14) rfl rfl (fun w1 hM => (rvalid_is _ _ _ w1 (by first | exact Rds.old (by assumption) hM old_false | exact rds_sl (PkS.has inferInstance hM)) (by assumption)).mono fun e w2 h => ⟨h.1, hM.keep h.2⟩) ?_
    exact XT_ret1 (.inl rfl) Try.results4 rfl (fun w5 h5 => ⟨rfl, h5.chg⟩)
end Go.Proofs.Ytoednaebdfohbaa.NRing
