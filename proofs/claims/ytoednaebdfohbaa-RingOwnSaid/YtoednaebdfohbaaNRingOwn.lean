/- RingOwn, walked: true at every input. -/
import Derived.Test.YtoednaebdfohbaaNRingA
namespace Go.Proofs.Ytoednaebdfohbaa.NRing
open Go Go.RowKit Go.Proofs.Ytoednaebdfohbaa.MX Go.Proofs.Ytoednaebdfohbaa.PRing
set_option linter.unusedVariables false
set_option linter.unusedSimpArgs false
set_option maxHeartbeats 4000000 in
set_option maxRecDepth 100000 in
theorem ringOwn_any (a : List Int) (A : Option Addr) (ca : Nat) (b : List Int) (B : Option Addr) (cb : Nat) (w : World) (ha : Rds w A ca .i64 a) (hwa : ∀ n ∈ a, (Lit.int .i64 n).wf = true) (hb : Rds w B cb .i64 b) (hwb : ∀ n ∈ b, (Lit.int .i64 n).wf = true) :
    Calls Try.prog 6 #[.slice A a.length ca, .slice B b.length cb] w fun e w' => e = .returned (.bool true) ∧ Chg (fun _ => False) w w' := by
  refine calls_of_X (vs := [_, _]) (M := Hp w (fun _ => False) []) Try.func6 rfl Try.ntmps6 rfl (Hp.nil _ _) ?_
  repeat first
    | refine XC_region ?_
    | refine X_nil ?_
    | refine XC_condF rfl ?_
    | refine XC_seq ?_
    | refine XT_seq ?_
    | refine XC_skip ?_
    | refine Y_res (r_move rfl) rfl ?_
    | refine Y_res (r_assign rfl) rfl ?_
    | refine Y_res (r_notB rfl) rfl ?_
    | refine Y_call (g := 10) rfl rfl (fun w1 hM => (anchor_any w1).mono fun e w2 h => ⟨h.1, hM.keep h.2⟩) ?_
  rcases hva : vd a with _ | _
  · repeat first
      | refine XC_region ?_
      | refine X_nil ?_
      | refine XC_condT rfl ?_
      | refine XC_seq ?_
      | refine XT_seq ?_
      | refine XT_then_ret ?_
      | refine XC_ret ?_
      | refine Y_res (r_move rfl) rfl ?_
      | refine Y_res (r_assign rfl) rfl ?_
      | refine Y_off rfl rfl rfl ?_
      | refine Y_res (r_notB rfl) rfl ?_
      | refine Y_res (r_pickT rfl rfl) rfl ?_
      | refine Y_call (g := 14) rfl rfl (fun w1 hM => (rvalid_is _ _ _ w1 (by first | exact Rds.old (by assumption) hM old_false | exact rds_sl (PkS.has inferInstance hM)) (by assumption)).mono fun e w2 h => ⟨h.1, hM.keep h.2⟩) ?_
    exact XT_ret1 (.inl rfl) Try.results6 rfl (fun w5 h5 => ⟨rfl, h5.chg⟩)
  rcases hvb : vd b with _ | _
  · repeat first
      | refine XC_region ?_
      | refine X_nil ?_
      | refine XC_condT rfl ?_
      | refine XC_seq ?_
      | refine XT_seq ?_
      | refine XT_then_ret ?_
      | refine XC_ret ?_
      | refine Y_res (r_move rfl) rfl ?_
      | refine Y_res (r_assign rfl) rfl ?_
      | refine Y_on rfl rfl ?_
      | refine Y_res (r_notB rfl) rfl ?_
      | refine Y_res (r_pickF rfl rfl) rfl ?_
      | refine Y_call (g := 14) rfl rfl (fun w1 hM => (rvalid_is _ _ _ w1 (by first | exact Rds.old (by assumption) hM old_false | exact rds_sl (PkS.has inferInstance hM)) (by assumption)).mono fun e w2 h => ⟨h.1, hM.keep h.2⟩) ?_
    exact XT_ret1 (.inl rfl) Try.results6 rfl (fun w5 h5 => ⟨rfl, h5.chg⟩)
  have oa := ok_vd hva
  have ob := ok_vd hvb
  have hla := oa.1
  have hlb := ob.1
  repeat first
    | refine XC_region ?_
    | refine X_nil ?_
    | refine XC_condF rfl ?_
    | refine XC_seq ?_
    | refine XT_seq ?_
    | refine XC_block ?_
    | refine XC_skip ?_
    | refine Y_res (r_move rfl) rfl ?_
    | refine Y_res (r_assign rfl) rfl ?_
    | refine Y_on rfl rfl ?_
    | refine Y_res (r_notB rfl) rfl ?_
    | refine Y_res (r_pickF rfl rfl) rfl ?_
    | (refine X_buildS (by rfl) (by rfl) (by simp) rfl ?_; intro _ _)
    | refine Y_call (g := 14) rfl rfl (fun w1 hM => (rvalid_is _ _ _ w1 (by first | exact Rds.old (by assumption) hM old_false | exact rds_sl (PkS.has inferInstance hM)) (by assumption)).mono fun e w2 h => ⟨h.1, hM.keep h.2⟩) ?_
    | (refine X_appendI rfl rfl (fun w_ hM => (by first | exact Rds.old (by assumption) hM old_false | exact rds_sl (PkS.has inferInstance hM))) rfl rfl rfl (by first | omega | (simp only [List.length_nil]; omega)) (by first | omega | (simp only [List.length_nil]; omega)) rfl ?_; intro _ _; simp only [List.nil_append])
  rename_i gx hgx AX cx gy hgy AY cy
  refine XC_loop (ι := Nat) (fun k => k ≤ 2) (fun k => [(0, .slice A a.length ca), (1, .slice B b.length cb), (5, .slice AX a.length cx), (6, .slice AY b.length cy), (7, .int .i64 k)])
    (fun k => Hp w (fun _ => False) [Ch.sl AY cy 3 .i64 b, Ch.sl AX cx 3 .i64 a]) (fun k => 2 - k) 0 (by omega) ⟨rfl, rfl, rfl, rfl, rfl, trivial⟩ (fun _ h => h) ?_
  intro k hk
  repeat first
    | refine XC_region ?_
    | refine X_nil ?_
    | refine XC_seq ?_
    | refine XT_seq ?_
    | refine Y_res (r_move rfl) rfl ?_
    | refine Y_res (r_lss rfl rfl) rfl ?_
  refine XC_condP rfl (fun hlt => ?_) (fun hge => ?_)
  · repeat first
      | refine XC_region ?_
      | refine XC_seq ?_
      | refine XT_seq ?_
      | refine XC_block ?_
      | refine XC_skip ?_
      | refine Y_res (r_move rfl) rfl ?_
      | refine X_told (g := 17) rfl rfl ⟨by assumption, by assumption⟩ (fun w1 hM => mul_any _ _ _ _ _ _ w1 (by first | exact Rds.old (by assumption) hM old_false | exact rds_sl (PkS.has inferInstance hM)) (by first | exact Rds.old (by assumption) hM old_false | exact rds_sl (PkS.has inferInstance hM))) ?_
    intro A1 c1 x1 h1
    have o1 : Ok x1 := by rw [h1]; exact bck_ok _
    have hl1 := o1.1
    repeat first
      | refine XC_region ?_
      | refine X_nil ?_
      | refine XC_seq ?_
      | refine XT_seq ?_
      | refine Y_res (r_move rfl) rfl ?_
      | refine Y_res (r_assign rfl) rfl ?_
      | refine Y_res (r_extract rfl rfl) rfl ?_
      | refine X_told (g := 19) rfl rfl ⟨by assumption, by assumption⟩ (fun w1 hM => add_any _ _ _ _ _ _ w1 (by first | exact Rds.old (by assumption) hM old_false | exact rds_sl (PkS.has inferInstance hM)) (by first | exact Rds.old (by assumption) hM old_false | exact rds_sl (PkS.has inferInstance hM))) ?_
    intro A2 c2 x2 h2
    have hl2 : x2.length = 256 := by rw [h2, zip2_len]
    repeat first
      | refine XC_region ?_
      | refine X_nil ?_
      | refine XC_seq ?_
      | refine XT_seq ?_
      | refine Y_res (r_move rfl) rfl ?_
      | refine Y_res (r_assign rfl) rfl ?_
      | refine Y_res (r_extract rfl rfl) rfl ?_
      | refine X_told (g := 12) rfl rfl (by assumption) (fun w1 hM => there_any _ _ _ w1 (by first | exact Rds.old (by assumption) hM old_false | exact rds_sl (PkS.has inferInstance hM))) ?_
    intro A3 c3 x3 h3
    have hl3 : x3.length = 256 := by rw [h3]; exact (thr_ok oa).1
    repeat first
      | refine XC_region ?_
      | refine X_nil ?_
      | refine XC_seq ?_
      | refine XT_seq ?_
      | refine Y_res (r_move rfl) rfl ?_
      | refine Y_res (r_assign rfl) rfl ?_
      | refine Y_res (r_neq rfl rfl) rfl ?_
      | refine Y_on rfl rfl ?_
      | refine Y_res (r_len rfl) rfl ?_
      | refine Y_res (r_extract rfl rfl) rfl ?_
      | refine Y_splitF rfl rfl (by omega) ?_
      | (refine X_newl (g := 21) rfl rfl (fun w1 hM => radd_any _ _ _ _ _ _ w1 (by first | exact Rds.old (by assumption) hM old_false | exact rds_sl (PkS.has inferInstance hM)) (by first | exact Rds.old (by assumption) hM old_false | exact rds_sl (PkS.has inferInstance hM)) oa ob) ?_)
    intro A5 c5 x5 h5
    have e1 : x2 = x5 := by rw [h2, h5]
    clear h2 h5
    repeat first
      | refine Y_res (r_move rfl) rfl ?_
      | refine Y_on rfl rfl ?_
      | refine Y_res (r_notB rfl) rfl ?_
      | refine Y_res (r_pickF rfl rfl) rfl ?_
      | refine Y_call (g := 15) rfl rfl (fun w1 hM => (same_any _ _ _ _ _ _ w1 (by first | exact Rds.old (by assumption) hM old_false | exact rds_sl (PkS.has inferInstance hM)) (by first | exact Rds.old (by assumption) hM old_false | exact rds_sl (PkS.has inferInstance hM))).mono fun e w2 h => ⟨h.1, hM.keep h.2⟩) ?_
    simp only [decide_eq_true e1]
    by_cases hk0 : 0 < k
    · repeat first
        | refine Y_res (r_move rfl) rfl ?_
        | refine Y_res (r_gtr rfl rfl) rfl ?_
        | refine Y_on rfl rfl ?_
        | refine Y_splitT rfl rfl (by omega) ?_
        | (refine X_newl (g := 22) rfl rfl (fun w1 hM => rmul_any _ _ _ _ _ _ w1 (by first | exact Rds.old (by assumption) hM old_false | exact rds_sl (PkS.has inferInstance hM)) (by first | exact Rds.old (by assumption) hM old_false | exact rds_sl (PkS.has inferInstance hM)) oa ob) ?_)
      intro A6 c6 x6 h6
      have e2 : x1 = x6 := by rw [h1, h6]
      clear h1 h6
      repeat first
        | refine X_nil ?_
        | refine XT_seq ?_
        | refine Y_on rfl rfl ?_
        | refine Y_res (r_notB rfl) rfl ?_
        | refine Y_res (r_pickT rfl rfl) rfl ?_
        | refine Y_res (r_pickF rfl rfl) rfl ?_
        | refine Y_call (g := 15) rfl rfl (fun w1 hM => (same_any _ _ _ _ _ _ w1 (by first | exact Rds.old (by assumption) hM old_false | exact rds_sl (PkS.has inferInstance hM)) (by first | exact Rds.old (by assumption) hM old_false | exact rds_sl (PkS.has inferInstance hM))).mono fun e w2 h => ⟨h.1, hM.keep h.2⟩) ?_
      simp only [decide_eq_true e2]
      repeat first
        | refine XC_region ?_
        | refine X_nil ?_
        | refine XC_condF rfl ?_
        | refine XC_seq ?_
        | refine XT_seq ?_
        | refine XC_block ?_
        | refine XC_skip ?_
        | refine Y_res (r_move rfl) rfl ?_
        | refine Y_res (r_len rfl) rfl ?_
      refine XC_loop (ι := Nat × List Int × List Int × List Int) (fun q => q.1 ≤ 256 ∧ q.2.1.length = 256 ∧ q.2.2.1.length = 256 ∧ q.2.2.2.length = 256) (fun q => [(0, .slice A a.length ca), (1, .slice B b.length cb), (5, .slice AX a.length cx), (6, .slice AY b.length cy), (7, .int .i64 k), (8, .slice A1 x1.length c1), (10, .slice A2 x2.length c2), (12, .slice A3 x3.length c3), (76, .int .i64 x1.length), (77, .int .i64 q.1)])
        (fun q => Hp w (fun _ => False) [Ch.sl A3 c3 3 .i64 q.2.2.2, Ch.sl A2 c2 3 .i64 q.2.2.1, Ch.sl A1 c1 3 .i64 q.2.1, Ch.sl AY cy 3 .i64 b, Ch.sl AX cx 3 .i64 a]) (fun q => 256 - q.1) (0, x1, x2, x3) ⟨by omega, hl1, hl2, hl3⟩ ⟨rfl, rfl, rfl, rfl, rfl, rfl, rfl, rfl, rfl, rfl, trivial⟩ (fun _ h => h.tail.tail) ?_
      rintro ⟨i, y1, y2, y3⟩ ⟨hi, g1, g2, g3⟩
      dsimp only at hi g1 g2 g3 ⊢
      repeat first
        | refine XC_region ?_
        | refine X_nil ?_
        | refine XC_seq ?_
        | refine XT_seq ?_
        | refine Y_res (r_lss rfl rfl) rfl ?_
      refine XC_condP rfl (fun hlt2 => ?_) (fun hge2 => ?_)
      · have hi2 : i < 256 := by omega
        repeat first
          | refine XC_region ?_
          | refine X_nil ?_
          | refine XC_seq ?_
          | refine XT_seq ?_
          | refine XC_block ?_
          | refine XT_block_normal ?_
          | refine XC_skip ?_
          | refine Y_res (r_move rfl) rfl ?_
          | refine Y_res (r_assign rfl) rfl ?_
          | refine Y_res (r_add64 rfl rfl (by omega)) rfl ?_
          | refine Y_res (r_indexS rfl rfl (by omega) (by first | omega | (simp only [List.length_set, List.length_replicate]; omega))) rfl ?_
          | refine X_storeI rfl rfl (by first | omega | (simp only [List.length_set, List.length_replicate]; omega)) ?_
        exact XT_round (i + 1, y1.set i 1, y2.set i 2, y3.set i 3) ⟨by dsimp only; omega, by simp only [List.length_set]; exact g1, by simp only [List.length_set]; exact g2, by simp only [List.length_set]; exact g3⟩ (by dsimp only; omega) ⟨rfl, rfl, rfl, rfl, rfl, rfl, rfl, rfl, rfl, rfl, trivial⟩ (fun w3 h3 => h3)
      · repeat first
          | refine XC_region ?_
          | refine X_nil ?_
          | refine XT_seq ?_
          | refine XT_block_normal ?_
          | refine XT_block_same rfl ?_
          | refine XT_then_exit ?_
          | refine XC_exit ?_
          | refine Y_res (r_move rfl) rfl ?_
          | refine Y_res (r_assign rfl) rfl ?_
          | refine Y_res (r_add64 rfl rfl (by omega)) rfl ?_
        exact XT_round (k + 1) (by omega) (by omega) ⟨rfl, rfl, rfl, rfl, rfl, trivial⟩ (fun w3 h3 => h3.tail.tail.tail)
    · repeat first
        | refine XC_region ?_
        | refine X_nil ?_
        | refine XC_condF rfl ?_
        | refine XC_seq ?_
        | refine XT_seq ?_
        | refine XC_block ?_
        | refine XC_skip ?_
        | refine Y_res (r_move rfl) rfl ?_
        | refine Y_res (r_gtr rfl rfl) rfl ?_
        | refine Y_on rfl rfl ?_
        | refine Y_off rfl rfl rfl ?_
        | refine Y_res (r_len rfl) rfl ?_
        | refine Y_res (r_pickF rfl rfl) rfl ?_
        | refine Y_splitF rfl rfl (by omega) ?_
      refine XC_loop (ι := Nat × List Int × List Int × List Int) (fun q => q.1 ≤ 256 ∧ q.2.1.length = 256 ∧ q.2.2.1.length = 256 ∧ q.2.2.2.length = 256) (fun q => [(0, .slice A a.length ca), (1, .slice B b.length cb), (5, .slice AX a.length cx), (6, .slice AY b.length cy), (7, .int .i64 k), (8, .slice A1 x1.length c1), (10, .slice A2 x2.length c2), (12, .slice A3 x3.length c3), (76, .int .i64 x1.length), (77, .int .i64 q.1)])
        (fun q => Hp w (fun _ => False) [Ch.sl A3 c3 3 .i64 q.2.2.2, Ch.sl A2 c2 3 .i64 q.2.2.1, Ch.sl A1 c1 3 .i64 q.2.1, Ch.sl AY cy 3 .i64 b, Ch.sl AX cx 3 .i64 a]) (fun q => 256 - q.1) (0, x1, x2, x3) ⟨by omega, hl1, hl2, hl3⟩ ⟨rfl, rfl, rfl, rfl, rfl, rfl, rfl, rfl, rfl, rfl, trivial⟩ (fun _ h => h.tail) ?_
      rintro ⟨i, y1, y2, y3⟩ ⟨hi, g1, g2, g3⟩
      dsimp only at hi g1 g2 g3 ⊢
      repeat first
        | refine XC_region ?_
        | refine X_nil ?_
        | refine XC_seq ?_
        | refine XT_seq ?_
        | refine Y_res (r_lss rfl rfl) rfl ?_
      refine XC_condP rfl (fun hlt2 => ?_) (fun hge2 => ?_)
      · have hi2 : i < 256 := by omega
        repeat first
          | refine XC_region ?_
          | refine X_nil ?_
          | refine XC_seq ?_
          | refine XT_seq ?_
          | refine XC_block ?_
          | refine XT_block_normal ?_
          | refine XC_skip ?_
          | refine Y_res (r_move rfl) rfl ?_
          | refine Y_res (r_assign rfl) rfl ?_
          | refine Y_res (r_add64 rfl rfl (by omega)) rfl ?_
          | refine Y_res (r_indexS rfl rfl (by omega) (by first | omega | (simp only [List.length_set, List.length_replicate]; omega))) rfl ?_
          | refine X_storeI rfl rfl (by first | omega | (simp only [List.length_set, List.length_replicate]; omega)) ?_
        exact XT_round (i + 1, y1.set i 1, y2.set i 2, y3.set i 3) ⟨by dsimp only; omega, by simp only [List.length_set]; exact g1, by simp only [List.length_set]; exact g2, by simp only [List.length_set]; exact g3⟩ (by dsimp only; omega) ⟨rfl, rfl, rfl, rfl, rfl, rfl, rfl, rfl, rfl, rfl, trivial⟩ (fun w3 h3 => h3)
      · repeat first
          | refine XC_region ?_
          | refine X_nil ?_
          | refine XT_seq ?_
          | refine XT_block_normal ?_
          | refine XT_block_same rfl ?_
          | refine XT_then_exit ?_
          | refine XC_exit ?_
          | refine Y_res (r_move rfl) rfl ?_
          | refine Y_res (r_assign rfl) rfl ?_
          | refine Y_res (r_add64 rfl rfl (by omega)) rfl ?_
        exact XT_round (k + 1) (by omega) (by omega) ⟨rfl, rfl, rfl, rfl, rfl, trivial⟩ (fun w3 h3 => h3.tail.tail.tail)
  · repeat first
      | refine XC_region ?_
      | refine X_nil ?_
      | refine XC_seq ?_
      | refine XT_seq ?_
      | refine XT_block_same rfl ?_
      | refine XT_then_exit ?_
      | refine XC_exit ?_
      | refine XC_ret ?_
      | refine Y_res (r_move rfl) rfl ?_
      | refine Y_res (r_assign rfl) rfl ?_
      | refine Y_on rfl rfl ?_
      | refine Y_res (r_pickT rfl rfl) rfl ?_
      | refine Y_call (g := 15) rfl rfl (fun w1 hM => (same_any _ _ _ _ _ _ w1 (by first | exact Rds.old (by assumption) hM old_false | exact rds_sl (PkS.has inferInstance hM)) (by first | exact Rds.old (by assumption) hM old_false | exact rds_sl (PkS.has inferInstance hM))).mono fun e w2 h => ⟨h.1, hM.keep h.2⟩) ?_
      | refine Y_splitT rfl rfl rfl ?_
    exact XT_ret1 (.inl rfl) Try.results6 rfl (fun w5 h5 => ⟨by rw [decide_eq_true rfl], h5.chg⟩)
end Go.Proofs.Ytoednaebdfohbaa.NRing
