/- ShakeSums, walked: true at every input. -/
import Derived.Test.YteogihkpplaioaaDoorNShake6
namespace Go.Proofs.YteogihkpplaioaaDoor.NShake
open Go Go.RowKit Go.Proofs.YteogihkpplaioaaDoor.MX Go.Proofs.YteogihkpplaioaaDoor.PShake Go.Proofs.YteogihkpplaioaaDoor.NSame
set_option linter.unusedVariables false
set_option linter.unusedSimpArgs false
set_option maxHeartbeats 4000000 in
set_option maxRecDepth 100000 in
theorem shakeSums_any (b : List Int) (A : Option Addr) (c : Nat) (n : Int) (w : World) (hr : Rds w A c .u8 b) (hwf : ∀ n ∈ b, (Lit.int .u8 n).wf = true) (hwn : (Lit.int .i64 n).wf = true) (hK : KAt w) :
    Calls Tryd.prog 3 #[.slice A b.length c, .int .i64 n] w fun e w' => e = .returned (.bool true) ∧ Chg (fun _ => False) w w' := by
  have hn64 := wf64 hwn
  refine calls_of_X (Rr := Says w (.bool true)) (vs := [_, _]) (M := Hp w (fun _ => False) []) Tryd.func3 rfl Tryd.ntmps3 rfl (Hp.nil _ _) ?_
  repeat first
    | refine XC_region ?_
    | refine X_nil ?_
    | refine XC_condF rfl ?_
    | refine XC_seq ?_
    | refine XT_seq ?_
    | refine XC_skip ?_
    | refine Y_res (r_move rfl) rfl ?_
    | refine Y_res (r_assign rfl) rfl ?_
    | refine Y_res (r_lss rfl rfl) rfl ?_
    | refine Y_res (r_notB rfl) rfl ?_
    | refine Y_says (g := 8) rfl rfl (fun w1 hM => anchor_any w1 (hK.keep hM.chg (fun h => h))) ?_
  by_cases hn : 0 ≤ n ∧ n ≤ 65536
  · obtain ⟨m, rfl⟩ : ∃ m : Nat, n = m := ⟨n.toNat, by omega⟩
    repeat first
      | refine X_nil ?_
      | refine XT_seq ?_
      | refine Y_res (r_move rfl) rfl ?_
      | refine Y_res (r_gtr rfl rfl) rfl ?_
      | refine Y_on rfl rfl ?_
      | refine Y_res (r_pickF rfl rfl) rfl ?_
      | refine Y_splitF rfl rfl (by omega) ?_
    refine XC_condP rfl (fun h => absurd h (by omega)) (fun _ => ?_)
    by_cases hb : 2000 < b.length
    · repeat first
        | refine XC_region ?_
        | refine X_nil ?_
        | refine XC_condT rfl ?_
        | refine XC_seq ?_
        | refine XT_seq ?_
        | refine XT_then_ret ?_
        | refine XC_skip ?_
        | refine XC_ret ?_
        | refine Y_res (r_move rfl) rfl ?_
        | refine Y_res (r_assign rfl) rfl ?_
        | refine Y_res (r_gtr rfl rfl) rfl ?_
        | refine Y_off rfl rfl rfl ?_
        | refine Y_res (r_len rfl) rfl ?_
        | refine Y_res (r_pickT rfl rfl) rfl ?_
        | refine Y_splitT rfl rfl (by omega) ?_
      exact XT_says (.inl rfl) Tryd.results3 rfl rfl
    by_cases hm : 2000 < m
    · repeat first
        | refine XC_region ?_
        | refine X_nil ?_
        | refine XC_seq ?_
        | refine XT_seq ?_
        | refine XC_skip ?_
        | refine Y_res (r_move rfl) rfl ?_
        | refine Y_res (r_gtr rfl rfl) rfl ?_
        | refine Y_on rfl rfl ?_
        | refine Y_res (r_len rfl) rfl ?_
        | refine Y_res (r_pickF rfl rfl) rfl ?_
        | refine Y_splitF rfl rfl (by omega) ?_
      refine XC_condP rfl (fun _ => ?_) (fun h => absurd (show (2000 : Int) < m by omega) h)
      repeat first
        | refine XC_region ?_
        | refine X_nil ?_
        | refine XC_seq ?_
        | refine XT_seq ?_
        | refine XT_then_ret ?_
        | refine XC_ret ?_
        | refine Y_res (r_assign rfl) rfl ?_
      exact XT_says (.inl rfl) Tryd.results3 rfl rfl
    repeat first
      | refine XC_region ?_
      | refine X_nil ?_
      | refine XC_seq ?_
      | refine XT_seq ?_
      | refine XC_skip ?_
      | refine Y_res (r_move rfl) rfl ?_
      | refine Y_res (r_gtr rfl rfl) rfl ?_
      | refine Y_on rfl rfl ?_
      | refine Y_res (r_len rfl) rfl ?_
      | refine Y_res (r_pickF rfl rfl) rfl ?_
      | refine Y_splitF rfl rfl (by omega) ?_
    refine XC_condP rfl (fun h => absurd h (by omega)) (fun _ => ?_)
    repeat first
      | refine XC_region ?_
      | refine XC_seq ?_
      | refine XT_seq ?_
      | refine XC_skip ?_
      | refine Y_res (r_move rfl) rfl ?_
    refine X_tells (g := 9) rfl rfl (fun w1 hM => sum128_any _ _ _ _ w1 (by first | exact Rds.old (by assumption) hM old_false | exact rds_sl (PkS.has inferInstance hM)) hwf (by omega) (hK.keep hM.chg (fun h => h))) ?_
    intro A1 c1 x1 h1
    repeat first
      | refine Y_res (r_move rfl) rfl ?_
    refine X_tells (g := 12) rfl rfl (fun w1 hM => rsum128_any _ _ _ _ w1 (by first | exact Rds.old (by assumption) hM old_false | exact rds_sl (PkS.has inferInstance hM)) hwf (by omega) (by omega)) ?_
    intro A2 c2 x2 h2
    have e1 : x1 = x2 := by rw [h1, h2]
    repeat first
      | refine Y_res (r_move rfl) rfl ?_
      | refine Y_on rfl rfl ?_
      | refine Y_says (g := 11) rfl rfl (fun w1 hM => same_any _ _ _ _ _ _ w1 (by first | exact Rds.old (by assumption) hM old_false | exact rds_sl (PkS.has inferInstance hM)) (by first | exact Rds.old (by assumption) hM old_false | exact rds_sl (PkS.has inferInstance hM))) ?_
      | refine Y_splitT rfl rfl (by assumption) ?_
    refine X_tells (g := 10) rfl rfl (fun w1 hM => sum256_any _ _ _ _ w1 (by first | exact Rds.old (by assumption) hM old_false | exact rds_sl (PkS.has inferInstance hM)) hwf (by omega) (hK.keep hM.chg (fun h => h))) ?_
    intro A3 c3 x3 h3
    repeat first
      | refine Y_res (r_move rfl) rfl ?_
      | refine Y_on rfl rfl ?_
    refine X_tells (g := 13) rfl rfl (fun w1 hM => rsum256_any _ _ _ _ w1 (by first | exact Rds.old (by assumption) hM old_false | exact rds_sl (PkS.has inferInstance hM)) hwf (by omega) (by omega)) ?_
    intro A4 c4 x4 h4
    have e2 : x3 = x4 := by rw [h3, h4]
    repeat first
      | refine X_nil ?_
      | refine XT_seq ?_
      | refine XC_ret ?_
      | refine Y_res (r_assign rfl) rfl ?_
      | refine Y_on rfl rfl ?_
      | refine Y_res (r_pickT rfl rfl) rfl ?_
      | refine Y_says (g := 11) rfl rfl (fun w1 hM => same_any _ _ _ _ _ _ w1 (by first | exact Rds.old (by assumption) hM old_false | exact rds_sl (PkS.has inferInstance hM)) (by first | exact Rds.old (by assumption) hM old_false | exact rds_sl (PkS.has inferInstance hM))) ?_
    exact XT_says (.inl rfl) Tryd.results3 rfl (by rw [decide_eq_true e2])
  · by_cases h0 : n < 0
    · repeat first
        | refine XC_region ?_
        | refine X_nil ?_
        | refine XC_condT rfl ?_
        | refine XC_seq ?_
        | refine XT_seq ?_
        | refine XT_then_ret ?_
        | refine XC_ret ?_
        | refine Y_res (r_move rfl) rfl ?_
        | refine Y_res (r_assign rfl) rfl ?_
        | refine Y_res (r_eql rfl rfl) rfl ?_
        | refine Y_on rfl rfl ?_
        | refine Y_off rfl rfl rfl ?_
        | refine Y_res (r_len rfl) rfl ?_
        | refine Y_res (r_pickT rfl rfl) rfl ?_
        | refine Y_splitT rfl rfl h0 ?_
        | refine Y_says (g := 9) rfl rfl (fun w1 hM => sum128_bad _ _ _ _ w1 (by first | exact Rds.old (by assumption) hM old_false | exact rds_sl (PkS.has inferInstance hM)) hwf hn (hK.keep hM.chg (fun h => h))) ?_
        | refine Y_says (g := 10) rfl rfl (fun w1 hM => sum256_bad _ _ _ _ w1 (by first | exact Rds.old (by assumption) hM old_false | exact rds_sl (PkS.has inferInstance hM)) hwf hn (hK.keep hM.chg (fun h => h))) ?_
        | refine Y_splitT rfl rfl rfl ?_
      exact XT_says (.inl rfl) Tryd.results3 rfl rfl
    · repeat first
        | refine X_nil ?_
        | refine XT_seq ?_
        | refine Y_res (r_move rfl) rfl ?_
        | refine Y_res (r_gtr rfl rfl) rfl ?_
        | refine Y_on rfl rfl ?_
        | refine Y_res (r_pickF rfl rfl) rfl ?_
        | refine Y_splitF rfl rfl h0 ?_
      refine XC_condP rfl (fun _ => ?_) (fun h => absurd (show (65536 : Int) < n by omega) h)
      repeat first
        | refine XC_region ?_
        | refine X_nil ?_
        | refine XC_seq ?_
        | refine XT_seq ?_
        | refine XT_then_ret ?_
        | refine XC_ret ?_
        | refine Y_res (r_move rfl) rfl ?_
        | refine Y_res (r_assign rfl) rfl ?_
        | refine Y_res (r_eql rfl rfl) rfl ?_
        | refine Y_on rfl rfl ?_
        | refine Y_res (r_len rfl) rfl ?_
        | refine Y_res (r_pickT rfl rfl) rfl ?_
        | refine Y_says (g := 9) rfl rfl (fun w1 hM => sum128_bad _ _ _ _ w1 (by first | exact Rds.old (by assumption) hM old_false | exact rds_sl (PkS.has inferInstance hM)) hwf hn (hK.keep hM.chg (fun h => h))) ?_
        | refine Y_says (g := 10) rfl rfl (fun w1 hM => sum256_bad _ _ _ _ w1 (by first | exact Rds.old (by assumption) hM old_false | exact rds_sl (PkS.has inferInstance hM)) hwf hn (hK.keep hM.chg (fun h => h))) ?_
        | refine Y_splitT rfl rfl rfl ?_
      exact XT_says (.inl rfl) Tryd.results3 rfl rfl
end Go.Proofs.YteogihkpplaioaaDoor.NShake
