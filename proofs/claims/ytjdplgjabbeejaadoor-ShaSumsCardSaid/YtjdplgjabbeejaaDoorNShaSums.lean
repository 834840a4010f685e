/- ShaSums, walked: true at every input. -/
import Derived.Test.YtjdplgjabbeejaaDoorNSha8
namespace Go.Proofs.YtjdplgjabbeejaaDoor.NSha
open Go Go.RowKit Go.Proofs.YtjdplgjabbeejaaDoor.MX Go.Proofs.YtjdplgjabbeejaaDoor.PSha
set_option linter.unusedVariables false
set_option linter.unusedSimpArgs false
set_option linter.unusedVariables false
set_option maxHeartbeats 2000000 in
theorem sums_any (m : List Int) (A : Option Addr) (c : Nat) (k : List Int) (A2 : Option Addr) (c2 : Nat) (w : World) (hr : Rds w A c .u8 m) (hm_ : ∀ n ∈ m, (Lit.int .u8 n).wf = true) (hr2 : Rds w A2 c2 .u8 k) (hk_ : ∀ n ∈ k, (Lit.int .u8 n).wf = true) (hK : KAt KS w) :
    Calls Tryd.prog 6 #[.slice A m.length c, .slice A2 k.length c2] w fun e w' => e = .returned (.bool true) ∧ Chg (fun _ => False) w w' := by
  have hw0 := hK.pos
  have hmc := hr.le
  have hkc := hr2.le
  refine calls_of_X (Rr := Says w (.bool true)) (vs := [_, _]) (M := Hp w (fun _ => False) []) Tryd.func6 rfl Tryd.ntmps6 rfl (Hp.nil _ _) ?_
  repeat first
    | refine XC_region ?_
    | refine X_nil ?_
    | refine XC_condF rfl ?_
    | refine XC_seq ?_
    | refine XT_seq ?_
    | refine XC_skip ?_
    | refine Y_res (r_move rfl) rfl ?_
    | refine Y_res (r_assign rfl) rfl ?_
    | refine Y_res (r_gtr rfl rfl) rfl ?_
    | refine Y_res (r_notB rfl) rfl ?_
    | refine Y_res (r_len rfl) rfl ?_
    | refine Y_call (g := 8) rfl rfl (fun w1 hM => (anchor_any w1 (hK.keep hM.chg (fun h => h))).mono fun e w2 h => ⟨h.1, hM.keep h.2⟩) ?_
  refine Y_split rfl rfl (fun h1 => ?_) (fun h1 => ?_)
  · repeat first
      | refine XC_region ?_
      | refine X_nil ?_
      | refine XC_condT rfl ?_
      | refine XC_seq ?_
      | refine XT_seq ?_
      | refine XT_then_ret ?_
      | refine XC_ret ?_
      | refine Y_res (r_assign rfl) rfl ?_
      | refine Y_off rfl rfl rfl ?_
      | refine Y_res (r_pickT rfl rfl) rfl ?_
    exact XT_says (.inl rfl) Tryd.results6 rfl rfl
  repeat first
    | refine X_nil ?_
    | refine XT_seq ?_
    | refine Y_res (r_move rfl) rfl ?_
    | refine Y_res (r_gtr rfl rfl) rfl ?_
    | refine Y_on rfl rfl ?_
    | refine Y_res (r_len rfl) rfl ?_
    | refine Y_res (r_pickF rfl rfl) rfl ?_
  refine XC_condP rfl (fun h3 => ?_) (fun h3 => ?_)
  · repeat first
      | refine XC_region ?_
      | refine X_nil ?_
      | refine XC_seq ?_
      | refine XT_seq ?_
      | refine XT_then_ret ?_
      | refine XC_ret ?_
      | refine Y_res (r_assign rfl) rfl ?_
    exact XT_says (.inl rfl) Tryd.results6 rfl rfl
  repeat first
    | refine XC_region ?_
    | refine XC_seq ?_
    | refine XT_seq ?_
    | refine XC_skip ?_
    | refine Y_res (r_move rfl) rfl ?_
    | refine X_tells (g := 14) (E := 5) (k := .u8) (z := sumS KS m) rfl rfl (fun w1 hM => sum_any KS m _ _ w1 (by first | exact Rds.old (by assumption) hM old_false | exact rds_sl (PkS.has inferInstance hM)) (by omega) (hK.keep hM.chg (fun h => h))) ?_
  intro A3 c3 x3 h3
  repeat first
    | refine Y_res (r_move rfl) rfl ?_
    | refine X_tells (g := 13) (E := 5) (k := .u8) (z := sumS KS m) rfl rfl (fun w1 hM => refsum_any m _ _ w1 (by first | exact Rds.old (by assumption) hM old_false | exact rds_sl (PkS.has inferInstance hM)) (by omega)) ?_
  intro A4 c4 x4 h4
  have e34 : x3 = x4 := by rw [h3, h4]
  repeat first
    | refine Y_res (r_move rfl) rfl ?_
    | refine Y_call (g := 11) rfl rfl (fun w1 hM => (same_any _ _ _ _ _ _ w1 (by first | exact Rds.old (by assumption) hM old_false | exact rds_sl (PkS.has inferInstance hM)) (by first | exact Rds.old (by assumption) hM old_false | exact rds_sl (PkS.has inferInstance hM))).mono fun e w2 h => ⟨h.1, hM.keep h.2⟩) ?_
  refine Y_splitT rfl rfl e34 ?_
  repeat first
    | refine Y_res (r_move rfl) rfl ?_
    | refine Y_on rfl rfl ?_
    | refine X_tells (g := 16) (E := 5) (k := .u8) (z := macS k m) rfl rfl (fun w1 hM => mac_any k m _ _ _ _ w1 (hr2.old hM old_false) (hr.old hM old_false) (by omega) (by omega) (hK.keep hM.chg (fun h => h))) ?_
  intro A5 c5 x5 h5
  repeat first
    | refine Y_res (r_move rfl) rfl ?_
    | refine Y_on rfl rfl ?_
    | refine X_tells (g := 17) (E := 5) (k := .u8) (z := macS k m) rfl rfl (fun w1 hM => refmac_any k m _ _ _ _ w1 (hr2.old hM old_false) (hr.old hM old_false) (by omega) (by omega)) ?_
  intro A6 c6 x6 h6
  have e56 : x5 = x6 := by rw [h5, h6]
  repeat first
    | refine X_nil ?_
    | refine XT_seq ?_
    | refine XC_ret ?_
    | refine Y_res (r_assign rfl) rfl ?_
    | refine Y_on rfl rfl ?_
    | refine Y_res (r_pickT rfl rfl) rfl ?_
    | refine Y_call (g := 11) rfl rfl (fun w1 hM => (same_any _ _ _ _ _ _ w1 (by first | exact Rds.old (by assumption) hM old_false | exact rds_sl (PkS.has inferInstance hM)) (by first | exact Rds.old (by assumption) hM old_false | exact rds_sl (PkS.has inferInstance hM))).mono fun e w2 h => ⟨h.1, hM.keep h.2⟩) ?_
  exact XT_says (.inl rfl) Tryd.results6 rfl (by rw [decide_eq_true e56])
end Go.Proofs.YtjdplgjabbeejaaDoor.NSha
