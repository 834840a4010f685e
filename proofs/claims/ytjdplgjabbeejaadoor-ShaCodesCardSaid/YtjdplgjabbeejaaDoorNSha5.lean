/- The laws' own anchor: two sums at known messages. -/
import Derived.Test.YtjdplgjabbeejaaDoorNSha4
namespace Go.Proofs.YtjdplgjabbeejaaDoor.NSha
open Go Go.RowKit Go.Proofs.YtjdplgjabbeejaaDoor.MX Go.Proofs.YtjdplgjabbeejaaDoor.PSha
set_option linter.unusedVariables false
set_option linter.unusedSimpArgs false
set_option linter.unusedVariables false

theorem known0 : (sumS KS []).getD 0 0 = 227 ∧ (sumS KS []).getD 31 0 = 85 := by decide +kernel
theorem known3 : (sumS KS [97, 98, 99]).getD 0 0 = 186 ∧ (sumS KS [97, 98, 99]).getD 31 0 = 173 := by decide +kernel
set_option maxHeartbeats 1000000 in
theorem anchor_any (w : World) (hK : KAt KS w) : Calls Tryd.prog 8 #[] w fun e w' => e = .returned (.bool true) ∧ Chg (fun _ => False) w w' := by
  obtain ⟨z, hz⟩ : ∃ z, sumS KS [] = z := ⟨_, rfl⟩
  obtain ⟨y, hy⟩ : ∃ y, sumS KS [97, 98, 99] = y := ⟨_, rfl⟩
  have hzl : z.length = 32 := by rw [← hz]; exact sumS_len _ _
  have hyl : y.length = 32 := by rw [← hy]; exact sumS_len _ _
  obtain ⟨z0, z31⟩ := known0
  obtain ⟨y0, y31⟩ := known3
  rw [hz] at z0 z31
  rw [hy] at y0 y31
  refine calls_of_X (vs := []) (M := Hp w (fun _ => False) []) Tryd.func8 rfl Tryd.ntmps8 rfl (Hp.nil _ _) ?_
  repeat first
    | refine XC_region ?_
    | refine X_nil ?_
    | refine XC_seq ?_
    | refine XT_seq ?_
    | refine Y_res (r_assign rfl) rfl ?_
  refine X_call rfl rfl (fun w1 h1 => (sum_any KS [] none 0 w1 (Rds.nil_ _ _) (by decide) (hK.keep h1.chg (fun h => h))).mono ?_)
  rw [hz]
  rintro e w2 ⟨v, rfl, ⟨A1, cap1, rfl, hp1, hf1⟩, hc1⟩
  refine ⟨_, rfl, _, h1.add hc1 hp1 hf1, ?_⟩
  repeat first
    | refine X_mark rfl rfl ?_
    | (refine X_buildS (by rfl) (by rfl) (by simp) rfl ?_; intro _ _)
  rename_i g hg
  refine X_call rfl rfl (fun w3 h3 => (sum_any KS [97, 98, 99] (some ⟨g, 0, none⟩) 3 w3 (rds_ro h3.head (by decide) (by decide)) (by decide) (hK.keep h3.chg (fun h => h))).mono ?_)
  rw [hy]
  rintro e w4 ⟨v, rfl, ⟨A2, cap2, rfl, hp2, hf2⟩, hc2⟩
  refine ⟨_, rfl, _, h3.add hc2 hp2 hf2, ?_⟩
  have hcap1 := sl_cap hp1
  have hcap2 := sl_cap hp2
  repeat first
    | refine XC_region ?_
    | refine X_nil ?_
    | refine XC_seq ?_
    | refine XT_seq ?_
    | refine XC_ret ?_
    | refine Y_res (r_move rfl) rfl ?_
    | refine Y_res (r_assign rfl) rfl ?_
    | refine Y_res (r_eql rfl rfl) rfl ?_
    | refine Y_on rfl rfl ?_
    | refine Y_res (r_len rfl) rfl ?_
    | refine Y_res (r_indexS rfl rfl (by omega) (by first | omega | (simp only [List.length_set, List.length_replicate]; omega))) rfl ?_
    | refine Y_res (r_loadI rfl (by first | omega | (simp only [List.length_set, List.length_replicate]; omega))) rfl ?_
    | refine Y_res (r_pickT rfl rfl) rfl ?_
    | refine Y_splitT rfl rfl (by omega) ?_
  refine XT_ret1 (.inl rfl) Tryd.results8 rfl (fun w5 h5 => ?_)
  exact ⟨by rw [decide_eq_true y31], h5.chg⟩
end Go.Proofs.YtjdplgjabbeejaaDoor.NSha
