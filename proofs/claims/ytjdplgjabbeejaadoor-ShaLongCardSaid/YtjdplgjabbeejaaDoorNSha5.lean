/- The laws' own anchor: two sums at known messages. -/
import Derived.Test.YtjdplgjabbeejaaDoorNSha4
namespace Go.Proofs.YtjdplgjabbeejaaDoor.NSha
open Go Go.RowKit Go.Proofs.YtjdplgjabbeejaaDoor.MX Go.Proofs.YtjdplgjabbeejaaDoor.PSha
set_option linter.unusedVariables false
set_option linter.unusedSimpArgs false
set_option linter.unusedVariables false

theorem known0 : (sumS KS []).getD 0 0 = 227 ∧ (sumS KS []).getD 31 0 = 85 := by decide +kernel
theorem known3 : (sumS KS [97, 98, 99]).getD 0 0 = 186 ∧ (sumS KS [97, 98, 99]).getD 31 0 = 173 := by decide +kernel
set_option maxHeartbeats 1000000 in
theorem anchor_any (w : World) (hK : KAt KS w) : Calls Tryd.prog 8 #[] w fun e w' => e = .returned (.bool true) ∧ Chg (fun _ => False) w w' := by
  obtain ⟨z, hz⟩ : ∃ z, sumS KS [] = z := ⟨_, rfl⟩
  obtain ⟨y, hy⟩ : ∃ y, sumS KS [97, 98, 99] = y := ⟨_, rfl⟩
  have hzl : z.length = 32 := by rw [← hz]; exact sumS_len _ _
  have hyl : y.length = 32 := by rw [← hy]; exact sumS_len _ _
  obtain ⟨z0, z31⟩ := known0
  obtain ⟨y0, y31⟩ := known3
  rw [hz] at z0 z31
  rw [hy] at y0 y31
  refine calls_of_X (vs := []) (M := Hp w (fun _ => False) []) Tryd.func8 rfl Tryd.ntmps8 rfl (Hp.nil _ _) ?_
  repeat first
    | refine XC_region ?_
    | refine XC_quietF rfl (by kernel_rfl) (by kernel_rfl) drw_hp ?_
    | refine XC_tailF (by kernel_rfl) (by kernel_rfl) drw_hp ?_
    | refine X_nil ?_
    | refine XQ_nil ?_
    | refine XQ_nilX ?_
    | refine XC_condT rfl ?_
    | refine XC_condF rfl ?_
    | refine XC_seq ?_
    | refine XT_seq ?_
    | refine XC_block ?_
    | refine XT_block_normal ?_
    | refine XT_block_ret ?_
    | refine XT_block_same rfl ?_
    | refine XT_block_other rfl ?_
    | refine XT_then_exit ?_
    | refine XT_then_ret ?_
    | refine XC_skip ?_
    | refine XC_exit ?_
    | refine XC_ret ?_
    | refine Y_res (r_move rfl) rfl ?_
    | refine Y_res (r_assign rfl) rfl ?_
    | refine Y_res (r_add64 rfl rfl (by omega)) rfl ?_
    | refine Y_res (r_add8 rfl rfl) rfl ?_
    | refine Y_res (r_add32 rfl rfl) rfl ?_
    | refine Y_res (r_addu rfl rfl) rfl ?_
    | refine Y_res (r_sub64 rfl rfl (by omega)) rfl ?_
    | refine Y_res (r_sub8 rfl rfl) rfl ?_
    | refine Y_res (r_sub32 rfl rfl) rfl ?_
    | refine Y_res (r_subu rfl rfl) rfl ?_
    | refine Y_res (r_mul64 rfl rfl (by omega)) rfl ?_
    | refine Y_res (r_mul8 rfl rfl) rfl ?_
    | refine Y_res (r_mul32 rfl rfl) rfl ?_
    | refine Y_res (r_mulu rfl rfl) rfl ?_
    | refine Y_res (r_rem rfl rfl (by omega)) rfl ?_
    | refine Y_res (r_quo rfl rfl (by omega)) rfl ?_
    | refine Y_res (r_and rfl rfl) rfl ?_
    | refine Y_res (r_or rfl rfl) rfl ?_
    | refine Y_res (r_xor rfl rfl) rfl ?_
    | refine Y_res (r_andNot rfl rfl) rfl ?_
    | refine Y_res (r_not rfl) rfl ?_
    | refine Y_res (r_shl32 rfl rfl rfl) rfl ?_
    | refine Y_res (r_shlu rfl rfl rfl) rfl ?_
    | refine Y_res (r_shl64 rfl rfl rfl (by omega)) rfl ?_
    | refine Y_res (r_shr rfl rfl rfl) rfl ?_
    | refine Y_res (r_shl rfl rfl rfl) rfl ?_
    | refine Y_res (r_lss rfl rfl) rfl ?_
    | refine Y_res (r_leq rfl rfl) rfl ?_
    | refine Y_res (r_gtr rfl rfl) rfl ?_
    | refine Y_res (r_geq rfl rfl) rfl ?_
    | refine Y_res (r_eql rfl rfl) rfl ?_
    | refine Y_res (r_neq rfl rfl) rfl ?_
    | refine Y_res (r_eqlNil rfl rfl) rfl ?_
    | refine Y_res (r_neqNil rfl rfl) rfl ?_
    | refine Y_res (r_eqlNil2 rfl rfl) rfl ?_
    | refine Y_res (r_neqNil2 rfl rfl) rfl ?_
    | refine Y_res (r_eqlB rfl rfl) rfl ?_
    | refine Y_res (r_neqB rfl rfl) rfl ?_
    | refine X_mark rfl rfl ?_
    | refine Y_on rfl rfl ?_
    | refine Y_off rfl rfl rfl ?_
    | refine Y_res (r_notB rfl) rfl ?_
    | refine Y_res (r_neg64 rfl (by omega)) rfl ?_
    | refine Y_res (r_conv8 rfl) rfl ?_
    | refine Y_res (r_conv32 rfl) rfl ?_
    | refine Y_res (r_convuN rfl (by omega)) rfl ?_
    | refine Y_res (r_convu rfl) rfl ?_
    | refine Y_res (r_conv64 rfl (by omega)) rfl ?_
    | refine Y_res (r_conv rfl) rfl ?_
    | refine Y_res (r_len rfl) rfl ?_
    | refine Y_res (r_indexA0 rfl rfl (by omega)) rfl ?_
    | refine Y_res (r_indexA1 rfl rfl (by omega)) rfl ?_
    | refine Y_res (r_indexA rfl rfl (by omega)) rfl ?_
    | refine Y_res (r_indexS rfl rfl (by omega) (by omega)) rfl ?_
    | refine Y_res (r_indexR rfl rfl (by assumption) (by omega) (by omega)) rfl ?_
    | refine Y_res (r_indexA0T rfl rfl (by omega) (by omega)) rfl ?_
    | refine Y_res (r_indexA1T rfl rfl (by omega) (by omega)) rfl ?_
    | refine Y_res (r_indexST rfl rfl (by omega) (by omega) (by omega)) rfl ?_
    | refine Y_res (r_indexRT rfl rfl (by assumption) (by omega) (by omega) (by omega)) rfl ?_
    | refine Y_res (r_field' rfl) rfl ?_
    | refine Y_res (r_field rfl) rfl ?_
    | refine Y_res (r_nilCheck rfl) rfl ?_
    | refine Y_resN (r_nilCheck rfl) ?_
    | refine Y_res (r_loadI rfl (by first | omega | (simp only [List.length_set, List.length_replicate]; omega))) rfl ?_
    | refine Y_res (r_loadB rfl rfl) rfl ?_
    | refine Y_res (r_loadR rfl (by assumption) (by first | exact old_false | assumption) (by omega)) rfl ?_
    | refine Y_res (r_cutL rfl rfl (by omega)) rfl ?_
    | refine Y_res (r_cutH rfl rfl (by omega)) rfl ?_
    | refine Y_res (r_cutLH rfl rfl rfl (by omega) (by omega)) rfl ?_
    | refine Y_res (r_cutA rfl rfl (by omega)) rfl ?_
    | refine Y_res (r_cutAll rfl) rfl ?_
    | refine Y_res (r_cutAH rfl rfl (by omega)) rfl ?_
    | refine Y_res (r_buildI (by rfl) (by rfl)) rfl ?_
    | refine Y_res (r_indexV rfl rfl (by omega) (by rfl)) rfl ?_
    | refine Y_res (r_extract rfl rfl) rfl ?_
    | refine Y_res (r_pickT rfl rfl) rfl ?_
    | refine Y_res (r_pickF rfl rfl) rfl ?_
    | refine X_storeI rfl rfl (by first | omega | (simp only [List.length_set, List.length_replicate]; omega)) ?_
    | refine X_storeB rfl rfl rfl (by decide) ?_
    | (refine X_allocI rfl ?_; intro _ _)
    | (refine X_buildS (by rfl) (by rfl) (by simp) rfl ?_; intro _ _)
    | refine X_storeWI rfl rfl (by rfl) (by rfl) ?_
    | refine Y_res (r_loadWI rfl (by rfl)) rfl ?_
    | (refine X_make rfl rfl (by omega) (by omega) (by omega) rfl ?_; intro _ _)
    | refine Y_res (r_loadWH rfl (by rfl)) rfl ?_
    | refine Y_res (r_loadW rfl (by rfl)) rfl ?_
    | (refine X_append rfl rfl (fun w_ h_ => rds_ints (Hp.head h_) (by simp) (by decide)) (by rfl) (by rfl) (by rfl) (by first | omega | (simp only [List.length_cons, List.length_nil]; omega)) (by first | omega | (simp only [List.length_cons, List.length_nil]; omega)) rfl ?_; intro _ _)
  refine X_call rfl rfl (fun w1 h1 => (sum_any KS [] none 0 w1 (Rds.nil_ _ _) (by decide) (hK.keep h1.chg (fun h => h))).mono ?_)
  rw [hz]
  rintro e w2 ⟨v, rfl, ⟨A1, cap1, rfl, hp1, hf1⟩, hc1⟩
  refine ⟨_, rfl, _, h1.add hc1 hp1 hf1, ?_⟩
  repeat first
    | refine XC_region ?_
    | refine XC_quietF rfl (by kernel_rfl) (by kernel_rfl) drw_hp ?_
    | refine XC_tailF (by kernel_rfl) (by kernel_rfl) drw_hp ?_
    | refine X_nil ?_
    | refine XQ_nil ?_
    | refine XQ_nilX ?_
    | refine XC_condT rfl ?_
    | refine XC_condF rfl ?_
    | refine XC_seq ?_
    | refine XT_seq ?_
    | refine XC_block ?_
    | refine XT_block_normal ?_
    | refine XT_block_ret ?_
    | refine XT_block_same rfl ?_
    | refine XT_block_other rfl ?_
    | refine XT_then_exit ?_
    | refine XT_then_ret ?_
    | refine XC_skip ?_
    | refine XC_exit ?_
    | refine XC_ret ?_
    | refine Y_res (r_move rfl) rfl ?_
    | refine Y_res (r_assign rfl) rfl ?_
    | refine Y_res (r_add64 rfl rfl (by omega)) rfl ?_
    | refine Y_res (r_add8 rfl rfl) rfl ?_
    | refine Y_res (r_add32 rfl rfl) rfl ?_
    | refine Y_res (r_addu rfl rfl) rfl ?_
    | refine Y_res (r_sub64 rfl rfl (by omega)) rfl ?_
    | refine Y_res (r_sub8 rfl rfl) rfl ?_
    | refine Y_res (r_sub32 rfl rfl) rfl ?_
    | refine Y_res (r_subu rfl rfl) rfl ?_
    | refine Y_res (r_mul64 rfl rfl (by omega)) rfl ?_
    | refine Y_res (r_mul8 rfl rfl) rfl ?_
    | refine Y_res (r_mul32 rfl rfl) rfl ?_
    | refine Y_res (r_mulu rfl rfl) rfl ?_
    | refine Y_res (r_rem rfl rfl (by omega)) rfl ?_
    | refine Y_res (r_quo rfl rfl (by omega)) rfl ?_
    | refine Y_res (r_and rfl rfl) rfl ?_
    | refine Y_res (r_or rfl rfl) rfl ?_
    | refine Y_res (r_xor rfl rfl) rfl ?_
    | refine Y_res (r_andNot rfl rfl) rfl ?_
    | refine Y_res (r_not rfl) rfl ?_
    | refine Y_res (r_shl32 rfl rfl rfl) rfl ?_
    | refine Y_res (r_shlu rfl rfl rfl) rfl ?_
    | refine Y_res (r_shl64 rfl rfl rfl (by omega)) rfl ?_
    | refine Y_res (r_shr rfl rfl rfl) rfl ?_
    | refine Y_res (r_shl rfl rfl rfl) rfl ?_
    | refine Y_res (r_lss rfl rfl) rfl ?_
    | refine Y_res (r_leq rfl rfl) rfl ?_
    | refine Y_res (r_gtr rfl rfl) rfl ?_
    | refine Y_res (r_geq rfl rfl) rfl ?_
    | refine Y_res (r_eql rfl rfl) rfl ?_
    | refine Y_res (r_neq rfl rfl) rfl ?_
    | refine Y_res (r_eqlNil rfl rfl) rfl ?_
    | refine Y_res (r_neqNil rfl rfl) rfl ?_
    | refine Y_res (r_eqlNil2 rfl rfl) rfl ?_
    | refine Y_res (r_neqNil2 rfl rfl) rfl ?_
    | refine Y_res (r_eqlB rfl rfl) rfl ?_
    | refine Y_res (r_neqB rfl rfl) rfl ?_
    | refine X_mark rfl rfl ?_
    | refine Y_on rfl rfl ?_
    | refine Y_off rfl rfl rfl ?_
    | refine Y_res (r_notB rfl) rfl ?_
    | refine Y_res (r_neg64 rfl (by omega)) rfl ?_
    | refine Y_res (r_conv8 rfl) rfl ?_
    | refine Y_res (r_conv32 rfl) rfl ?_
    | refine Y_res (r_convuN rfl (by omega)) rfl ?_
    | refine Y_res (r_convu rfl) rfl ?_
    | refine Y_res (r_conv64 rfl (by omega)) rfl ?_
    | refine Y_res (r_conv rfl) rfl ?_
    | refine Y_res (r_len rfl) rfl ?_
    | refine Y_res (r_indexA0 rfl rfl (by omega)) rfl ?_
    | refine Y_res (r_indexA1 rfl rfl (by omega)) rfl ?_
    | refine Y_res (r_indexA rfl rfl (by omega)) rfl ?_
    | refine Y_res (r_indexS rfl rfl (by omega) (by omega)) rfl ?_
    | refine Y_res (r_indexR rfl rfl (by assumption) (by omega) (by omega)) rfl ?_
    | refine Y_res (r_indexA0T rfl rfl (by omega) (by omega)) rfl ?_
    | refine Y_res (r_indexA1T rfl rfl (by omega) (by omega)) rfl ?_
    | refine Y_res (r_indexST rfl rfl (by omega) (by omega) (by omega)) rfl ?_
    | refine Y_res (r_indexRT rfl rfl (by assumption) (by omega) (by omega) (by omega)) rfl ?_
    | refine Y_res (r_field' rfl) rfl ?_
    | refine Y_res (r_field rfl) rfl ?_
    | refine Y_res (r_nilCheck rfl) rfl ?_
    | refine Y_resN (r_nilCheck rfl) ?_
    | refine Y_res (r_loadI rfl (by first | omega | (simp only [List.length_set, List.length_replicate]; omega))) rfl ?_
    | refine Y_res (r_loadB rfl rfl) rfl ?_
    | refine Y_res (r_loadR rfl (by assumption) (by first | exact old_false | assumption) (by omega)) rfl ?_
    | refine Y_res (r_cutL rfl rfl (by omega)) rfl ?_
    | refine Y_res (r_cutH rfl rfl (by omega)) rfl ?_
    | refine Y_res (r_cutLH rfl rfl rfl (by omega) (by omega)) rfl ?_
    | refine Y_res (r_cutA rfl rfl (by omega)) rfl ?_
    | refine Y_res (r_cutAll rfl) rfl ?_
    | refine Y_res (r_cutAH rfl rfl (by omega)) rfl ?_
    | refine Y_res (r_buildI (by rfl) (by rfl)) rfl ?_
    | refine Y_res (r_indexV rfl rfl (by omega) (by rfl)) rfl ?_
    | refine Y_res (r_extract rfl rfl) rfl ?_
    | refine Y_res (r_pickT rfl rfl) rfl ?_
    | refine Y_res (r_pickF rfl rfl) rfl ?_
    | refine X_storeI rfl rfl (by first | omega | (simp only [List.length_set, List.length_replicate]; omega)) ?_
    | refine X_storeB rfl rfl rfl (by decide) ?_
    | (refine X_allocI rfl ?_; intro _ _)
    | (refine X_buildS (by rfl) (by rfl) (by simp) rfl ?_; intro _ _)
    | refine X_storeWI rfl rfl (by rfl) (by rfl) ?_
    | refine Y_res (r_loadWI rfl (by rfl)) rfl ?_
    | (refine X_make rfl rfl (by omega) (by omega) (by omega) rfl ?_; intro _ _)
    | refine Y_res (r_loadWH rfl (by rfl)) rfl ?_
    | refine Y_res (r_loadW rfl (by rfl)) rfl ?_
    | (refine X_append rfl rfl (fun w_ h_ => rds_ints (Hp.head h_) (by simp) (by decide)) (by rfl) (by rfl) (by rfl) (by first | omega | (simp only [List.length_cons, List.length_nil]; omega)) (by first | omega | (simp only [List.length_cons, List.length_nil]; omega)) rfl ?_; intro _ _)
  rename_i g hg
  refine X_call rfl rfl (fun w3 h3 => (sum_any KS [97, 98, 99] (some ⟨g, 0, none⟩) 3 w3 (rds_ro h3.head (by decide) (by decide)) (by decide) (hK.keep h3.chg (fun h => h))).mono ?_)
  rw [hy]
  rintro e w4 ⟨v, rfl, ⟨A2, cap2, rfl, hp2, hf2⟩, hc2⟩
  refine ⟨_, rfl, _, h3.add hc2 hp2 hf2, ?_⟩
  have hcap1 := sl_cap hp1
  have hcap2 := sl_cap hp2
  repeat first
    | refine XC_region ?_
    | refine XC_quietF rfl (by kernel_rfl) (by kernel_rfl) drw_hp ?_
    | refine XC_tailF (by kernel_rfl) (by kernel_rfl) drw_hp ?_
    | refine X_nil ?_
    | refine XQ_nil ?_
    | refine XQ_nilX ?_
    | refine XC_condT rfl ?_
    | refine XC_condF rfl ?_
    | refine XC_seq ?_
    | refine XT_seq ?_
    | refine XC_block ?_
    | refine XT_block_normal ?_
    | refine XT_block_ret ?_
    | refine XT_block_same rfl ?_
    | refine XT_block_other rfl ?_
    | refine XT_then_exit ?_
    | refine XT_then_ret ?_
    | refine XC_skip ?_
    | refine XC_exit ?_
    | refine XC_ret ?_
    | refine Y_res (r_move rfl) rfl ?_
    | refine Y_res (r_assign rfl) rfl ?_
    | refine Y_res (r_add64 rfl rfl (by omega)) rfl ?_
    | refine Y_res (r_add8 rfl rfl) rfl ?_
    | refine Y_res (r_add32 rfl rfl) rfl ?_
    | refine Y_res (r_addu rfl rfl) rfl ?_
    | refine Y_res (r_sub64 rfl rfl (by omega)) rfl ?_
    | refine Y_res (r_sub8 rfl rfl) rfl ?_
    | refine Y_res (r_sub32 rfl rfl) rfl ?_
    | refine Y_res (r_subu rfl rfl) rfl ?_
    | refine Y_res (r_mul64 rfl rfl (by omega)) rfl ?_
    | refine Y_res (r_mul8 rfl rfl) rfl ?_
    | refine Y_res (r_mul32 rfl rfl) rfl ?_
    | refine Y_res (r_mulu rfl rfl) rfl ?_
    | refine Y_res (r_rem rfl rfl (by omega)) rfl ?_
    | refine Y_res (r_quo rfl rfl (by omega)) rfl ?_
    | refine Y_res (r_and rfl rfl) rfl ?_
    | refine Y_res (r_or rfl rfl) rfl ?_
    | refine Y_res (r_xor rfl rfl) rfl ?_
    | refine Y_res (r_andNot rfl rfl) rfl ?_
    | refine Y_res (r_not rfl) rfl ?_
    | refine Y_res (r_shl32 rfl rfl rfl) rfl ?_
    | refine Y_res (r_shlu rfl rfl rfl) rfl ?_
    | refine Y_res (r_shl64 rfl rfl rfl (by omega)) rfl ?_
    | refine Y_res (r_shr rfl rfl rfl) rfl ?_
    | refine Y_res (r_shl rfl rfl rfl) rfl ?_
    | refine Y_res (r_lss rfl rfl) rfl ?_
    | refine Y_res (r_leq rfl rfl) rfl ?_
    | refine Y_res (r_gtr rfl rfl) rfl ?_
    | refine Y_res (r_geq rfl rfl) rfl ?_
    | refine Y_res (r_eql rfl rfl) rfl ?_
    | refine Y_res (r_neq rfl rfl) rfl ?_
    | refine Y_res (r_eqlNil rfl rfl) rfl ?_
    | refine Y_res (r_neqNil rfl rfl) rfl ?_
    | refine Y_res (r_eqlNil2 rfl rfl) rfl ?_
    | refine Y_res (r_neqNil2 rfl rfl) rfl ?_
    | refine Y_res (r_eqlB rfl rfl) rfl ?_
    | refine Y_res (r_neqB rfl rfl) rfl ?_
    | refine X_mark rfl rfl ?_
    | refine Y_on rfl rfl ?_
    | refine Y_off rfl rfl rfl ?_
    | refine Y_res (r_notB rfl) rfl ?_
    | refine Y_res (r_neg64 rfl (by omega)) rfl ?_
    | refine Y_res (r_conv8 rfl) rfl ?_
    | refine Y_res (r_conv32 rfl) rfl ?_
    | refine Y_res (r_convuN rfl (by omega)) rfl ?_
    | refine Y_res (r_convu rfl) rfl ?_
    | refine Y_res (r_conv64 rfl (by omega)) rfl ?_
    | refine Y_res (r_conv rfl) rfl ?_
    | refine Y_res (r_len rfl) rfl ?_
    | refine Y_res (r_indexA0 rfl rfl (by omega)) rfl ?_
    | refine Y_res (r_indexA1 rfl rfl (by omega)) rfl ?_
    | refine Y_res (r_indexA rfl rfl (by omega)) rfl ?_
    | refine Y_res (r_indexS rfl rfl (by omega) (by omega)) rfl ?_
    | refine Y_res (r_indexR rfl rfl (by assumption) (by omega) (by omega)) rfl ?_
    | refine Y_res (r_indexA0T rfl rfl (by omega) (by omega)) rfl ?_
    | refine Y_res (r_indexA1T rfl rfl (by omega) (by omega)) rfl ?_
    | refine Y_res (r_indexST rfl rfl (by omega) (by omega) (by omega)) rfl ?_
    | refine Y_res (r_indexRT rfl rfl (by assumption) (by omega) (by omega) (by omega)) rfl ?_
    | refine Y_res (r_field' rfl) rfl ?_
    | refine Y_res (r_field rfl) rfl ?_
    | refine Y_res (r_nilCheck rfl) rfl ?_
    | refine Y_resN (r_nilCheck rfl) ?_
    | refine Y_res (r_loadI rfl (by first | omega | (simp only [List.length_set, List.length_replicate]; omega))) rfl ?_
    | refine Y_res (r_loadB rfl rfl) rfl ?_
    | refine Y_res (r_loadR rfl (by assumption) (by first | exact old_false | assumption) (by omega)) rfl ?_
    | refine Y_res (r_cutL rfl rfl (by omega)) rfl ?_
    | refine Y_res (r_cutH rfl rfl (by omega)) rfl ?_
    | refine Y_res (r_cutLH rfl rfl rfl (by omega) (by omega)) rfl ?_
    | refine Y_res (r_cutA rfl rfl (by omega)) rfl ?_
    | refine Y_res (r_cutAll rfl) rfl ?_
    | refine Y_res (r_cutAH rfl rfl (by omega)) rfl ?_
    | refine Y_res (r_buildI (by rfl) (by rfl)) rfl ?_
    | refine Y_res (r_indexV rfl rfl (by omega) (by rfl)) rfl ?_
    | refine Y_res (r_extract rfl rfl) rfl ?_
    | refine Y_res (r_pickT rfl rfl) rfl ?_
    | refine Y_res (r_pickF rfl rfl) rfl ?_
    | refine X_storeI rfl rfl (by first | omega | (simp only [List.length_set, List.length_replicate]; omega)) ?_
    | refine X_storeB rfl rfl rfl (by decide) ?_
    | (refine X_allocI rfl ?_; intro _ _)
    | (refine X_buildS (by rfl) (by rfl) (by simp) rfl ?_; intro _ _)
    | refine X_storeWI rfl rfl (by rfl) (by rfl) ?_
    | refine Y_res (r_loadWI rfl (by rfl)) rfl ?_
    | (refine X_make rfl rfl (by omega) (by omega) (by omega) rfl ?_; intro _ _)
    | refine Y_res (r_loadWH rfl (by rfl)) rfl ?_
    | refine Y_res (r_loadW rfl (by rfl)) rfl ?_
    | (refine X_append rfl rfl (fun w_ h_ => rds_ints (Hp.head h_) (by simp) (by decide)) (by rfl) (by rfl) (by rfl) (by first | omega | (simp only [List.length_cons, List.length_nil]; omega)) (by first | omega | (simp only [List.length_cons, List.length_nil]; omega)) rfl ?_; intro _ _)
    | refine Y_splitT rfl rfl (by omega) ?_
  refine XT_ret1 (.inl rfl) Tryd.results8 rfl (fun w5 h5 => ?_)
  exact ⟨by rw [decide_eq_true y31], h5.chg⟩
end Go.Proofs.YtjdplgjabbeejaaDoor.NSha
