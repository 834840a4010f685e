/- ShaLong, walked: true at every input. -/
import Derived.Test.YtjdplgjabbeejaaDoorNSha5
namespace Go.Proofs.YtjdplgjabbeejaaDoor.NSha
open Go Go.RowKit Go.Proofs.YtjdplgjabbeejaaDoor.MX Go.Proofs.YtjdplgjabbeejaaDoor.PSha
set_option linter.unusedVariables false
set_option linter.unusedSimpArgs false
set_option linter.unusedVariables false
set_option maxHeartbeats 2000000 in
theorem long_any (b x : Int) (w : World) (hb : (Lit.int .u8 b).wf = true) (hx : (Lit.int .i64 x).wf = true) (hK : KAt KS w) :
    Calls Tryd.prog 3 #[.int .u8 b, .int .i64 x] w fun e w' => e = .returned (.bool true) ∧ Chg (fun _ => False) w w' := by
  have hw0 := hK.pos
  refine calls_of_X (vs := [_, _]) (M := Hp w (fun _ => False) []) Tryd.func3 rfl Tryd.ntmps3 rfl (Hp.nil _ _) ?_
  repeat first
    | refine XC_region ?_
    | refine XC_quietF rfl (by kernel_rfl) (by kernel_rfl) drw_hp ?_
    | refine XC_tailF (by kernel_rfl) (by kernel_rfl) drw_hp ?_
    | refine X_nil ?_
    | refine XQ_nil ?_
    | refine XQ_nilX ?_
    | refine XC_condT rfl ?_
    | refine XC_condF rfl ?_
    | refine XC_seq ?_
    | refine XT_seq ?_
    | refine XC_block ?_
    | refine XT_block_normal ?_
    | refine XT_block_ret ?_
    | refine XT_block_same rfl ?_
    | refine XT_block_other rfl ?_
    | refine XT_then_exit ?_
    | refine XT_then_ret ?_
    | refine XC_skip ?_
    | refine XC_exit ?_
    | refine XC_ret ?_
    | refine Y_res (r_move rfl) rfl ?_
    | refine Y_res (r_assign rfl) rfl ?_
    | refine Y_res (r_add64 rfl rfl (by omega)) rfl ?_
    | refine Y_res (r_add8 rfl rfl) rfl ?_
    | refine Y_res (r_add32 rfl rfl) rfl ?_
    | refine Y_res (r_addu rfl rfl) rfl ?_
    | refine Y_res (r_sub64 rfl rfl (by omega)) rfl ?_
    | refine Y_res (r_sub8 rfl rfl) rfl ?_
    | refine Y_res (r_sub32 rfl rfl) rfl ?_
    | refine Y_res (r_subu rfl rfl) rfl ?_
    | refine Y_res (r_mul64 rfl rfl (by omega)) rfl ?_
    | refine Y_res (r_mul8 rfl rfl) rfl ?_
    | refine Y_res (r_mul32 rfl rfl) rfl ?_
    | refine Y_res (r_mulu rfl rfl) rfl ?_
    | refine Y_res (r_rem rfl rfl (by omega)) rfl ?_
    | refine Y_res (r_quo rfl rfl (by omega)) rfl ?_
    | refine Y_res (r_and rfl rfl) rfl ?_
    | refine Y_res (r_or rfl rfl) rfl ?_
    | refine Y_res (r_xor rfl rfl) rfl ?_
    | refine Y_res (r_andNot rfl rfl) rfl ?_
    | refine Y_res (r_not rfl) rfl ?_
    | refine Y_res (r_shl32 rfl rfl rfl) rfl ?_
    | refine Y_res (r_shlu rfl rfl rfl) rfl ?_
    | refine Y_res (r_shl64 rfl rfl rfl (by omega)) rfl ?_
    | refine Y_res (r_shr rfl rfl rfl) rfl ?_
    | refine Y_res (r_shl rfl rfl rfl) rfl ?_
    | refine Y_res (r_lss rfl rfl) rfl ?_
    | refine Y_res (r_leq rfl rfl) rfl ?_
    | refine Y_res (r_gtr rfl rfl) rfl ?_
    | refine Y_res (r_geq rfl rfl) rfl ?_
    | refine Y_res (r_eql rfl rfl) rfl ?_
    | refine Y_res (r_neq rfl rfl) rfl ?_
    | refine Y_res (r_eqlNil rfl rfl) rfl ?_
    | refine Y_res (r_neqNil rfl rfl) rfl ?_
    | refine Y_res (r_eqlNil2 rfl rfl) rfl ?_
    | refine Y_res (r_neqNil2 rfl rfl) rfl ?_
    | refine Y_res (r_eqlB rfl rfl) rfl ?_
    | refine Y_res (r_neqB rfl rfl) rfl ?_
    | refine X_mark rfl rfl ?_
    | refine Y_on rfl rfl ?_
    | refine Y_off rfl rfl rfl ?_
    | refine Y_res (r_notB rfl) rfl ?_
    | refine Y_res (r_neg64 rfl (by omega)) rfl ?_
    | refine Y_res (r_conv8 rfl) rfl ?_
    | refine Y_res (r_conv32 rfl) rfl ?_
    | refine Y_res (r_convuN rfl (by omega)) rfl ?_
    | refine Y_res (r_convu rfl) rfl ?_
    | refine Y_res (r_conv64 rfl (by omega)) rfl ?_
    | refine Y_res (r_conv rfl) rfl ?_
    | refine Y_res (r_len rfl) rfl ?_
    | refine Y_res (r_indexA0 rfl rfl (by omega)) rfl ?_
    | refine Y_res (r_indexA1 rfl rfl (by omega)) rfl ?_
    | refine Y_res (r_indexA rfl rfl (by omega)) rfl ?_
    | refine Y_res (r_indexS rfl rfl (by omega) (by omega)) rfl ?_
    | refine Y_res (r_indexR rfl rfl (by assumption) (by omega) (by omega)) rfl ?_
    | refine Y_res (r_indexA0T rfl rfl (by omega) (by omega)) rfl ?_
    | refine Y_res (r_indexA1T rfl rfl (by omega) (by omega)) rfl ?_
    | refine Y_res (r_indexST rfl rfl (by omega) (by omega) (by omega)) rfl ?_
    | refine Y_res (r_indexRT rfl rfl (by assumption) (by omega) (by omega) (by omega)) rfl ?_
    | refine Y_res (r_field' rfl) rfl ?_
    | refine Y_res (r_field rfl) rfl ?_
    | refine Y_res (r_nilCheck rfl) rfl ?_
    | refine Y_resN (r_nilCheck rfl) ?_
    | refine Y_res (r_loadI rfl (by first | omega | (simp only [List.length_set, List.length_replicate]; omega))) rfl ?_
    | refine Y_res (r_loadB rfl rfl) rfl ?_
    | refine Y_res (r_loadR rfl (by assumption) (by first | exact old_false | assumption) (by omega)) rfl ?_
    | refine Y_res (r_cutL rfl rfl (by omega)) rfl ?_
    | refine Y_res (r_cutH rfl rfl (by omega)) rfl ?_
    | refine Y_res (r_cutLH rfl rfl rfl (by omega) (by omega)) rfl ?_
    | refine Y_res (r_cutA rfl rfl (by omega)) rfl ?_
    | refine Y_res (r_cutAll rfl) rfl ?_
    | refine Y_res (r_cutAH rfl rfl (by omega)) rfl ?_
    | refine Y_res (r_buildI (by rfl) (by rfl)) rfl ?_
    | refine Y_res (r_indexV rfl rfl (by omega) (by rfl)) rfl ?_
    | refine Y_res (r_extract rfl rfl) rfl ?_
    | refine Y_res (r_pickT rfl rfl) rfl ?_
    | refine Y_res (r_pickF rfl rfl) rfl ?_
    | refine X_storeI rfl rfl (by first | omega | (simp only [List.length_set, List.length_replicate]; omega)) ?_
    | refine X_storeB rfl rfl rfl (by decide) ?_
    | (refine X_allocI rfl ?_; intro _ _)
    | (refine X_buildS (by rfl) (by rfl) (by simp) rfl ?_; intro _ _)
    | refine X_storeWI rfl rfl (by rfl) (by rfl) ?_
    | refine Y_res (r_loadWI rfl (by rfl)) rfl ?_
    | (refine X_make rfl rfl (by omega) (by omega) (by omega) rfl ?_; intro _ _)
    | refine Y_res (r_loadWH rfl (by rfl)) rfl ?_
    | refine Y_res (r_loadW rfl (by rfl)) rfl ?_
    | (refine X_append rfl rfl (fun w_ h_ => rds_ints (Hp.head h_) (by simp) (by decide)) (by rfl) (by rfl) (by rfl) (by first | omega | (simp only [List.length_cons, List.length_nil]; omega)) (by first | omega | (simp only [List.length_cons, List.length_nil]; omega)) rfl ?_; intro _ _)
    | refine Y_call (g := 8) rfl rfl (fun w1 hM => (anchor_any w1 (hK.keep hM.chg (fun h => h))).mono fun e w2 h => ⟨h.1, hM.keep h.2⟩) ?_
  refine Y_split rfl rfl (fun h1 => ?_) (fun h1 => ?_)
  · repeat first
      | refine XC_region ?_
      | refine XC_quietF rfl (by kernel_rfl) (by kernel_rfl) drw_hp ?_
      | refine XC_tailF (by kernel_rfl) (by kernel_rfl) drw_hp ?_
      | refine X_nil ?_
      | refine XQ_nil ?_
      | refine XQ_nilX ?_
      | refine XC_condT rfl ?_
      | refine XC_condF rfl ?_
      | refine XC_seq ?_
      | refine XT_seq ?_
      | refine XC_block ?_
      | refine XT_block_normal ?_
      | refine XT_block_ret ?_
      | refine XT_block_same rfl ?_
      | refine XT_block_other rfl ?_
      | refine XT_then_exit ?_
      | refine XT_then_ret ?_
      | refine XC_skip ?_
      | refine XC_exit ?_
      | refine XC_ret ?_
      | refine Y_res (r_move rfl) rfl ?_
      | refine Y_res (r_assign rfl) rfl ?_
      | refine Y_res (r_add64 rfl rfl (by omega)) rfl ?_
      | refine Y_res (r_add8 rfl rfl) rfl ?_
      | refine Y_res (r_add32 rfl rfl) rfl ?_
      | refine Y_res (r_addu rfl rfl) rfl ?_
      | refine Y_res (r_sub64 rfl rfl (by omega)) rfl ?_
      | refine Y_res (r_sub8 rfl rfl) rfl ?_
      | refine Y_res (r_sub32 rfl rfl) rfl ?_
      | refine Y_res (r_subu rfl rfl) rfl ?_
      | refine Y_res (r_mul64 rfl rfl (by omega)) rfl ?_
      | refine Y_res (r_mul8 rfl rfl) rfl ?_
      | refine Y_res (r_mul32 rfl rfl) rfl ?_
      | refine Y_res (r_mulu rfl rfl) rfl ?_
      | refine Y_res (r_rem rfl rfl (by omega)) rfl ?_
      | refine Y_res (r_quo rfl rfl (by omega)) rfl ?_
      | refine Y_res (r_and rfl rfl) rfl ?_
      | refine Y_res (r_or rfl rfl) rfl ?_
      | refine Y_res (r_xor rfl rfl) rfl ?_
      | refine Y_res (r_andNot rfl rfl) rfl ?_
      | refine Y_res (r_not rfl) rfl ?_
      | refine Y_res (r_shl32 rfl rfl rfl) rfl ?_
      | refine Y_res (r_shlu rfl rfl rfl) rfl ?_
      | refine Y_res (r_shl64 rfl rfl rfl (by omega)) rfl ?_
      | refine Y_res (r_shr rfl rfl rfl) rfl ?_
      | refine Y_res (r_shl rfl rfl rfl) rfl ?_
      | refine Y_res (r_lss rfl rfl) rfl ?_
      | refine Y_res (r_leq rfl rfl) rfl ?_
      | refine Y_res (r_gtr rfl rfl) rfl ?_
      | refine Y_res (r_geq rfl rfl) rfl ?_
      | refine Y_res (r_eql rfl rfl) rfl ?_
      | refine Y_res (r_neq rfl rfl) rfl ?_
      | refine Y_res (r_eqlNil rfl rfl) rfl ?_
      | refine Y_res (r_neqNil rfl rfl) rfl ?_
      | refine Y_res (r_eqlNil2 rfl rfl) rfl ?_
      | refine Y_res (r_neqNil2 rfl rfl) rfl ?_
      | refine Y_res (r_eqlB rfl rfl) rfl ?_
      | refine Y_res (r_neqB rfl rfl) rfl ?_
      | refine X_mark rfl rfl ?_
      | refine Y_on rfl rfl ?_
      | refine Y_off rfl rfl rfl ?_
      | refine Y_res (r_notB rfl) rfl ?_
      | refine Y_res (r_neg64 rfl (by omega)) rfl ?_
      | refine Y_res (r_conv8 rfl) rfl ?_
      | refine Y_res (r_conv32 rfl) rfl ?_
      | refine Y_res (r_convuN rfl (by omega)) rfl ?_
      | refine Y_res (r_convu rfl) rfl ?_
      | refine Y_res (r_conv64 rfl (by omega)) rfl ?_
      | refine Y_res (r_conv rfl) rfl ?_
      | refine Y_res (r_len rfl) rfl ?_
      | refine Y_res (r_indexA0 rfl rfl (by omega)) rfl ?_
      | refine Y_res (r_indexA1 rfl rfl (by omega)) rfl ?_
      | refine Y_res (r_indexA rfl rfl (by omega)) rfl ?_
      | refine Y_res (r_indexS rfl rfl (by omega) (by omega)) rfl ?_
      | refine Y_res (r_indexR rfl rfl (by assumption) (by omega) (by omega)) rfl ?_
      | refine Y_res (r_indexA0T rfl rfl (by omega) (by omega)) rfl ?_
      | refine Y_res (r_indexA1T rfl rfl (by omega) (by omega)) rfl ?_
      | refine Y_res (r_indexST rfl rfl (by omega) (by omega) (by omega)) rfl ?_
      | refine Y_res (r_indexRT rfl rfl (by assumption) (by omega) (by omega) (by omega)) rfl ?_
      | refine Y_res (r_field' rfl) rfl ?_
      | refine Y_res (r_field rfl) rfl ?_
      | refine Y_res (r_nilCheck rfl) rfl ?_
      | refine Y_resN (r_nilCheck rfl) ?_
      | refine Y_res (r_loadI rfl (by first | omega | (simp only [List.length_set, List.length_replicate]; omega))) rfl ?_
      | refine Y_res (r_loadB rfl rfl) rfl ?_
      | refine Y_res (r_loadR rfl (by assumption) (by first | exact old_false | assumption) (by omega)) rfl ?_
      | refine Y_res (r_cutL rfl rfl (by omega)) rfl ?_
      | refine Y_res (r_cutH rfl rfl (by omega)) rfl ?_
      | refine Y_res (r_cutLH rfl rfl rfl (by omega) (by omega)) rfl ?_
      | refine Y_res (r_cutA rfl rfl (by omega)) rfl ?_
      | refine Y_res (r_cutAll rfl) rfl ?_
      | refine Y_res (r_cutAH rfl rfl (by omega)) rfl ?_
      | refine Y_res (r_buildI (by rfl) (by rfl)) rfl ?_
      | refine Y_res (r_indexV rfl rfl (by omega) (by rfl)) rfl ?_
      | refine Y_res (r_extract rfl rfl) rfl ?_
      | refine Y_res (r_pickT rfl rfl) rfl ?_
      | refine Y_res (r_pickF rfl rfl) rfl ?_
      | refine X_storeI rfl rfl (by first | omega | (simp only [List.length_set, List.length_replicate]; omega)) ?_
      | refine X_storeB rfl rfl rfl (by decide) ?_
      | (refine X_allocI rfl ?_; intro _ _)
      | (refine X_buildS (by rfl) (by rfl) (by simp) rfl ?_; intro _ _)
      | refine X_storeWI rfl rfl (by rfl) (by rfl) ?_
      | refine Y_res (r_loadWI rfl (by rfl)) rfl ?_
      | (refine X_make rfl rfl (by omega) (by omega) (by omega) rfl ?_; intro _ _)
      | refine Y_res (r_loadWH rfl (by rfl)) rfl ?_
      | refine Y_res (r_loadW rfl (by rfl)) rfl ?_
      | (refine X_append rfl rfl (fun w_ h_ => rds_ints (Hp.head h_) (by simp) (by decide)) (by rfl) (by rfl) (by rfl) (by first | omega | (simp only [List.length_cons, List.length_nil]; omega)) (by first | omega | (simp only [List.length_cons, List.length_nil]; omega)) rfl ?_; intro _ _)
    exact XT_ret1 (.inl rfl) Tryd.results3 rfl (fun w5 h5 => ⟨rfl, h5.chg⟩)
  repeat first
    | refine XC_region ?_
    | refine XC_quietF rfl (by kernel_rfl) (by kernel_rfl) drw_hp ?_
    | refine XC_tailF (by kernel_rfl) (by kernel_rfl) drw_hp ?_
    | refine X_nil ?_
    | refine XQ_nil ?_
    | refine XQ_nilX ?_
    | refine XC_condT rfl ?_
    | refine XC_condF rfl ?_
    | refine XC_seq ?_
    | refine XT_seq ?_
    | refine XC_block ?_
    | refine XT_block_normal ?_
    | refine XT_block_ret ?_
    | refine XT_block_same rfl ?_
    | refine XT_block_other rfl ?_
    | refine XT_then_exit ?_
    | refine XT_then_ret ?_
    | refine XC_skip ?_
    | refine XC_exit ?_
    | refine XC_ret ?_
    | refine Y_res (r_move rfl) rfl ?_
    | refine Y_res (r_assign rfl) rfl ?_
    | refine Y_res (r_add64 rfl rfl (by omega)) rfl ?_
    | refine Y_res (r_add8 rfl rfl) rfl ?_
    | refine Y_res (r_add32 rfl rfl) rfl ?_
    | refine Y_res (r_addu rfl rfl) rfl ?_
    | refine Y_res (r_sub64 rfl rfl (by omega)) rfl ?_
    | refine Y_res (r_sub8 rfl rfl) rfl ?_
    | refine Y_res (r_sub32 rfl rfl) rfl ?_
    | refine Y_res (r_subu rfl rfl) rfl ?_
    | refine Y_res (r_mul64 rfl rfl (by omega)) rfl ?_
    | refine Y_res (r_mul8 rfl rfl) rfl ?_
    | refine Y_res (r_mul32 rfl rfl) rfl ?_
    | refine Y_res (r_mulu rfl rfl) rfl ?_
    | refine Y_res (r_rem rfl rfl (by omega)) rfl ?_
    | refine Y_res (r_quo rfl rfl (by omega)) rfl ?_
    | refine Y_res (r_and rfl rfl) rfl ?_
    | refine Y_res (r_or rfl rfl) rfl ?_
    | refine Y_res (r_xor rfl rfl) rfl ?_
    | refine Y_res (r_andNot rfl rfl) rfl ?_
    | refine Y_res (r_not rfl) rfl ?_
    | refine Y_res (r_shl32 rfl rfl rfl) rfl ?_
    | refine Y_res (r_shlu rfl rfl rfl) rfl ?_
    | refine Y_res (r_shl64 rfl rfl rfl (by omega)) rfl ?_
    | refine Y_res (r_shr rfl rfl rfl) rfl ?_
    | refine Y_res (r_shl rfl rfl rfl) rfl ?_
    | refine Y_res (r_lss rfl rfl) rfl ?_
    | refine Y_res (r_leq rfl rfl) rfl ?_
    | refine Y_res (r_gtr rfl rfl) rfl ?_
    | refine Y_res (r_geq rfl rfl) rfl ?_
    | refine Y_res (r_eql rfl rfl) rfl ?_
    | refine Y_res (r_neq rfl rfl) rfl ?_
    | refine Y_res (r_eqlNil rfl rfl) rfl ?_
    | refine Y_res (r_neqNil rfl rfl) rfl ?_
    | refine Y_res (r_eqlNil2 rfl rfl) rfl ?_
    | refine Y_res (r_neqNil2 rfl rfl) rfl ?_
    | refine Y_res (r_eqlB rfl rfl) rfl ?_
    | refine Y_res (r_neqB rfl rfl) rfl ?_
    | refine X_mark rfl rfl ?_
    | refine Y_on rfl rfl ?_
    | refine Y_off rfl rfl rfl ?_
    | refine Y_res (r_notB rfl) rfl ?_
    | refine Y_res (r_neg64 rfl (by omega)) rfl ?_
    | refine Y_res (r_conv8 rfl) rfl ?_
    | refine Y_res (r_conv32 rfl) rfl ?_
    | refine Y_res (r_convuN rfl (by omega)) rfl ?_
    | refine Y_res (r_convu rfl) rfl ?_
    | refine Y_res (r_conv64 rfl (by omega)) rfl ?_
    | refine Y_res (r_conv rfl) rfl ?_
    | refine Y_res (r_len rfl) rfl ?_
    | refine Y_res (r_indexA0 rfl rfl (by omega)) rfl ?_
    | refine Y_res (r_indexA1 rfl rfl (by omega)) rfl ?_
    | refine Y_res (r_indexA rfl rfl (by omega)) rfl ?_
    | refine Y_res (r_indexS rfl rfl (by omega) (by omega)) rfl ?_
    | refine Y_res (r_indexR rfl rfl (by assumption) (by omega) (by omega)) rfl ?_
    | refine Y_res (r_indexA0T rfl rfl (by omega) (by omega)) rfl ?_
    | refine Y_res (r_indexA1T rfl rfl (by omega) (by omega)) rfl ?_
    | refine Y_res (r_indexST rfl rfl (by omega) (by omega) (by omega)) rfl ?_
    | refine Y_res (r_indexRT rfl rfl (by assumption) (by omega) (by omega) (by omega)) rfl ?_
    | refine Y_res (r_field' rfl) rfl ?_
    | refine Y_res (r_field rfl) rfl ?_
    | refine Y_res (r_nilCheck rfl) rfl ?_
    | refine Y_resN (r_nilCheck rfl) ?_
    | refine Y_res (r_loadI rfl (by first | omega | (simp only [List.length_set, List.length_replicate]; omega))) rfl ?_
    | refine Y_res (r_loadB rfl rfl) rfl ?_
    | refine Y_res (r_loadR rfl (by assumption) (by first | exact old_false | assumption) (by omega)) rfl ?_
    | refine Y_res (r_cutL rfl rfl (by omega)) rfl ?_
    | refine Y_res (r_cutH rfl rfl (by omega)) rfl ?_
    | refine Y_res (r_cutLH rfl rfl rfl (by omega) (by omega)) rfl ?_
    | refine Y_res (r_cutA rfl rfl (by omega)) rfl ?_
    | refine Y_res (r_cutAll rfl) rfl ?_
    | refine Y_res (r_cutAH rfl rfl (by omega)) rfl ?_
    | refine Y_res (r_buildI (by rfl) (by rfl)) rfl ?_
    | refine Y_res (r_indexV rfl rfl (by omega) (by rfl)) rfl ?_
    | refine Y_res (r_extract rfl rfl) rfl ?_
    | refine Y_res (r_pickT rfl rfl) rfl ?_
    | refine Y_res (r_pickF rfl rfl) rfl ?_
    | refine X_storeI rfl rfl (by first | omega | (simp only [List.length_set, List.length_replicate]; omega)) ?_
    | refine X_storeB rfl rfl rfl (by decide) ?_
    | (refine X_allocI rfl ?_; intro _ _)
    | (refine X_buildS (by rfl) (by rfl) (by simp) rfl ?_; intro _ _)
    | refine X_storeWI rfl rfl (by rfl) (by rfl) ?_
    | refine Y_res (r_loadWI rfl (by rfl)) rfl ?_
    | (refine X_make rfl rfl (by omega) (by omega) (by omega) rfl ?_; intro _ _)
    | refine Y_res (r_loadWH rfl (by rfl)) rfl ?_
    | refine Y_res (r_loadW rfl (by rfl)) rfl ?_
    | (refine X_append rfl rfl (fun w_ h_ => rds_ints (Hp.head h_) (by simp) (by decide)) (by rfl) (by rfl) (by rfl) (by first | omega | (simp only [List.length_cons, List.length_nil]; omega)) (by first | omega | (simp only [List.length_cons, List.length_nil]; omega)) rfl ?_; intro _ _)
  refine XC_condP rfl (fun h3 => ?_) (fun h3 => ?_)
  · repeat first
      | refine XC_region ?_
      | refine XC_quietF rfl (by kernel_rfl) (by kernel_rfl) drw_hp ?_
      | refine XC_tailF (by kernel_rfl) (by kernel_rfl) drw_hp ?_
      | refine X_nil ?_
      | refine XQ_nil ?_
      | refine XQ_nilX ?_
      | refine XC_condT rfl ?_
      | refine XC_condF rfl ?_
      | refine XC_seq ?_
      | refine XT_seq ?_
      | refine XC_block ?_
      | refine XT_block_normal ?_
      | refine XT_block_ret ?_
      | refine XT_block_same rfl ?_
      | refine XT_block_other rfl ?_
      | refine XT_then_exit ?_
      | refine XT_then_ret ?_
      | refine XC_skip ?_
      | refine XC_exit ?_
      | refine XC_ret ?_
      | refine Y_res (r_move rfl) rfl ?_
      | refine Y_res (r_assign rfl) rfl ?_
      | refine Y_res (r_add64 rfl rfl (by omega)) rfl ?_
      | refine Y_res (r_add8 rfl rfl) rfl ?_
      | refine Y_res (r_add32 rfl rfl) rfl ?_
      | refine Y_res (r_addu rfl rfl) rfl ?_
      | refine Y_res (r_sub64 rfl rfl (by omega)) rfl ?_
      | refine Y_res (r_sub8 rfl rfl) rfl ?_
      | refine Y_res (r_sub32 rfl rfl) rfl ?_
      | refine Y_res (r_subu rfl rfl) rfl ?_
      | refine Y_res (r_mul64 rfl rfl (by omega)) rfl ?_
      | refine Y_res (r_mul8 rfl rfl) rfl ?_
      | refine Y_res (r_mul32 rfl rfl) rfl ?_
      | refine Y_res (r_mulu rfl rfl) rfl ?_
      | refine Y_res (r_rem rfl rfl (by omega)) rfl ?_
      | refine Y_res (r_quo rfl rfl (by omega)) rfl ?_
      | refine Y_res (r_and rfl rfl) rfl ?_
      | refine Y_res (r_or rfl rfl) rfl ?_
      | refine Y_res (r_xor rfl rfl) rfl ?_
      | refine Y_res (r_andNot rfl rfl) rfl ?_
      | refine Y_res (r_not rfl) rfl ?_
      | refine Y_res (r_shl32 rfl rfl rfl) rfl ?_
      | refine Y_res (r_shlu rfl rfl rfl) rfl ?_
      | refine Y_res (r_shl64 rfl rfl rfl (by omega)) rfl ?_
      | refine Y_res (r_shr rfl rfl rfl) rfl ?_
      | refine Y_res (r_shl rfl rfl rfl) rfl ?_
      | refine Y_res (r_lss rfl rfl) rfl ?_
      | refine Y_res (r_leq rfl rfl) rfl ?_
      | refine Y_res (r_gtr rfl rfl) rfl ?_
      | refine Y_res (r_geq rfl rfl) rfl ?_
      | refine Y_res (r_eql rfl rfl) rfl ?_
      | refine Y_res (r_neq rfl rfl) rfl ?_
      | refine Y_res (r_eqlNil rfl rfl) rfl ?_
      | refine Y_res (r_neqNil rfl rfl) rfl ?_
      | refine Y_res (r_eqlNil2 rfl rfl) rfl ?_
      | refine Y_res (r_neqNil2 rfl rfl) rfl ?_
      | refine Y_res (r_eqlB rfl rfl) rfl ?_
      | refine Y_res (r_neqB rfl rfl) rfl ?_
      | refine X_mark rfl rfl ?_
      | refine Y_on rfl rfl ?_
      | refine Y_off rfl rfl rfl ?_
      | refine Y_res (r_notB rfl) rfl ?_
      | refine Y_res (r_neg64 rfl (by omega)) rfl ?_
      | refine Y_res (r_conv8 rfl) rfl ?_
      | refine Y_res (r_conv32 rfl) rfl ?_
      | refine Y_res (r_convuN rfl (by omega)) rfl ?_
      | refine Y_res (r_convu rfl) rfl ?_
      | refine Y_res (r_conv64 rfl (by omega)) rfl ?_
      | refine Y_res (r_conv rfl) rfl ?_
      | refine Y_res (r_len rfl) rfl ?_
      | refine Y_res (r_indexA0 rfl rfl (by omega)) rfl ?_
      | refine Y_res (r_indexA1 rfl rfl (by omega)) rfl ?_
      | refine Y_res (r_indexA rfl rfl (by omega)) rfl ?_
      | refine Y_res (r_indexS rfl rfl (by omega) (by omega)) rfl ?_
      | refine Y_res (r_indexR rfl rfl (by assumption) (by omega) (by omega)) rfl ?_
      | refine Y_res (r_indexA0T rfl rfl (by omega) (by omega)) rfl ?_
      | refine Y_res (r_indexA1T rfl rfl (by omega) (by omega)) rfl ?_
      | refine Y_res (r_indexST rfl rfl (by omega) (by omega) (by omega)) rfl ?_
      | refine Y_res (r_indexRT rfl rfl (by assumption) (by omega) (by omega) (by omega)) rfl ?_
      | refine Y_res (r_field' rfl) rfl ?_
      | refine Y_res (r_field rfl) rfl ?_
      | refine Y_res (r_nilCheck rfl) rfl ?_
      | refine Y_resN (r_nilCheck rfl) ?_
      | refine Y_res (r_loadI rfl (by first | omega | (simp only [List.length_set, List.length_replicate]; omega))) rfl ?_
      | refine Y_res (r_loadB rfl rfl) rfl ?_
      | refine Y_res (r_loadR rfl (by assumption) (by first | exact old_false | assumption) (by omega)) rfl ?_
      | refine Y_res (r_cutL rfl rfl (by omega)) rfl ?_
      | refine Y_res (r_cutH rfl rfl (by omega)) rfl ?_
      | refine Y_res (r_cutLH rfl rfl rfl (by omega) (by omega)) rfl ?_
      | refine Y_res (r_cutA rfl rfl (by omega)) rfl ?_
      | refine Y_res (r_cutAll rfl) rfl ?_
      | refine Y_res (r_cutAH rfl rfl (by omega)) rfl ?_
      | refine Y_res (r_buildI (by rfl) (by rfl)) rfl ?_
      | refine Y_res (r_indexV rfl rfl (by omega) (by rfl)) rfl ?_
      | refine Y_res (r_extract rfl rfl) rfl ?_
      | refine Y_res (r_pickT rfl rfl) rfl ?_
      | refine Y_res (r_pickF rfl rfl) rfl ?_
      | refine X_storeI rfl rfl (by first | omega | (simp only [List.length_set, List.length_replicate]; omega)) ?_
      | refine X_storeB rfl rfl rfl (by decide) ?_
      | (refine X_allocI rfl ?_; intro _ _)
      | (refine X_buildS (by rfl) (by rfl) (by simp) rfl ?_; intro _ _)
      | refine X_storeWI rfl rfl (by rfl) (by rfl) ?_
      | refine Y_res (r_loadWI rfl (by rfl)) rfl ?_
      | (refine X_make rfl rfl (by omega) (by omega) (by omega) rfl ?_; intro _ _)
      | refine Y_res (r_loadWH rfl (by rfl)) rfl ?_
      | refine Y_res (r_loadW rfl (by rfl)) rfl ?_
      | (refine X_append rfl rfl (fun w_ h_ => rds_ints (Hp.head h_) (by simp) (by decide)) (by rfl) (by rfl) (by rfl) (by first | omega | (simp only [List.length_cons, List.length_nil]; omega)) (by first | omega | (simp only [List.length_cons, List.length_nil]; omega)) rfl ?_; intro _ _)
    exact XT_ret1 (.inl rfl) Tryd.results3 rfl (fun w5 h5 => ⟨rfl, h5.chg⟩)
  obtain ⟨n, rfl⟩ : ∃ n : Nat, x = n := ⟨x.toNat, by omega⟩
  have hn : n ≤ 1000 := by omega
  clear h1 h3 hx
  repeat first
    | refine XC_region ?_
    | refine XC_quietF rfl (by kernel_rfl) (by kernel_rfl) drw_hp ?_
    | refine XC_tailF (by kernel_rfl) (by kernel_rfl) drw_hp ?_
    | refine X_nil ?_
    | refine XQ_nil ?_
    | refine XQ_nilX ?_
    | refine XC_condT rfl ?_
    | refine XC_condF rfl ?_
    | refine XC_seq ?_
    | refine XT_seq ?_
    | refine XC_block ?_
    | refine XT_block_normal ?_
    | refine XT_block_ret ?_
    | refine XT_block_same rfl ?_
    | refine XT_block_other rfl ?_
    | refine XT_then_exit ?_
    | refine XT_then_ret ?_
    | refine XC_skip ?_
    | refine XC_exit ?_
    | refine XC_ret ?_
    | refine Y_res (r_move rfl) rfl ?_
    | refine Y_res (r_assign rfl) rfl ?_
    | refine Y_res (r_add64 rfl rfl (by omega)) rfl ?_
    | refine Y_res (r_add8 rfl rfl) rfl ?_
    | refine Y_res (r_add32 rfl rfl) rfl ?_
    | refine Y_res (r_addu rfl rfl) rfl ?_
    | refine Y_res (r_sub64 rfl rfl (by omega)) rfl ?_
    | refine Y_res (r_sub8 rfl rfl) rfl ?_
    | refine Y_res (r_sub32 rfl rfl) rfl ?_
    | refine Y_res (r_subu rfl rfl) rfl ?_
    | refine Y_res (r_mul64 rfl rfl (by omega)) rfl ?_
    | refine Y_res (r_mul8 rfl rfl) rfl ?_
    | refine Y_res (r_mul32 rfl rfl) rfl ?_
    | refine Y_res (r_mulu rfl rfl) rfl ?_
    | refine Y_res (r_rem rfl rfl (by omega)) rfl ?_
    | refine Y_res (r_quo rfl rfl (by omega)) rfl ?_
    | refine Y_res (r_and rfl rfl) rfl ?_
    | refine Y_res (r_or rfl rfl) rfl ?_
    | refine Y_res (r_xor rfl rfl) rfl ?_
    | refine Y_res (r_andNot rfl rfl) rfl ?_
    | refine Y_res (r_not rfl) rfl ?_
    | refine Y_res (r_shl32 rfl rfl rfl) rfl ?_
    | refine Y_res (r_shlu rfl rfl rfl) rfl ?_
    | refine Y_res (r_shl64 rfl rfl rfl (by omega)) rfl ?_
    | refine Y_res (r_shr rfl rfl rfl) rfl ?_
    | refine Y_res (r_shl rfl rfl rfl) rfl ?_
    | refine Y_res (r_lss rfl rfl) rfl ?_
    | refine Y_res (r_leq rfl rfl) rfl ?_
    | refine Y_res (r_gtr rfl rfl) rfl ?_
    | refine Y_res (r_geq rfl rfl) rfl ?_
    | refine Y_res (r_eql rfl rfl) rfl ?_
    | refine Y_res (r_neq rfl rfl) rfl ?_
    | refine Y_res (r_eqlNil rfl rfl) rfl ?_
    | refine Y_res (r_neqNil rfl rfl) rfl ?_
    | refine Y_res (r_eqlNil2 rfl rfl) rfl ?_
    | refine Y_res (r_neqNil2 rfl rfl) rfl ?_
    | refine Y_res (r_eqlB rfl rfl) rfl ?_
    | refine Y_res (r_neqB rfl rfl) rfl ?_
    | refine X_mark rfl rfl ?_
    | refine Y_on rfl rfl ?_
    | refine Y_off rfl rfl rfl ?_
    | refine Y_res (r_notB rfl) rfl ?_
    | refine Y_res (r_neg64 rfl (by omega)) rfl ?_
    | refine Y_res (r_conv8 rfl) rfl ?_
    | refine Y_res (r_conv32 rfl) rfl ?_
    | refine Y_res (r_convuN rfl (by omega)) rfl ?_
    | refine Y_res (r_convu rfl) rfl ?_
    | refine Y_res (r_conv64 rfl (by omega)) rfl ?_
    | refine Y_res (r_conv rfl) rfl ?_
    | refine Y_res (r_len rfl) rfl ?_
    | refine Y_res (r_indexA0 rfl rfl (by omega)) rfl ?_
    | refine Y_res (r_indexA1 rfl rfl (by omega)) rfl ?_
    | refine Y_res (r_indexA rfl rfl (by omega)) rfl ?_
    | refine Y_res (r_indexS rfl rfl (by omega) (by omega)) rfl ?_
    | refine Y_res (r_indexR rfl rfl (by assumption) (by omega) (by omega)) rfl ?_
    | refine Y_res (r_indexA0T rfl rfl (by omega) (by omega)) rfl ?_
    | refine Y_res (r_indexA1T rfl rfl (by omega) (by omega)) rfl ?_
    | refine Y_res (r_indexST rfl rfl (by omega) (by omega) (by omega)) rfl ?_
    | refine Y_res (r_indexRT rfl rfl (by assumption) (by omega) (by omega) (by omega)) rfl ?_
    | refine Y_res (r_field' rfl) rfl ?_
    | refine Y_res (r_field rfl) rfl ?_
    | refine Y_res (r_nilCheck rfl) rfl ?_
    | refine Y_resN (r_nilCheck rfl) ?_
    | refine Y_res (r_loadI rfl (by first | omega | (simp only [List.length_set, List.length_replicate]; omega))) rfl ?_
    | refine Y_res (r_loadB rfl rfl) rfl ?_
    | refine Y_res (r_loadR rfl (by assumption) (by first | exact old_false | assumption) (by omega)) rfl ?_
    | refine Y_res (r_cutL rfl rfl (by omega)) rfl ?_
    | refine Y_res (r_cutH rfl rfl (by omega)) rfl ?_
    | refine Y_res (r_cutLH rfl rfl rfl (by omega) (by omega)) rfl ?_
    | refine Y_res (r_cutA rfl rfl (by omega)) rfl ?_
    | refine Y_res (r_cutAll rfl) rfl ?_
    | refine Y_res (r_cutAH rfl rfl (by omega)) rfl ?_
    | refine Y_res (r_buildI (by rfl) (by rfl)) rfl ?_
    | refine Y_res (r_indexV rfl rfl (by omega) (by rfl)) rfl ?_
    | refine Y_res (r_extract rfl rfl) rfl ?_
    | refine Y_res (r_pickT rfl rfl) rfl ?_
    | refine Y_res (r_pickF rfl rfl) rfl ?_
    | refine X_storeI rfl rfl (by first | omega | (simp only [List.length_set, List.length_replicate]; omega)) ?_
    | refine X_storeB rfl rfl rfl (by decide) ?_
    | (refine X_allocI rfl ?_; intro _ _)
    | (refine X_buildS (by rfl) (by rfl) (by simp) rfl ?_; intro _ _)
    | refine X_storeWI rfl rfl (by rfl) (by rfl) ?_
    | refine Y_res (r_loadWI rfl (by rfl)) rfl ?_
    | (refine X_make rfl rfl (by omega) (by omega) (by omega) rfl ?_; intro _ _)
    | refine Y_res (r_loadWH rfl (by rfl)) rfl ?_
    | refine Y_res (r_loadW rfl (by rfl)) rfl ?_
    | (refine X_append rfl rfl (fun w_ h_ => rds_ints (Hp.head h_) (by simp) (by decide)) (by rfl) (by rfl) (by rfl) (by first | omega | (simp only [List.length_cons, List.length_nil]; omega)) (by first | omega | (simp only [List.length_cons, List.length_nil]; omega)) rfl ?_; intro _ _)
  refine X_call rfl rfl (fun w1 h1 => (new_any KS w1).mono ?_)
  rintro e w2 ⟨g, rfl, hg, hT, hc⟩
  refine ⟨_, rfl, _, h1.add (d := HAt KS g []) hc hT (fun k hk => by rw [show k = g from hk]; exact hg), ?_⟩
  have hgw : w.heap.size ≤ g := Nat.le_trans h1.chg.size hg
  clear h1 hT hc hg
  repeat first
    | refine XC_region ?_
    | refine XC_quietF rfl (by kernel_rfl) (by kernel_rfl) drw_hp ?_
    | refine XC_tailF (by kernel_rfl) (by kernel_rfl) drw_hp ?_
    | refine X_nil ?_
    | refine XQ_nil ?_
    | refine XQ_nilX ?_
    | refine XC_condT rfl ?_
    | refine XC_condF rfl ?_
    | refine XC_seq ?_
    | refine XT_seq ?_
    | refine XC_block ?_
    | refine XT_block_normal ?_
    | refine XT_block_ret ?_
    | refine XT_block_same rfl ?_
    | refine XT_block_other rfl ?_
    | refine XT_then_exit ?_
    | refine XT_then_ret ?_
    | refine XC_skip ?_
    | refine XC_exit ?_
    | refine XC_ret ?_
    | refine Y_res (r_move rfl) rfl ?_
    | refine Y_res (r_assign rfl) rfl ?_
    | refine Y_res (r_add64 rfl rfl (by omega)) rfl ?_
    | refine Y_res (r_add8 rfl rfl) rfl ?_
    | refine Y_res (r_add32 rfl rfl) rfl ?_
    | refine Y_res (r_addu rfl rfl) rfl ?_
    | refine Y_res (r_sub64 rfl rfl (by omega)) rfl ?_
    | refine Y_res (r_sub8 rfl rfl) rfl ?_
    | refine Y_res (r_sub32 rfl rfl) rfl ?_
    | refine Y_res (r_subu rfl rfl) rfl ?_
    | refine Y_res (r_mul64 rfl rfl (by omega)) rfl ?_
    | refine Y_res (r_mul8 rfl rfl) rfl ?_
    | refine Y_res (r_mul32 rfl rfl) rfl ?_
    | refine Y_res (r_mulu rfl rfl) rfl ?_
    | refine Y_res (r_rem rfl rfl (by omega)) rfl ?_
    | refine Y_res (r_quo rfl rfl (by omega)) rfl ?_
    | refine Y_res (r_and rfl rfl) rfl ?_
    | refine Y_res (r_or rfl rfl) rfl ?_
    | refine Y_res (r_xor rfl rfl) rfl ?_
    | refine Y_res (r_andNot rfl rfl) rfl ?_
    | refine Y_res (r_not rfl) rfl ?_
    | refine Y_res (r_shl32 rfl rfl rfl) rfl ?_
    | refine Y_res (r_shlu rfl rfl rfl) rfl ?_
    | refine Y_res (r_shl64 rfl rfl rfl (by omega)) rfl ?_
    | refine Y_res (r_shr rfl rfl rfl) rfl ?_
    | refine Y_res (r_shl rfl rfl rfl) rfl ?_
    | refine Y_res (r_lss rfl rfl) rfl ?_
    | refine Y_res (r_leq rfl rfl) rfl ?_
    | refine Y_res (r_gtr rfl rfl) rfl ?_
    | refine Y_res (r_geq rfl rfl) rfl ?_
    | refine Y_res (r_eql rfl rfl) rfl ?_
    | refine Y_res (r_neq rfl rfl) rfl ?_
    | refine Y_res (r_eqlNil rfl rfl) rfl ?_
    | refine Y_res (r_neqNil rfl rfl) rfl ?_
    | refine Y_res (r_eqlNil2 rfl rfl) rfl ?_
    | refine Y_res (r_neqNil2 rfl rfl) rfl ?_
    | refine Y_res (r_eqlB rfl rfl) rfl ?_
    | refine Y_res (r_neqB rfl rfl) rfl ?_
    | refine X_mark rfl rfl ?_
    | refine Y_on rfl rfl ?_
    | refine Y_off rfl rfl rfl ?_
    | refine Y_res (r_notB rfl) rfl ?_
    | refine Y_res (r_neg64 rfl (by omega)) rfl ?_
    | refine Y_res (r_conv8 rfl) rfl ?_
    | refine Y_res (r_conv32 rfl) rfl ?_
    | refine Y_res (r_convuN rfl (by omega)) rfl ?_
    | refine Y_res (r_convu rfl) rfl ?_
    | refine Y_res (r_conv64 rfl (by omega)) rfl ?_
    | refine Y_res (r_conv rfl) rfl ?_
    | refine Y_res (r_len rfl) rfl ?_
    | refine Y_res (r_indexA0 rfl rfl (by omega)) rfl ?_
    | refine Y_res (r_indexA1 rfl rfl (by omega)) rfl ?_
    | refine Y_res (r_indexA rfl rfl (by omega)) rfl ?_
    | refine Y_res (r_indexS rfl rfl (by omega) (by omega)) rfl ?_
    | refine Y_res (r_indexR rfl rfl (by assumption) (by omega) (by omega)) rfl ?_
    | refine Y_res (r_indexA0T rfl rfl (by omega) (by omega)) rfl ?_
    | refine Y_res (r_indexA1T rfl rfl (by omega) (by omega)) rfl ?_
    | refine Y_res (r_indexST rfl rfl (by omega) (by omega) (by omega)) rfl ?_
    | refine Y_res (r_indexRT rfl rfl (by assumption) (by omega) (by omega) (by omega)) rfl ?_
    | refine Y_res (r_field' rfl) rfl ?_
    | refine Y_res (r_field rfl) rfl ?_
    | refine Y_res (r_nilCheck rfl) rfl ?_
    | refine Y_resN (r_nilCheck rfl) ?_
    | refine Y_res (r_loadI rfl (by first | omega | (simp only [List.length_set, List.length_replicate]; omega))) rfl ?_
    | refine Y_res (r_loadB rfl rfl) rfl ?_
    | refine Y_res (r_loadR rfl (by assumption) (by first | exact old_false | assumption) (by omega)) rfl ?_
    | refine Y_res (r_cutL rfl rfl (by omega)) rfl ?_
    | refine Y_res (r_cutH rfl rfl (by omega)) rfl ?_
    | refine Y_res (r_cutLH rfl rfl rfl (by omega) (by omega)) rfl ?_
    | refine Y_res (r_cutA rfl rfl (by omega)) rfl ?_
    | refine Y_res (r_cutAll rfl) rfl ?_
    | refine Y_res (r_cutAH rfl rfl (by omega)) rfl ?_
    | refine Y_res (r_buildI (by rfl) (by rfl)) rfl ?_
    | refine Y_res (r_indexV rfl rfl (by omega) (by rfl)) rfl ?_
    | refine Y_res (r_extract rfl rfl) rfl ?_
    | refine Y_res (r_pickT rfl rfl) rfl ?_
    | refine Y_res (r_pickF rfl rfl) rfl ?_
    | refine X_storeI rfl rfl (by first | omega | (simp only [List.length_set, List.length_replicate]; omega)) ?_
    | refine X_storeB rfl rfl rfl (by decide) ?_
    | (refine X_allocI rfl ?_; intro _ _)
    | (refine X_buildS (by rfl) (by rfl) (by simp) rfl ?_; intro _ _)
    | refine X_storeWI rfl rfl (by rfl) (by rfl) ?_
    | refine Y_res (r_loadWI rfl (by rfl)) rfl ?_
    | (refine X_make rfl rfl (by omega) (by omega) (by omega) rfl ?_; intro _ _)
    | refine Y_res (r_loadWH rfl (by rfl)) rfl ?_
    | refine Y_res (r_loadW rfl (by rfl)) rfl ?_
    | (refine X_append rfl rfl (fun w_ h_ => rds_ints (Hp.head h_) (by simp) (by decide)) (by rfl) (by rfl) (by rfl) (by first | omega | (simp only [List.length_cons, List.length_nil]; omega)) (by first | omega | (simp only [List.length_cons, List.length_nil]; omega)) rfl ?_; intro _ _)
  refine XC_loop (ι := Option Addr × Nat × Nat) (fun i => i.2.2 ≤ n) (fun i => [(0, .int .u8 b), (1, .int .i64 n), (5, .pointer (some ⟨g, 0, none⟩)), (6, .slice i.1 (List.replicate i.2.2 b).length i.2.1), (7, .int .i64 i.2.2)])
    (fun i => Hp w (fun _ => False) [HAt KS g (List.replicate i.2.2 b), Ch.sl i.1 i.2.1 5 .u8 (List.replicate i.2.2 b)]) (fun i => n - i.2.2) (none, 0, 0) (by dsimp only; omega) ⟨rfl, rfl, rfl, rfl, rfl, trivial⟩ (fun w3 h3 => (Hp.nilS (e := 5) (k := .u8) h3).swap) ?_
  rintro ⟨A, cap, i⟩ hi
  dsimp only at hi ⊢
  have hrl : (List.replicate i b).length = i := List.length_replicate
  have hsn : List.replicate (i + 1) b = List.replicate i b ++ [b] := List.replicate_succ'
  repeat first
    | refine XC_region ?_
    | refine XC_quietF rfl (by kernel_rfl) (by kernel_rfl) drw_hp ?_
    | refine XC_tailF (by kernel_rfl) (by kernel_rfl) drw_hp ?_
    | refine X_nil ?_
    | refine XQ_nil ?_
    | refine XQ_nilX ?_
    | refine XC_condT rfl ?_
    | refine XC_condF rfl ?_
    | refine XC_seq ?_
    | refine XT_seq ?_
    | refine XC_block ?_
    | refine XT_block_normal ?_
    | refine XT_block_ret ?_
    | refine XT_block_same rfl ?_
    | refine XT_block_other rfl ?_
    | refine XT_then_exit ?_
    | refine XT_then_ret ?_
    | refine XC_skip ?_
    | refine XC_exit ?_
    | refine XC_ret ?_
    | refine Y_res (r_move rfl) rfl ?_
    | refine Y_res (r_assign rfl) rfl ?_
    | refine Y_res (r_add64 rfl rfl (by omega)) rfl ?_
    | refine Y_res (r_add8 rfl rfl) rfl ?_
    | refine Y_res (r_add32 rfl rfl) rfl ?_
    | refine Y_res (r_addu rfl rfl) rfl ?_
    | refine Y_res (r_sub64 rfl rfl (by omega)) rfl ?_
    | refine Y_res (r_sub8 rfl rfl) rfl ?_
    | refine Y_res (r_sub32 rfl rfl) rfl ?_
    | refine Y_res (r_subu rfl rfl) rfl ?_
    | refine Y_res (r_mul64 rfl rfl (by omega)) rfl ?_
    | refine Y_res (r_mul8 rfl rfl) rfl ?_
    | refine Y_res (r_mul32 rfl rfl) rfl ?_
    | refine Y_res (r_mulu rfl rfl) rfl ?_
    | refine Y_res (r_rem rfl rfl (by omega)) rfl ?_
    | refine Y_res (r_quo rfl rfl (by omega)) rfl ?_
    | refine Y_res (r_and rfl rfl) rfl ?_
    | refine Y_res (r_or rfl rfl) rfl ?_
    | refine Y_res (r_xor rfl rfl) rfl ?_
    | refine Y_res (r_andNot rfl rfl) rfl ?_
    | refine Y_res (r_not rfl) rfl ?_
    | refine Y_res (r_shl32 rfl rfl rfl) rfl ?_
    | refine Y_res (r_shlu rfl rfl rfl) rfl ?_
    | refine Y_res (r_shl64 rfl rfl rfl (by omega)) rfl ?_
    | refine Y_res (r_shr rfl rfl rfl) rfl ?_
    | refine Y_res (r_shl rfl rfl rfl) rfl ?_
    | refine Y_res (r_lss rfl rfl) rfl ?_
    | refine Y_res (r_leq rfl rfl) rfl ?_
    | refine Y_res (r_gtr rfl rfl) rfl ?_
    | refine Y_res (r_geq rfl rfl) rfl ?_
    | refine Y_res (r_eql rfl rfl) rfl ?_
    | refine Y_res (r_neq rfl rfl) rfl ?_
    | refine Y_res (r_eqlNil rfl rfl) rfl ?_
    | refine Y_res (r_neqNil rfl rfl) rfl ?_
    | refine Y_res (r_eqlNil2 rfl rfl) rfl ?_
    | refine Y_res (r_neqNil2 rfl rfl) rfl ?_
    | refine Y_res (r_eqlB rfl rfl) rfl ?_
    | refine Y_res (r_neqB rfl rfl) rfl ?_
    | refine X_mark rfl rfl ?_
    | refine Y_on rfl rfl ?_
    | refine Y_off rfl rfl rfl ?_
    | refine Y_res (r_notB rfl) rfl ?_
    | refine Y_res (r_neg64 rfl (by omega)) rfl ?_
    | refine Y_res (r_conv8 rfl) rfl ?_
    | refine Y_res (r_conv32 rfl) rfl ?_
    | refine Y_res (r_convuN rfl (by omega)) rfl ?_
    | refine Y_res (r_convu rfl) rfl ?_
    | refine Y_res (r_conv64 rfl (by omega)) rfl ?_
    | refine Y_res (r_conv rfl) rfl ?_
    | refine Y_res (r_len rfl) rfl ?_
    | refine Y_res (r_indexA0 rfl rfl (by omega)) rfl ?_
    | refine Y_res (r_indexA1 rfl rfl (by omega)) rfl ?_
    | refine Y_res (r_indexA rfl rfl (by omega)) rfl ?_
    | refine Y_res (r_indexS rfl rfl (by omega) (by omega)) rfl ?_
    | refine Y_res (r_indexR rfl rfl (by assumption) (by omega) (by omega)) rfl ?_
    | refine Y_res (r_indexA0T rfl rfl (by omega) (by omega)) rfl ?_
    | refine Y_res (r_indexA1T rfl rfl (by omega) (by omega)) rfl ?_
    | refine Y_res (r_indexST rfl rfl (by omega) (by omega) (by omega)) rfl ?_
    | refine Y_res (r_indexRT rfl rfl (by assumption) (by omega) (by omega) (by omega)) rfl ?_
    | refine Y_res (r_field' rfl) rfl ?_
    | refine Y_res (r_field rfl) rfl ?_
    | refine Y_res (r_nilCheck rfl) rfl ?_
    | refine Y_resN (r_nilCheck rfl) ?_
    | refine Y_res (r_loadI rfl (by first | omega | (simp only [List.length_set, List.length_replicate]; omega))) rfl ?_
    | refine Y_res (r_loadB rfl rfl) rfl ?_
    | refine Y_res (r_loadR rfl (by assumption) (by first | exact old_false | assumption) (by omega)) rfl ?_
    | refine Y_res (r_cutL rfl rfl (by omega)) rfl ?_
    | refine Y_res (r_cutH rfl rfl (by omega)) rfl ?_
    | refine Y_res (r_cutLH rfl rfl rfl (by omega) (by omega)) rfl ?_
    | refine Y_res (r_cutA rfl rfl (by omega)) rfl ?_
    | refine Y_res (r_cutAll rfl) rfl ?_
    | refine Y_res (r_cutAH rfl rfl (by omega)) rfl ?_
    | refine Y_res (r_buildI (by rfl) (by rfl)) rfl ?_
    | refine Y_res (r_indexV rfl rfl (by omega) (by rfl)) rfl ?_
    | refine Y_res (r_extract rfl rfl) rfl ?_
    | refine Y_res (r_pickT rfl rfl) rfl ?_
    | refine Y_res (r_pickF rfl rfl) rfl ?_
    | refine X_storeI rfl rfl (by first | omega | (simp only [List.length_set, List.length_replicate]; omega)) ?_
    | refine X_storeB rfl rfl rfl (by decide) ?_
    | (refine X_allocI rfl ?_; intro _ _)
    | (refine X_buildS (by rfl) (by rfl) (by simp) rfl ?_; intro _ _)
    | refine X_storeWI rfl rfl (by rfl) (by rfl) ?_
    | refine Y_res (r_loadWI rfl (by rfl)) rfl ?_
    | (refine X_make rfl rfl (by omega) (by omega) (by omega) rfl ?_; intro _ _)
    | refine Y_res (r_loadWH rfl (by rfl)) rfl ?_
    | refine Y_res (r_loadW rfl (by rfl)) rfl ?_
    | (refine X_append rfl rfl (fun w_ h_ => rds_ints (Hp.head h_) (by simp) (by decide)) (by rfl) (by rfl) (by rfl) (by first | omega | (simp only [List.length_cons, List.length_nil]; omega)) (by first | omega | (simp only [List.length_cons, List.length_nil]; omega)) rfl ?_; intro _ _)
  refine XC_condP rfl (fun hlt => ?_) (fun hge => ?_)
  · repeat first
      | refine XC_region ?_
      | refine XC_quietF rfl (by kernel_rfl) (by kernel_rfl) drw_hp ?_
      | refine XC_tailF (by kernel_rfl) (by kernel_rfl) drw_hp ?_
      | refine X_nil ?_
      | refine XQ_nil ?_
      | refine XQ_nilX ?_
      | refine XC_condT rfl ?_
      | refine XC_condF rfl ?_
      | refine XC_seq ?_
      | refine XT_seq ?_
      | refine XC_block ?_
      | refine XT_block_normal ?_
      | refine XT_block_ret ?_
      | refine XT_block_same rfl ?_
      | refine XT_block_other rfl ?_
      | refine XT_then_exit ?_
      | refine XT_then_ret ?_
      | refine XC_skip ?_
      | refine XC_exit ?_
      | refine XC_ret ?_
      | refine Y_res (r_move rfl) rfl ?_
      | refine Y_res (r_assign rfl) rfl ?_
      | refine Y_res (r_add64 rfl rfl (by omega)) rfl ?_
      | refine Y_res (r_add8 rfl rfl) rfl ?_
      | refine Y_res (r_add32 rfl rfl) rfl ?_
      | refine Y_res (r_addu rfl rfl) rfl ?_
      | refine Y_res (r_sub64 rfl rfl (by omega)) rfl ?_
      | refine Y_res (r_sub8 rfl rfl) rfl ?_
      | refine Y_res (r_sub32 rfl rfl) rfl ?_
      | refine Y_res (r_subu rfl rfl) rfl ?_
      | refine Y_res (r_mul64 rfl rfl (by omega)) rfl ?_
      | refine Y_res (r_mul8 rfl rfl) rfl ?_
      | refine Y_res (r_mul32 rfl rfl) rfl ?_
      | refine Y_res (r_mulu rfl rfl) rfl ?_
      | refine Y_res (r_rem rfl rfl (by omega)) rfl ?_
      | refine Y_res (r_quo rfl rfl (by omega)) rfl ?_
      | refine Y_res (r_and rfl rfl) rfl ?_
      | refine Y_res (r_or rfl rfl) rfl ?_
      | refine Y_res (r_xor rfl rfl) rfl ?_
      | refine Y_res (r_andNot rfl rfl) rfl ?_
      | refine Y_res (r_not rfl) rfl ?_
      | refine Y_res (r_shl32 rfl rfl rfl) rfl ?_
      | refine Y_res (r_shlu rfl rfl rfl) rfl ?_
      | refine Y_res (r_shl64 rfl rfl rfl (by omega)) rfl ?_
      | refine Y_res (r_shr rfl rfl rfl) rfl ?_
      | refine Y_res (r_shl rfl rfl rfl) rfl ?_
      | refine Y_res (r_lss rfl rfl) rfl ?_
      | refine Y_res (r_leq rfl rfl) rfl ?_
      | refine Y_res (r_gtr rfl rfl) rfl ?_
      | refine Y_res (r_geq rfl rfl) rfl ?_
      | refine Y_res (r_eql rfl rfl) rfl ?_
      | refine Y_res (r_neq rfl rfl) rfl ?_
      | refine Y_res (r_eqlNil rfl rfl) rfl ?_
      | refine Y_res (r_neqNil rfl rfl) rfl ?_
      | refine Y_res (r_eqlNil2 rfl rfl) rfl ?_
      | refine Y_res (r_neqNil2 rfl rfl) rfl ?_
      | refine Y_res (r_eqlB rfl rfl) rfl ?_
      | refine Y_res (r_neqB rfl rfl) rfl ?_
      | refine X_mark rfl rfl ?_
      | refine Y_on rfl rfl ?_
      | refine Y_off rfl rfl rfl ?_
      | refine Y_res (r_notB rfl) rfl ?_
      | refine Y_res (r_neg64 rfl (by omega)) rfl ?_
      | refine Y_res (r_conv8 rfl) rfl ?_
      | refine Y_res (r_conv32 rfl) rfl ?_
      | refine Y_res (r_convuN rfl (by omega)) rfl ?_
      | refine Y_res (r_convu rfl) rfl ?_
      | refine Y_res (r_conv64 rfl (by omega)) rfl ?_
      | refine Y_res (r_conv rfl) rfl ?_
      | refine Y_res (r_len rfl) rfl ?_
      | refine Y_res (r_indexA0 rfl rfl (by omega)) rfl ?_
      | refine Y_res (r_indexA1 rfl rfl (by omega)) rfl ?_
      | refine Y_res (r_indexA rfl rfl (by omega)) rfl ?_
      | refine Y_res (r_indexS rfl rfl (by omega) (by omega)) rfl ?_
      | refine Y_res (r_indexR rfl rfl (by assumption) (by omega) (by omega)) rfl ?_
      | refine Y_res (r_indexA0T rfl rfl (by omega) (by omega)) rfl ?_
      | refine Y_res (r_indexA1T rfl rfl (by omega) (by omega)) rfl ?_
      | refine Y_res (r_indexST rfl rfl (by omega) (by omega) (by omega)) rfl ?_
      | refine Y_res (r_indexRT rfl rfl (by assumption) (by omega) (by omega) (by omega)) rfl ?_
      | refine Y_res (r_field' rfl) rfl ?_
      | refine Y_res (r_field rfl) rfl ?_
      | refine Y_res (r_nilCheck rfl) rfl ?_
      | refine Y_resN (r_nilCheck rfl) ?_
      | refine Y_res (r_loadI rfl (by first | omega | (simp only [List.length_set, List.length_replicate]; omega))) rfl ?_
      | refine Y_res (r_loadB rfl rfl) rfl ?_
      | refine Y_res (r_loadR rfl (by assumption) (by first | exact old_false | assumption) (by omega)) rfl ?_
      | refine Y_res (r_cutL rfl rfl (by omega)) rfl ?_
      | refine Y_res (r_cutH rfl rfl (by omega)) rfl ?_
      | refine Y_res (r_cutLH rfl rfl rfl (by omega) (by omega)) rfl ?_
      | refine Y_res (r_cutA rfl rfl (by omega)) rfl ?_
      | refine Y_res (r_cutAll rfl) rfl ?_
      | refine Y_res (r_cutAH rfl rfl (by omega)) rfl ?_
      | refine Y_res (r_buildI (by rfl) (by rfl)) rfl ?_
      | refine Y_res (r_indexV rfl rfl (by omega) (by rfl)) rfl ?_
      | refine Y_res (r_extract rfl rfl) rfl ?_
      | refine Y_res (r_pickT rfl rfl) rfl ?_
      | refine Y_res (r_pickF rfl rfl) rfl ?_
      | refine X_storeI rfl rfl (by first | omega | (simp only [List.length_set, List.length_replicate]; omega)) ?_
      | refine X_storeB rfl rfl rfl (by decide) ?_
      | (refine X_allocI rfl ?_; intro _ _)
      | (refine X_buildS (by rfl) (by rfl) (by simp) rfl ?_; intro _ _)
      | refine X_storeWI rfl rfl (by rfl) (by rfl) ?_
      | refine Y_res (r_loadWI rfl (by rfl)) rfl ?_
      | (refine X_make rfl rfl (by omega) (by omega) (by omega) rfl ?_; intro _ _)
      | refine Y_res (r_loadWH rfl (by rfl)) rfl ?_
      | refine Y_res (r_loadW rfl (by rfl)) rfl ?_
      | (refine X_append rfl rfl (fun w_ h_ => rds_ints (Hp.head h_) (by simp) (by decide)) (by rfl) (by rfl) (by rfl) (by first | omega | (simp only [List.length_cons, List.length_nil]; omega)) (by first | omega | (simp only [List.length_cons, List.length_nil]; omega)) rfl ?_; intro _ _)
    rename_i g2 hg2
    refine X_mem (M' := Hp w (fun _ => False) [HAt KS g (List.replicate i b), Ch.ints g2 .u8 [b] 5, Ch.sl A cap 5 .u8 (List.replicate i b)]) (fun _ h => h.swap) ?_
    refine X_call rfl rfl (fun w3 h3 => (write_any KS g (List.replicate i b) [b] (some ⟨g2, 0, none⟩) 1 w3 h3.head (rds_ints h3.tail.head (Nat.le_refl 1) (by decide)) (fun _ ad e => by cases e; exact fun e2 => (h3.ne rfl rfl) e2.symm) (by omega) (by simp only [List.length_cons, List.length_nil]; omega) (hK.keep h3.chg (fun h => h))).mono ?_)
    rintro e w4 ⟨rfl, hT4, hc4⟩
    rw [← hsn] at hT4
    refine ⟨_, rfl, _, h3.turn (d := HAt KS g (List.replicate (i + 1) b)) hc4 hT4 (fun k hk => .inl hk), ?_⟩
    clear hT4 hc4
    repeat first
      | refine XC_region ?_
      | refine XC_quietF rfl (by kernel_rfl) (by kernel_rfl) drw_hp ?_
      | refine XC_tailF (by kernel_rfl) (by kernel_rfl) drw_hp ?_
      | refine X_nil ?_
      | refine XQ_nil ?_
      | refine XQ_nilX ?_
      | refine XC_condT rfl ?_
      | refine XC_condF rfl ?_
      | refine XC_seq ?_
      | refine XT_seq ?_
      | refine XC_block ?_
      | refine XT_block_normal ?_
      | refine XT_block_ret ?_
      | refine XT_block_same rfl ?_
      | refine XT_block_other rfl ?_
      | refine XT_then_exit ?_
      | refine XT_then_ret ?_
      | refine XC_skip ?_
      | refine XC_exit ?_
      | refine XC_ret ?_
      | refine Y_res (r_move rfl) rfl ?_
      | refine Y_res (r_assign rfl) rfl ?_
      | refine Y_res (r_add64 rfl rfl (by omega)) rfl ?_
      | refine Y_res (r_add8 rfl rfl) rfl ?_
      | refine Y_res (r_add32 rfl rfl) rfl ?_
      | refine Y_res (r_addu rfl rfl) rfl ?_
      | refine Y_res (r_sub64 rfl rfl (by omega)) rfl ?_
      | refine Y_res (r_sub8 rfl rfl) rfl ?_
      | refine Y_res (r_sub32 rfl rfl) rfl ?_
      | refine Y_res (r_subu rfl rfl) rfl ?_
      | refine Y_res (r_mul64 rfl rfl (by omega)) rfl ?_
      | refine Y_res (r_mul8 rfl rfl) rfl ?_
      | refine Y_res (r_mul32 rfl rfl) rfl ?_
      | refine Y_res (r_mulu rfl rfl) rfl ?_
      | refine Y_res (r_rem rfl rfl (by omega)) rfl ?_
      | refine Y_res (r_quo rfl rfl (by omega)) rfl ?_
      | refine Y_res (r_and rfl rfl) rfl ?_
      | refine Y_res (r_or rfl rfl) rfl ?_
      | refine Y_res (r_xor rfl rfl) rfl ?_
      | refine Y_res (r_andNot rfl rfl) rfl ?_
      | refine Y_res (r_not rfl) rfl ?_
      | refine Y_res (r_shl32 rfl rfl rfl) rfl ?_
      | refine Y_res (r_shlu rfl rfl rfl) rfl ?_
      | refine Y_res (r_shl64 rfl rfl rfl (by omega)) rfl ?_
      | refine Y_res (r_shr rfl rfl rfl) rfl ?_
      | refine Y_res (r_shl rfl rfl rfl) rfl ?_
      | refine Y_res (r_lss rfl rfl) rfl ?_
      | refine Y_res (r_leq rfl rfl) rfl ?_
      | refine Y_res (r_gtr rfl rfl) rfl ?_
      | refine Y_res (r_geq rfl rfl) rfl ?_
      | refine Y_res (r_eql rfl rfl) rfl ?_
      | refine Y_res (r_neq rfl rfl) rfl ?_
      | refine Y_res (r_eqlNil rfl rfl) rfl ?_
      | refine Y_res (r_neqNil rfl rfl) rfl ?_
      | refine Y_res (r_eqlNil2 rfl rfl) rfl ?_
      | refine Y_res (r_neqNil2 rfl rfl) rfl ?_
      | refine Y_res (r_eqlB rfl rfl) rfl ?_
      | refine Y_res (r_neqB rfl rfl) rfl ?_
      | refine X_mark rfl rfl ?_
      | refine Y_on rfl rfl ?_
      | refine Y_off rfl rfl rfl ?_
      | refine Y_res (r_notB rfl) rfl ?_
      | refine Y_res (r_neg64 rfl (by omega)) rfl ?_
      | refine Y_res (r_conv8 rfl) rfl ?_
      | refine Y_res (r_conv32 rfl) rfl ?_
      | refine Y_res (r_convuN rfl (by omega)) rfl ?_
      | refine Y_res (r_convu rfl) rfl ?_
      | refine Y_res (r_conv64 rfl (by omega)) rfl ?_
      | refine Y_res (r_conv rfl) rfl ?_
      | refine Y_res (r_len rfl) rfl ?_
      | refine Y_res (r_indexA0 rfl rfl (by omega)) rfl ?_
      | refine Y_res (r_indexA1 rfl rfl (by omega)) rfl ?_
      | refine Y_res (r_indexA rfl rfl (by omega)) rfl ?_
      | refine Y_res (r_indexS rfl rfl (by omega) (by omega)) rfl ?_
      | refine Y_res (r_indexR rfl rfl (by assumption) (by omega) (by omega)) rfl ?_
      | refine Y_res (r_indexA0T rfl rfl (by omega) (by omega)) rfl ?_
      | refine Y_res (r_indexA1T rfl rfl (by omega) (by omega)) rfl ?_
      | refine Y_res (r_indexST rfl rfl (by omega) (by omega) (by omega)) rfl ?_
      | refine Y_res (r_indexRT rfl rfl (by assumption) (by omega) (by omega) (by omega)) rfl ?_
      | refine Y_res (r_field' rfl) rfl ?_
      | refine Y_res (r_field rfl) rfl ?_
      | refine Y_res (r_nilCheck rfl) rfl ?_
      | refine Y_resN (r_nilCheck rfl) ?_
      | refine Y_res (r_loadI rfl (by first | omega | (simp only [List.length_set, List.length_replicate]; omega))) rfl ?_
      | refine Y_res (r_loadB rfl rfl) rfl ?_
      | refine Y_res (r_loadR rfl (by assumption) (by first | exact old_false | assumption) (by omega)) rfl ?_
      | refine Y_res (r_cutL rfl rfl (by omega)) rfl ?_
      | refine Y_res (r_cutH rfl rfl (by omega)) rfl ?_
      | refine Y_res (r_cutLH rfl rfl rfl (by omega) (by omega)) rfl ?_
      | refine Y_res (r_cutA rfl rfl (by omega)) rfl ?_
      | refine Y_res (r_cutAll rfl) rfl ?_
      | refine Y_res (r_cutAH rfl rfl (by omega)) rfl ?_
      | refine Y_res (r_buildI (by rfl) (by rfl)) rfl ?_
      | refine Y_res (r_indexV rfl rfl (by omega) (by rfl)) rfl ?_
      | refine Y_res (r_extract rfl rfl) rfl ?_
      | refine Y_res (r_pickT rfl rfl) rfl ?_
      | refine Y_res (r_pickF rfl rfl) rfl ?_
      | refine X_storeI rfl rfl (by first | omega | (simp only [List.length_set, List.length_replicate]; omega)) ?_
      | refine X_storeB rfl rfl rfl (by decide) ?_
      | (refine X_allocI rfl ?_; intro _ _)
      | (refine X_buildS (by rfl) (by rfl) (by simp) rfl ?_; intro _ _)
      | refine X_storeWI rfl rfl (by rfl) (by rfl) ?_
      | refine Y_res (r_loadWI rfl (by rfl)) rfl ?_
      | (refine X_make rfl rfl (by omega) (by omega) (by omega) rfl ?_; intro _ _)
      | refine Y_res (r_loadWH rfl (by rfl)) rfl ?_
      | refine Y_res (r_loadW rfl (by rfl)) rfl ?_
      | (refine X_append rfl rfl (fun w_ h_ => rds_ints (Hp.head h_) (by simp) (by decide)) (by rfl) (by rfl) (by rfl) (by first | omega | (simp only [List.length_cons, List.length_nil]; omega)) (by first | omega | (simp only [List.length_cons, List.length_nil]; omega)) rfl ?_; intro _ _)
    refine XT_round (_, _, i + 1) (by dsimp only; omega) (by dsimp only; omega) ⟨rfl, rfl, rfl, by dsimp only; rw [hsn]; rfl, rfl, trivial⟩ (fun w5 h5 => ?_)
    dsimp only
    rw [hsn]
    rw [hsn] at h5
    exact h5.tail.swap.tail
  · obtain rfl : i = n := by omega
    obtain ⟨m, hm⟩ : ∃ m, m = List.replicate i b := ⟨_, rfl⟩
    rw [← hm] at hrl ⊢
    clear hsn hge hm
    obtain ⟨s1, hs1⟩ : ∃ s1, sumS KS m = s1 := ⟨_, rfl⟩
    repeat first
      | refine XC_region ?_
      | refine XC_quietF rfl (by kernel_rfl) (by kernel_rfl) drw_hp ?_
      | refine XC_tailF (by kernel_rfl) (by kernel_rfl) drw_hp ?_
      | refine X_nil ?_
      | refine XQ_nil ?_
      | refine XQ_nilX ?_
      | refine XC_condT rfl ?_
      | refine XC_condF rfl ?_
      | refine XC_seq ?_
      | refine XT_seq ?_
      | refine XC_block ?_
      | refine XT_block_normal ?_
      | refine XT_block_ret ?_
      | refine XT_block_same rfl ?_
      | refine XT_block_other rfl ?_
      | refine XT_then_exit ?_
      | refine XT_then_ret ?_
      | refine XC_skip ?_
      | refine XC_exit ?_
      | refine XC_ret ?_
      | refine Y_res (r_move rfl) rfl ?_
      | refine Y_res (r_assign rfl) rfl ?_
      | refine Y_res (r_add64 rfl rfl (by omega)) rfl ?_
      | refine Y_res (r_add8 rfl rfl) rfl ?_
      | refine Y_res (r_add32 rfl rfl) rfl ?_
      | refine Y_res (r_addu rfl rfl) rfl ?_
      | refine Y_res (r_sub64 rfl rfl (by omega)) rfl ?_
      | refine Y_res (r_sub8 rfl rfl) rfl ?_
      | refine Y_res (r_sub32 rfl rfl) rfl ?_
      | refine Y_res (r_subu rfl rfl) rfl ?_
      | refine Y_res (r_mul64 rfl rfl (by omega)) rfl ?_
      | refine Y_res (r_mul8 rfl rfl) rfl ?_
      | refine Y_res (r_mul32 rfl rfl) rfl ?_
      | refine Y_res (r_mulu rfl rfl) rfl ?_
      | refine Y_res (r_rem rfl rfl (by omega)) rfl ?_
      | refine Y_res (r_quo rfl rfl (by omega)) rfl ?_
      | refine Y_res (r_and rfl rfl) rfl ?_
      | refine Y_res (r_or rfl rfl) rfl ?_
      | refine Y_res (r_xor rfl rfl) rfl ?_
      | refine Y_res (r_andNot rfl rfl) rfl ?_
      | refine Y_res (r_not rfl) rfl ?_
      | refine Y_res (r_shl32 rfl rfl rfl) rfl ?_
      | refine Y_res (r_shlu rfl rfl rfl) rfl ?_
      | refine Y_res (r_shl64 rfl rfl rfl (by omega)) rfl ?_
      | refine Y_res (r_shr rfl rfl rfl) rfl ?_
      | refine Y_res (r_shl rfl rfl rfl) rfl ?_
      | refine Y_res (r_lss rfl rfl) rfl ?_
      | refine Y_res (r_leq rfl rfl) rfl ?_
      | refine Y_res (r_gtr rfl rfl) rfl ?_
      | refine Y_res (r_geq rfl rfl) rfl ?_
      | refine Y_res (r_eql rfl rfl) rfl ?_
      | refine Y_res (r_neq rfl rfl) rfl ?_
      | refine Y_res (r_eqlNil rfl rfl) rfl ?_
      | refine Y_res (r_neqNil rfl rfl) rfl ?_
      | refine Y_res (r_eqlNil2 rfl rfl) rfl ?_
      | refine Y_res (r_neqNil2 rfl rfl) rfl ?_
      | refine Y_res (r_eqlB rfl rfl) rfl ?_
      | refine Y_res (r_neqB rfl rfl) rfl ?_
      | refine X_mark rfl rfl ?_
      | refine Y_on rfl rfl ?_
      | refine Y_off rfl rfl rfl ?_
      | refine Y_res (r_notB rfl) rfl ?_
      | refine Y_res (r_neg64 rfl (by omega)) rfl ?_
      | refine Y_res (r_conv8 rfl) rfl ?_
      | refine Y_res (r_conv32 rfl) rfl ?_
      | refine Y_res (r_convuN rfl (by omega)) rfl ?_
      | refine Y_res (r_convu rfl) rfl ?_
      | refine Y_res (r_conv64 rfl (by omega)) rfl ?_
      | refine Y_res (r_conv rfl) rfl ?_
      | refine Y_res (r_len rfl) rfl ?_
      | refine Y_res (r_indexA0 rfl rfl (by omega)) rfl ?_
      | refine Y_res (r_indexA1 rfl rfl (by omega)) rfl ?_
      | refine Y_res (r_indexA rfl rfl (by omega)) rfl ?_
      | refine Y_res (r_indexS rfl rfl (by omega) (by omega)) rfl ?_
      | refine Y_res (r_indexR rfl rfl (by assumption) (by omega) (by omega)) rfl ?_
      | refine Y_res (r_indexA0T rfl rfl (by omega) (by omega)) rfl ?_
      | refine Y_res (r_indexA1T rfl rfl (by omega) (by omega)) rfl ?_
      | refine Y_res (r_indexST rfl rfl (by omega) (by omega) (by omega)) rfl ?_
      | refine Y_res (r_indexRT rfl rfl (by assumption) (by omega) (by omega) (by omega)) rfl ?_
      | refine Y_res (r_field' rfl) rfl ?_
      | refine Y_res (r_field rfl) rfl ?_
      | refine Y_res (r_nilCheck rfl) rfl ?_
      | refine Y_resN (r_nilCheck rfl) ?_
      | refine Y_res (r_loadI rfl (by first | omega | (simp only [List.length_set, List.length_replicate]; omega))) rfl ?_
      | refine Y_res (r_loadB rfl rfl) rfl ?_
      | refine Y_res (r_loadR rfl (by assumption) (by first | exact old_false | assumption) (by omega)) rfl ?_
      | refine Y_res (r_cutL rfl rfl (by omega)) rfl ?_
      | refine Y_res (r_cutH rfl rfl (by omega)) rfl ?_
      | refine Y_res (r_cutLH rfl rfl rfl (by omega) (by omega)) rfl ?_
      | refine Y_res (r_cutA rfl rfl (by omega)) rfl ?_
      | refine Y_res (r_cutAll rfl) rfl ?_
      | refine Y_res (r_cutAH rfl rfl (by omega)) rfl ?_
      | refine Y_res (r_buildI (by rfl) (by rfl)) rfl ?_
      | refine Y_res (r_indexV rfl rfl (by omega) (by rfl)) rfl ?_
      | refine Y_res (r_extract rfl rfl) rfl ?_
      | refine Y_res (r_pickT rfl rfl) rfl ?_
      | refine Y_res (r_pickF rfl rfl) rfl ?_
      | refine X_storeI rfl rfl (by first | omega | (simp only [List.length_set, List.length_replicate]; omega)) ?_
      | refine X_storeB rfl rfl rfl (by decide) ?_
      | (refine X_allocI rfl ?_; intro _ _)
      | (refine X_buildS (by rfl) (by rfl) (by simp) rfl ?_; intro _ _)
      | refine X_storeWI rfl rfl (by rfl) (by rfl) ?_
      | refine Y_res (r_loadWI rfl (by rfl)) rfl ?_
      | (refine X_make rfl rfl (by omega) (by omega) (by omega) rfl ?_; intro _ _)
      | refine Y_res (r_loadWH rfl (by rfl)) rfl ?_
      | refine Y_res (r_loadW rfl (by rfl)) rfl ?_
      | (refine X_append rfl rfl (fun w_ h_ => rds_ints (Hp.head h_) (by simp) (by decide)) (by rfl) (by rfl) (by rfl) (by first | omega | (simp only [List.length_cons, List.length_nil]; omega)) (by first | omega | (simp only [List.length_cons, List.length_nil]; omega)) rfl ?_; intro _ _)
    refine X_call rfl rfl (fun w5 h5 => (hsum_any KS g m w5 h5.head (by omega) (hK.keep h5.chg (fun h => h))).mono ?_)
    rw [hs1]
    rintro e w6 ⟨v, rfl, ⟨A6, cap6, rfl, hp6, hf6⟩, hc6⟩
    refine ⟨_, rfl, _, h5.add hc6 hp6 hf6, ?_⟩
    clear hp6 hf6 hc6
    repeat first
      | refine XC_region ?_
      | refine XC_quietF rfl (by kernel_rfl) (by kernel_rfl) drw_hp ?_
      | refine XC_tailF (by kernel_rfl) (by kernel_rfl) drw_hp ?_
      | refine X_nil ?_
      | refine XQ_nil ?_
      | refine XQ_nilX ?_
      | refine XC_condT rfl ?_
      | refine XC_condF rfl ?_
      | refine XC_seq ?_
      | refine XT_seq ?_
      | refine XC_block ?_
      | refine XT_block_normal ?_
      | refine XT_block_ret ?_
      | refine XT_block_same rfl ?_
      | refine XT_block_other rfl ?_
      | refine XT_then_exit ?_
      | refine XT_then_ret ?_
      | refine XC_skip ?_
      | refine XC_exit ?_
      | refine XC_ret ?_
      | refine Y_res (r_move rfl) rfl ?_
      | refine Y_res (r_assign rfl) rfl ?_
      | refine Y_res (r_add64 rfl rfl (by omega)) rfl ?_
      | refine Y_res (r_add8 rfl rfl) rfl ?_
      | refine Y_res (r_add32 rfl rfl) rfl ?_
      | refine Y_res (r_addu rfl rfl) rfl ?_
      | refine Y_res (r_sub64 rfl rfl (by omega)) rfl ?_
      | refine Y_res (r_sub8 rfl rfl) rfl ?_
      | refine Y_res (r_sub32 rfl rfl) rfl ?_
      | refine Y_res (r_subu rfl rfl) rfl ?_
      | refine Y_res (r_mul64 rfl rfl (by omega)) rfl ?_
      | refine Y_res (r_mul8 rfl rfl) rfl ?_
      | refine Y_res (r_mul32 rfl rfl) rfl ?_
      | refine Y_res (r_mulu rfl rfl) rfl ?_
      | refine Y_res (r_rem rfl rfl (by omega)) rfl ?_
      | refine Y_res (r_quo rfl rfl (by omega)) rfl ?_
      | refine Y_res (r_and rfl rfl) rfl ?_
      | refine Y_res (r_or rfl rfl) rfl ?_
      | refine Y_res (r_xor rfl rfl) rfl ?_
      | refine Y_res (r_andNot rfl rfl) rfl ?_
      | refine Y_res (r_not rfl) rfl ?_
      | refine Y_res (r_shl32 rfl rfl rfl) rfl ?_
      | refine Y_res (r_shlu rfl rfl rfl) rfl ?_
      | refine Y_res (r_shl64 rfl rfl rfl (by omega)) rfl ?_
      | refine Y_res (r_shr rfl rfl rfl) rfl ?_
      | refine Y_res (r_shl rfl rfl rfl) rfl ?_
      | refine Y_res (r_lss rfl rfl) rfl ?_
      | refine Y_res (r_leq rfl rfl) rfl ?_
      | refine Y_res (r_gtr rfl rfl) rfl ?_
      | refine Y_res (r_geq rfl rfl) rfl ?_
      | refine Y_res (r_eql rfl rfl) rfl ?_
      | refine Y_res (r_neq rfl rfl) rfl ?_
      | refine Y_res (r_eqlNil rfl rfl) rfl ?_
      | refine Y_res (r_neqNil rfl rfl) rfl ?_
      | refine Y_res (r_eqlNil2 rfl rfl) rfl ?_
      | refine Y_res (r_neqNil2 rfl rfl) rfl ?_
      | refine Y_res (r_eqlB rfl rfl) rfl ?_
      | refine Y_res (r_neqB rfl rfl) rfl ?_
      | refine X_mark rfl rfl ?_
      | refine Y_on rfl rfl ?_
      | refine Y_off rfl rfl rfl ?_
      | refine Y_res (r_notB rfl) rfl ?_
      | refine Y_res (r_neg64 rfl (by omega)) rfl ?_
      | refine Y_res (r_conv8 rfl) rfl ?_
      | refine Y_res (r_conv32 rfl) rfl ?_
      | refine Y_res (r_convuN rfl (by omega)) rfl ?_
      | refine Y_res (r_convu rfl) rfl ?_
      | refine Y_res (r_conv64 rfl (by omega)) rfl ?_
      | refine Y_res (r_conv rfl) rfl ?_
      | refine Y_res (r_len rfl) rfl ?_
      | refine Y_res (r_indexA0 rfl rfl (by omega)) rfl ?_
      | refine Y_res (r_indexA1 rfl rfl (by omega)) rfl ?_
      | refine Y_res (r_indexA rfl rfl (by omega)) rfl ?_
      | refine Y_res (r_indexS rfl rfl (by omega) (by omega)) rfl ?_
      | refine Y_res (r_indexR rfl rfl (by assumption) (by omega) (by omega)) rfl ?_
      | refine Y_res (r_indexA0T rfl rfl (by omega) (by omega)) rfl ?_
      | refine Y_res (r_indexA1T rfl rfl (by omega) (by omega)) rfl ?_
      | refine Y_res (r_indexST rfl rfl (by omega) (by omega) (by omega)) rfl ?_
      | refine Y_res (r_indexRT rfl rfl (by assumption) (by omega) (by omega) (by omega)) rfl ?_
      | refine Y_res (r_field' rfl) rfl ?_
      | refine Y_res (r_field rfl) rfl ?_
      | refine Y_res (r_nilCheck rfl) rfl ?_
      | refine Y_resN (r_nilCheck rfl) ?_
      | refine Y_res (r_loadI rfl (by first | omega | (simp only [List.length_set, List.length_replicate]; omega))) rfl ?_
      | refine Y_res (r_loadB rfl rfl) rfl ?_
      | refine Y_res (r_loadR rfl (by assumption) (by first | exact old_false | assumption) (by omega)) rfl ?_
      | refine Y_res (r_cutL rfl rfl (by omega)) rfl ?_
      | refine Y_res (r_cutH rfl rfl (by omega)) rfl ?_
      | refine Y_res (r_cutLH rfl rfl rfl (by omega) (by omega)) rfl ?_
      | refine Y_res (r_cutA rfl rfl (by omega)) rfl ?_
      | refine Y_res (r_cutAll rfl) rfl ?_
      | refine Y_res (r_cutAH rfl rfl (by omega)) rfl ?_
      | refine Y_res (r_buildI (by rfl) (by rfl)) rfl ?_
      | refine Y_res (r_indexV rfl rfl (by omega) (by rfl)) rfl ?_
      | refine Y_res (r_extract rfl rfl) rfl ?_
      | refine Y_res (r_pickT rfl rfl) rfl ?_
      | refine Y_res (r_pickF rfl rfl) rfl ?_
      | refine X_storeI rfl rfl (by first | omega | (simp only [List.length_set, List.length_replicate]; omega)) ?_
      | refine X_storeB rfl rfl rfl (by decide) ?_
      | (refine X_allocI rfl ?_; intro _ _)
      | (refine X_buildS (by rfl) (by rfl) (by simp) rfl ?_; intro _ _)
      | refine X_storeWI rfl rfl (by rfl) (by rfl) ?_
      | refine Y_res (r_loadWI rfl (by rfl)) rfl ?_
      | (refine X_make rfl rfl (by omega) (by omega) (by omega) rfl ?_; intro _ _)
      | refine Y_res (r_loadWH rfl (by rfl)) rfl ?_
      | refine Y_res (r_loadW rfl (by rfl)) rfl ?_
      | (refine X_append rfl rfl (fun w_ h_ => rds_ints (Hp.head h_) (by simp) (by decide)) (by rfl) (by rfl) (by rfl) (by first | omega | (simp only [List.length_cons, List.length_nil]; omega)) (by first | omega | (simp only [List.length_cons, List.length_nil]; omega)) rfl ?_; intro _ _)
    refine X_call rfl rfl (fun w7 h7 => (refsum_any m A cap w7 (rds_sl h7.tail.tail.head) (by omega)).mono ?_)
    rw [hs1]
    rintro e w8 ⟨v, rfl, ⟨A8, cap8, rfl, hp8, hf8⟩, hc8⟩
    refine ⟨_, rfl, _, h7.add hc8 hp8 hf8, ?_⟩
    clear hp8 hf8 hc8
    repeat first
      | refine XC_region ?_
      | refine XC_quietF rfl (by kernel_rfl) (by kernel_rfl) drw_hp ?_
      | refine XC_tailF (by kernel_rfl) (by kernel_rfl) drw_hp ?_
      | refine X_nil ?_
      | refine XQ_nil ?_
      | refine XQ_nilX ?_
      | refine XC_condT rfl ?_
      | refine XC_condF rfl ?_
      | refine XC_seq ?_
      | refine XT_seq ?_
      | refine XC_block ?_
      | refine XT_block_normal ?_
      | refine XT_block_ret ?_
      | refine XT_block_same rfl ?_
      | refine XT_block_other rfl ?_
      | refine XT_then_exit ?_
      | refine XT_then_ret ?_
      | refine XC_skip ?_
      | refine XC_exit ?_
      | refine XC_ret ?_
      | refine Y_res (r_move rfl) rfl ?_
      | refine Y_res (r_assign rfl) rfl ?_
      | refine Y_res (r_add64 rfl rfl (by omega)) rfl ?_
      | refine Y_res (r_add8 rfl rfl) rfl ?_
      | refine Y_res (r_add32 rfl rfl) rfl ?_
      | refine Y_res (r_addu rfl rfl) rfl ?_
      | refine Y_res (r_sub64 rfl rfl (by omega)) rfl ?_
      | refine Y_res (r_sub8 rfl rfl) rfl ?_
      | refine Y_res (r_sub32 rfl rfl) rfl ?_
      | refine Y_res (r_subu rfl rfl) rfl ?_
      | refine Y_res (r_mul64 rfl rfl (by omega)) rfl ?_
      | refine Y_res (r_mul8 rfl rfl) rfl ?_
      | refine Y_res (r_mul32 rfl rfl) rfl ?_
      | refine Y_res (r_mulu rfl rfl) rfl ?_
      | refine Y_res (r_rem rfl rfl (by omega)) rfl ?_
      | refine Y_res (r_quo rfl rfl (by omega)) rfl ?_
      | refine Y_res (r_and rfl rfl) rfl ?_
      | refine Y_res (r_or rfl rfl) rfl ?_
      | refine Y_res (r_xor rfl rfl) rfl ?_
      | refine Y_res (r_andNot rfl rfl) rfl ?_
      | refine Y_res (r_not rfl) rfl ?_
      | refine Y_res (r_shl32 rfl rfl rfl) rfl ?_
      | refine Y_res (r_shlu rfl rfl rfl) rfl ?_
      | refine Y_res (r_shl64 rfl rfl rfl (by omega)) rfl ?_
      | refine Y_res (r_shr rfl rfl rfl) rfl ?_
      | refine Y_res (r_shl rfl rfl rfl) rfl ?_
      | refine Y_res (r_lss rfl rfl) rfl ?_
      | refine Y_res (r_leq rfl rfl) rfl ?_
      | refine Y_res (r_gtr rfl rfl) rfl ?_
      | refine Y_res (r_geq rfl rfl) rfl ?_
      | refine Y_res (r_eql rfl rfl) rfl ?_
      | refine Y_res (r_neq rfl rfl) rfl ?_
      | refine Y_res (r_eqlNil rfl rfl) rfl ?_
      | refine Y_res (r_neqNil rfl rfl) rfl ?_
      | refine Y_res (r_eqlNil2 rfl rfl) rfl ?_
      | refine Y_res (r_neqNil2 rfl rfl) rfl ?_
      | refine Y_res (r_eqlB rfl rfl) rfl ?_
      | refine Y_res (r_neqB rfl rfl) rfl ?_
      | refine X_mark rfl rfl ?_
      | refine Y_on rfl rfl ?_
      | refine Y_off rfl rfl rfl ?_
      | refine Y_res (r_notB rfl) rfl ?_
      | refine Y_res (r_neg64 rfl (by omega)) rfl ?_
      | refine Y_res (r_conv8 rfl) rfl ?_
      | refine Y_res (r_conv32 rfl) rfl ?_
      | refine Y_res (r_convuN rfl (by omega)) rfl ?_
      | refine Y_res (r_convu rfl) rfl ?_
      | refine Y_res (r_conv64 rfl (by omega)) rfl ?_
      | refine Y_res (r_conv rfl) rfl ?_
      | refine Y_res (r_len rfl) rfl ?_
      | refine Y_res (r_indexA0 rfl rfl (by omega)) rfl ?_
      | refine Y_res (r_indexA1 rfl rfl (by omega)) rfl ?_
      | refine Y_res (r_indexA rfl rfl (by omega)) rfl ?_
      | refine Y_res (r_indexS rfl rfl (by omega) (by omega)) rfl ?_
      | refine Y_res (r_indexR rfl rfl (by assumption) (by omega) (by omega)) rfl ?_
      | refine Y_res (r_indexA0T rfl rfl (by omega) (by omega)) rfl ?_
      | refine Y_res (r_indexA1T rfl rfl (by omega) (by omega)) rfl ?_
      | refine Y_res (r_indexST rfl rfl (by omega) (by omega) (by omega)) rfl ?_
      | refine Y_res (r_indexRT rfl rfl (by assumption) (by omega) (by omega) (by omega)) rfl ?_
      | refine Y_res (r_field' rfl) rfl ?_
      | refine Y_res (r_field rfl) rfl ?_
      | refine Y_res (r_nilCheck rfl) rfl ?_
      | refine Y_resN (r_nilCheck rfl) ?_
      | refine Y_res (r_loadI rfl (by first | omega | (simp only [List.length_set, List.length_replicate]; omega))) rfl ?_
      | refine Y_res (r_loadB rfl rfl) rfl ?_
      | refine Y_res (r_loadR rfl (by assumption) (by first | exact old_false | assumption) (by omega)) rfl ?_
      | refine Y_res (r_cutL rfl rfl (by omega)) rfl ?_
      | refine Y_res (r_cutH rfl rfl (by omega)) rfl ?_
      | refine Y_res (r_cutLH rfl rfl rfl (by omega) (by omega)) rfl ?_
      | refine Y_res (r_cutA rfl rfl (by omega)) rfl ?_
      | refine Y_res (r_cutAll rfl) rfl ?_
      | refine Y_res (r_cutAH rfl rfl (by omega)) rfl ?_
      | refine Y_res (r_buildI (by rfl) (by rfl)) rfl ?_
      | refine Y_res (r_indexV rfl rfl (by omega) (by rfl)) rfl ?_
      | refine Y_res (r_extract rfl rfl) rfl ?_
      | refine Y_res (r_pickT rfl rfl) rfl ?_
      | refine Y_res (r_pickF rfl rfl) rfl ?_
      | refine X_storeI rfl rfl (by first | omega | (simp only [List.length_set, List.length_replicate]; omega)) ?_
      | refine X_storeB rfl rfl rfl (by decide) ?_
      | (refine X_allocI rfl ?_; intro _ _)
      | (refine X_buildS (by rfl) (by rfl) (by simp) rfl ?_; intro _ _)
      | refine X_storeWI rfl rfl (by rfl) (by rfl) ?_
      | refine Y_res (r_loadWI rfl (by rfl)) rfl ?_
      | (refine X_make rfl rfl (by omega) (by omega) (by omega) rfl ?_; intro _ _)
      | refine Y_res (r_loadWH rfl (by rfl)) rfl ?_
      | refine Y_res (r_loadW rfl (by rfl)) rfl ?_
      | (refine X_append rfl rfl (fun w_ h_ => rds_ints (Hp.head h_) (by simp) (by decide)) (by rfl) (by rfl) (by rfl) (by first | omega | (simp only [List.length_cons, List.length_nil]; omega)) (by first | omega | (simp only [List.length_cons, List.length_nil]; omega)) rfl ?_; intro _ _)
      | refine Y_call (g := 11) rfl rfl (fun w1 hM => (same_any s1 s1 A6 A8 cap6 cap8 w1 (rds_sl hM.tail.head) (rds_sl hM.head)).mono fun e w2 h => ⟨h.1, hM.keep h.2⟩) ?_
    refine Y_splitT rfl rfl rfl ?_
    repeat first
      | refine XC_region ?_
      | refine XC_quietF rfl (by kernel_rfl) (by kernel_rfl) drw_hp ?_
      | refine XC_tailF (by kernel_rfl) (by kernel_rfl) drw_hp ?_
      | refine X_nil ?_
      | refine XQ_nil ?_
      | refine XQ_nilX ?_
      | refine XC_condT rfl ?_
      | refine XC_condF rfl ?_
      | refine XC_seq ?_
      | refine XT_seq ?_
      | refine XC_block ?_
      | refine XT_block_normal ?_
      | refine XT_block_ret ?_
      | refine XT_block_same rfl ?_
      | refine XT_block_other rfl ?_
      | refine XT_then_exit ?_
      | refine XT_then_ret ?_
      | refine XC_skip ?_
      | refine XC_exit ?_
      | refine XC_ret ?_
      | refine Y_res (r_move rfl) rfl ?_
      | refine Y_res (r_assign rfl) rfl ?_
      | refine Y_res (r_add64 rfl rfl (by omega)) rfl ?_
      | refine Y_res (r_add8 rfl rfl) rfl ?_
      | refine Y_res (r_add32 rfl rfl) rfl ?_
      | refine Y_res (r_addu rfl rfl) rfl ?_
      | refine Y_res (r_sub64 rfl rfl (by omega)) rfl ?_
      | refine Y_res (r_sub8 rfl rfl) rfl ?_
      | refine Y_res (r_sub32 rfl rfl) rfl ?_
      | refine Y_res (r_subu rfl rfl) rfl ?_
      | refine Y_res (r_mul64 rfl rfl (by omega)) rfl ?_
      | refine Y_res (r_mul8 rfl rfl) rfl ?_
      | refine Y_res (r_mul32 rfl rfl) rfl ?_
      | refine Y_res (r_mulu rfl rfl) rfl ?_
      | refine Y_res (r_rem rfl rfl (by omega)) rfl ?_
      | refine Y_res (r_quo rfl rfl (by omega)) rfl ?_
      | refine Y_res (r_and rfl rfl) rfl ?_
      | refine Y_res (r_or rfl rfl) rfl ?_
      | refine Y_res (r_xor rfl rfl) rfl ?_
      | refine Y_res (r_andNot rfl rfl) rfl ?_
      | refine Y_res (r_not rfl) rfl ?_
      | refine Y_res (r_shl32 rfl rfl rfl) rfl ?_
      | refine Y_res (r_shlu rfl rfl rfl) rfl ?_
      | refine Y_res (r_shl64 rfl rfl rfl (by omega)) rfl ?_
      | refine Y_res (r_shr rfl rfl rfl) rfl ?_
      | refine Y_res (r_shl rfl rfl rfl) rfl ?_
      | refine Y_res (r_lss rfl rfl) rfl ?_
      | refine Y_res (r_leq rfl rfl) rfl ?_
      | refine Y_res (r_gtr rfl rfl) rfl ?_
      | refine Y_res (r_geq rfl rfl) rfl ?_
      | refine Y_res (r_eql rfl rfl) rfl ?_
      | refine Y_res (r_neq rfl rfl) rfl ?_
      | refine Y_res (r_eqlNil rfl rfl) rfl ?_
      | refine Y_res (r_neqNil rfl rfl) rfl ?_
      | refine Y_res (r_eqlNil2 rfl rfl) rfl ?_
      | refine Y_res (r_neqNil2 rfl rfl) rfl ?_
      | refine Y_res (r_eqlB rfl rfl) rfl ?_
      | refine Y_res (r_neqB rfl rfl) rfl ?_
      | refine X_mark rfl rfl ?_
      | refine Y_on rfl rfl ?_
      | refine Y_off rfl rfl rfl ?_
      | refine Y_res (r_notB rfl) rfl ?_
      | refine Y_res (r_neg64 rfl (by omega)) rfl ?_
      | refine Y_res (r_conv8 rfl) rfl ?_
      | refine Y_res (r_conv32 rfl) rfl ?_
      | refine Y_res (r_convuN rfl (by omega)) rfl ?_
      | refine Y_res (r_convu rfl) rfl ?_
      | refine Y_res (r_conv64 rfl (by omega)) rfl ?_
      | refine Y_res (r_conv rfl) rfl ?_
      | refine Y_res (r_len rfl) rfl ?_
      | refine Y_res (r_indexA0 rfl rfl (by omega)) rfl ?_
      | refine Y_res (r_indexA1 rfl rfl (by omega)) rfl ?_
      | refine Y_res (r_indexA rfl rfl (by omega)) rfl ?_
      | refine Y_res (r_indexS rfl rfl (by omega) (by omega)) rfl ?_
      | refine Y_res (r_indexR rfl rfl (by assumption) (by omega) (by omega)) rfl ?_
      | refine Y_res (r_indexA0T rfl rfl (by omega) (by omega)) rfl ?_
      | refine Y_res (r_indexA1T rfl rfl (by omega) (by omega)) rfl ?_
      | refine Y_res (r_indexST rfl rfl (by omega) (by omega) (by omega)) rfl ?_
      | refine Y_res (r_indexRT rfl rfl (by assumption) (by omega) (by omega) (by omega)) rfl ?_
      | refine Y_res (r_field' rfl) rfl ?_
      | refine Y_res (r_field rfl) rfl ?_
      | refine Y_res (r_nilCheck rfl) rfl ?_
      | refine Y_resN (r_nilCheck rfl) ?_
      | refine Y_res (r_loadI rfl (by first | omega | (simp only [List.length_set, List.length_replicate]; omega))) rfl ?_
      | refine Y_res (r_loadB rfl rfl) rfl ?_
      | refine Y_res (r_loadR rfl (by assumption) (by first | exact old_false | assumption) (by omega)) rfl ?_
      | refine Y_res (r_cutL rfl rfl (by omega)) rfl ?_
      | refine Y_res (r_cutH rfl rfl (by omega)) rfl ?_
      | refine Y_res (r_cutLH rfl rfl rfl (by omega) (by omega)) rfl ?_
      | refine Y_res (r_cutA rfl rfl (by omega)) rfl ?_
      | refine Y_res (r_cutAll rfl) rfl ?_
      | refine Y_res (r_cutAH rfl rfl (by omega)) rfl ?_
      | refine Y_res (r_buildI (by rfl) (by rfl)) rfl ?_
      | refine Y_res (r_indexV rfl rfl (by omega) (by rfl)) rfl ?_
      | refine Y_res (r_extract rfl rfl) rfl ?_
      | refine Y_res (r_pickT rfl rfl) rfl ?_
      | refine Y_res (r_pickF rfl rfl) rfl ?_
      | refine X_storeI rfl rfl (by first | omega | (simp only [List.length_set, List.length_replicate]; omega)) ?_
      | refine X_storeB rfl rfl rfl (by decide) ?_
      | (refine X_allocI rfl ?_; intro _ _)
      | (refine X_buildS (by rfl) (by rfl) (by simp) rfl ?_; intro _ _)
      | refine X_storeWI rfl rfl (by rfl) (by rfl) ?_
      | refine Y_res (r_loadWI rfl (by rfl)) rfl ?_
      | (refine X_make rfl rfl (by omega) (by omega) (by omega) rfl ?_; intro _ _)
      | refine Y_res (r_loadWH rfl (by rfl)) rfl ?_
      | refine Y_res (r_loadW rfl (by rfl)) rfl ?_
      | (refine X_append rfl rfl (fun w_ h_ => rds_ints (Hp.head h_) (by simp) (by decide)) (by rfl) (by rfl) (by rfl) (by first | omega | (simp only [List.length_cons, List.length_nil]; omega)) (by first | omega | (simp only [List.length_cons, List.length_nil]; omega)) rfl ?_; intro _ _)
    refine X_call rfl rfl (fun w9 h9 => (sum_any KS m A cap w9 (rds_sl h9.tail.tail.tail.head) (by omega) (hK.keep h9.chg (fun h => h))).mono ?_)
    rw [hs1]
    rintro e w10 ⟨v, rfl, ⟨A10, cap10, rfl, hp10, hf10⟩, hc10⟩
    refine ⟨_, rfl, _, h9.add hc10 hp10 hf10, ?_⟩
    clear hp10 hf10 hc10
    repeat first
      | refine XC_region ?_
      | refine XC_quietF rfl (by kernel_rfl) (by kernel_rfl) drw_hp ?_
      | refine XC_tailF (by kernel_rfl) (by kernel_rfl) drw_hp ?_
      | refine X_nil ?_
      | refine XQ_nil ?_
      | refine XQ_nilX ?_
      | refine XC_condT rfl ?_
      | refine XC_condF rfl ?_
      | refine XC_seq ?_
      | refine XT_seq ?_
      | refine XC_block ?_
      | refine XT_block_normal ?_
      | refine XT_block_ret ?_
      | refine XT_block_same rfl ?_
      | refine XT_block_other rfl ?_
      | refine XT_then_exit ?_
      | refine XT_then_ret ?_
      | refine XC_skip ?_
      | refine XC_exit ?_
      | refine XC_ret ?_
      | refine Y_res (r_move rfl) rfl ?_
      | refine Y_res (r_assign rfl) rfl ?_
      | refine Y_res (r_add64 rfl rfl (by omega)) rfl ?_
      | refine Y_res (r_add8 rfl rfl) rfl ?_
      | refine Y_res (r_add32 rfl rfl) rfl ?_
      | refine Y_res (r_addu rfl rfl) rfl ?_
      | refine Y_res (r_sub64 rfl rfl (by omega)) rfl ?_
      | refine Y_res (r_sub8 rfl rfl) rfl ?_
      | refine Y_res (r_sub32 rfl rfl) rfl ?_
      | refine Y_res (r_subu rfl rfl) rfl ?_
      | refine Y_res (r_mul64 rfl rfl (by omega)) rfl ?_
      | refine Y_res (r_mul8 rfl rfl) rfl ?_
      | refine Y_res (r_mul32 rfl rfl) rfl ?_
      | refine Y_res (r_mulu rfl rfl) rfl ?_
      | refine Y_res (r_rem rfl rfl (by omega)) rfl ?_
      | refine Y_res (r_quo rfl rfl (by omega)) rfl ?_
      | refine Y_res (r_and rfl rfl) rfl ?_
      | refine Y_res (r_or rfl rfl) rfl ?_
      | refine Y_res (r_xor rfl rfl) rfl ?_
      | refine Y_res (r_andNot rfl rfl) rfl ?_
      | refine Y_res (r_not rfl) rfl ?_
      | refine Y_res (r_shl32 rfl rfl rfl) rfl ?_
      | refine Y_res (r_shlu rfl rfl rfl) rfl ?_
      | refine Y_res (r_shl64 rfl rfl rfl (by omega)) rfl ?_
      | refine Y_res (r_shr rfl rfl rfl) rfl ?_
      | refine Y_res (r_shl rfl rfl rfl) rfl ?_
      | refine Y_res (r_lss rfl rfl) rfl ?_
      | refine Y_res (r_leq rfl rfl) rfl ?_
      | refine Y_res (r_gtr rfl rfl) rfl ?_
      | refine Y_res (r_geq rfl rfl) rfl ?_
      | refine Y_res (r_eql rfl rfl) rfl ?_
      | refine Y_res (r_neq rfl rfl) rfl ?_
      | refine Y_res (r_eqlNil rfl rfl) rfl ?_
      | refine Y_res (r_neqNil rfl rfl) rfl ?_
      | refine Y_res (r_eqlNil2 rfl rfl) rfl ?_
      | refine Y_res (r_neqNil2 rfl rfl) rfl ?_
      | refine Y_res (r_eqlB rfl rfl) rfl ?_
      | refine Y_res (r_neqB rfl rfl) rfl ?_
      | refine X_mark rfl rfl ?_
      | refine Y_on rfl rfl ?_
      | refine Y_off rfl rfl rfl ?_
      | refine Y_res (r_notB rfl) rfl ?_
      | refine Y_res (r_neg64 rfl (by omega)) rfl ?_
      | refine Y_res (r_conv8 rfl) rfl ?_
      | refine Y_res (r_conv32 rfl) rfl ?_
      | refine Y_res (r_convuN rfl (by omega)) rfl ?_
      | refine Y_res (r_convu rfl) rfl ?_
      | refine Y_res (r_conv64 rfl (by omega)) rfl ?_
      | refine Y_res (r_conv rfl) rfl ?_
      | refine Y_res (r_len rfl) rfl ?_
      | refine Y_res (r_indexA0 rfl rfl (by omega)) rfl ?_
      | refine Y_res (r_indexA1 rfl rfl (by omega)) rfl ?_
      | refine Y_res (r_indexA rfl rfl (by omega)) rfl ?_
      | refine Y_res (r_indexS rfl rfl (by omega) (by omega)) rfl ?_
      | refine Y_res (r_indexR rfl rfl (by assumption) (by omega) (by omega)) rfl ?_
      | refine Y_res (r_indexA0T rfl rfl (by omega) (by omega)) rfl ?_
      | refine Y_res (r_indexA1T rfl rfl (by omega) (by omega)) rfl ?_
      | refine Y_res (r_indexST rfl rfl (by omega) (by omega) (by omega)) rfl ?_
      | refine Y_res (r_indexRT rfl rfl (by assumption) (by omega) (by omega) (by omega)) rfl ?_
      | refine Y_res (r_field' rfl) rfl ?_
      | refine Y_res (r_field rfl) rfl ?_
      | refine Y_res (r_nilCheck rfl) rfl ?_
      | refine Y_resN (r_nilCheck rfl) ?_
      | refine Y_res (r_loadI rfl (by first | omega | (simp only [List.length_set, List.length_replicate]; omega))) rfl ?_
      | refine Y_res (r_loadB rfl rfl) rfl ?_
      | refine Y_res (r_loadR rfl (by assumption) (by first | exact old_false | assumption) (by omega)) rfl ?_
      | refine Y_res (r_cutL rfl rfl (by omega)) rfl ?_
      | refine Y_res (r_cutH rfl rfl (by omega)) rfl ?_
      | refine Y_res (r_cutLH rfl rfl rfl (by omega) (by omega)) rfl ?_
      | refine Y_res (r_cutA rfl rfl (by omega)) rfl ?_
      | refine Y_res (r_cutAll rfl) rfl ?_
      | refine Y_res (r_cutAH rfl rfl (by omega)) rfl ?_
      | refine Y_res (r_buildI (by rfl) (by rfl)) rfl ?_
      | refine Y_res (r_indexV rfl rfl (by omega) (by rfl)) rfl ?_
      | refine Y_res (r_extract rfl rfl) rfl ?_
      | refine Y_res (r_pickT rfl rfl) rfl ?_
      | refine Y_res (r_pickF rfl rfl) rfl ?_
      | refine X_storeI rfl rfl (by first | omega | (simp only [List.length_set, List.length_replicate]; omega)) ?_
      | refine X_storeB rfl rfl rfl (by decide) ?_
      | (refine X_allocI rfl ?_; intro _ _)
      | (refine X_buildS (by rfl) (by rfl) (by simp) rfl ?_; intro _ _)
      | refine X_storeWI rfl rfl (by rfl) (by rfl) ?_
      | refine Y_res (r_loadWI rfl (by rfl)) rfl ?_
      | (refine X_make rfl rfl (by omega) (by omega) (by omega) rfl ?_; intro _ _)
      | refine Y_res (r_loadWH rfl (by rfl)) rfl ?_
      | refine Y_res (r_loadW rfl (by rfl)) rfl ?_
      | (refine X_append rfl rfl (fun w_ h_ => rds_ints (Hp.head h_) (by simp) (by decide)) (by rfl) (by rfl) (by rfl) (by first | omega | (simp only [List.length_cons, List.length_nil]; omega)) (by first | omega | (simp only [List.length_cons, List.length_nil]; omega)) rfl ?_; intro _ _)
    refine X_call rfl rfl (fun w11 h11 => (refsum_any m A cap w11 (rds_sl h11.tail.tail.tail.tail.head) (by omega)).mono ?_)
    rw [hs1]
    rintro e w12 ⟨v, rfl, ⟨A12, cap12, rfl, hp12, hf12⟩, hc12⟩
    refine ⟨_, rfl, _, h11.add hc12 hp12 hf12, ?_⟩
    clear hp12 hf12 hc12
    repeat first
      | refine XC_region ?_
      | refine XC_quietF rfl (by kernel_rfl) (by kernel_rfl) drw_hp ?_
      | refine XC_tailF (by kernel_rfl) (by kernel_rfl) drw_hp ?_
      | refine X_nil ?_
      | refine XQ_nil ?_
      | refine XQ_nilX ?_
      | refine XC_condT rfl ?_
      | refine XC_condF rfl ?_
      | refine XC_seq ?_
      | refine XT_seq ?_
      | refine XC_block ?_
      | refine XT_block_normal ?_
      | refine XT_block_ret ?_
      | refine XT_block_same rfl ?_
      | refine XT_block_other rfl ?_
      | refine XT_then_exit ?_
      | refine XT_then_ret ?_
      | refine XC_skip ?_
      | refine XC_exit ?_
      | refine XC_ret ?_
      | refine Y_res (r_move rfl) rfl ?_
      | refine Y_res (r_assign rfl) rfl ?_
      | refine Y_res (r_add64 rfl rfl (by omega)) rfl ?_
      | refine Y_res (r_add8 rfl rfl) rfl ?_
      | refine Y_res (r_add32 rfl rfl) rfl ?_
      | refine Y_res (r_addu rfl rfl) rfl ?_
      | refine Y_res (r_sub64 rfl rfl (by omega)) rfl ?_
      | refine Y_res (r_sub8 rfl rfl) rfl ?_
      | refine Y_res (r_sub32 rfl rfl) rfl ?_
      | refine Y_res (r_subu rfl rfl) rfl ?_
      | refine Y_res (r_mul64 rfl rfl (by omega)) rfl ?_
      | refine Y_res (r_mul8 rfl rfl) rfl ?_
      | refine Y_res (r_mul32 rfl rfl) rfl ?_
      | refine Y_res (r_mulu rfl rfl) rfl ?_
      | refine Y_res (r_rem rfl rfl (by omega)) rfl ?_
      | refine Y_res (r_quo rfl rfl (by omega)) rfl ?_
      | refine Y_res (r_and rfl rfl) rfl ?_
      | refine Y_res (r_or rfl rfl) rfl ?_
      | refine Y_res (r_xor rfl rfl) rfl ?_
      | refine Y_res (r_andNot rfl rfl) rfl ?_
      | refine Y_res (r_not rfl) rfl ?_
      | refine Y_res (r_shl32 rfl rfl rfl) rfl ?_
      | refine Y_res (r_shlu rfl rfl rfl) rfl ?_
      | refine Y_res (r_shl64 rfl rfl rfl (by omega)) rfl ?_
      | refine Y_res (r_shr rfl rfl rfl) rfl ?_
      | refine Y_res (r_shl rfl rfl rfl) rfl ?_
      | refine Y_res (r_lss rfl rfl) rfl ?_
      | refine Y_res (r_leq rfl rfl) rfl ?_
      | refine Y_res (r_gtr rfl rfl) rfl ?_
      | refine Y_res (r_geq rfl rfl) rfl ?_
      | refine Y_res (r_eql rfl rfl) rfl ?_
      | refine Y_res (r_neq rfl rfl) rfl ?_
      | refine Y_res (r_eqlNil rfl rfl) rfl ?_
      | refine Y_res (r_neqNil rfl rfl) rfl ?_
      | refine Y_res (r_eqlNil2 rfl rfl) rfl ?_
      | refine Y_res (r_neqNil2 rfl rfl) rfl ?_
      | refine Y_res (r_eqlB rfl rfl) rfl ?_
      | refine Y_res (r_neqB rfl rfl) rfl ?_
      | refine X_mark rfl rfl ?_
      | refine Y_on rfl rfl ?_
      | refine Y_off rfl rfl rfl ?_
      | refine Y_res (r_notB rfl) rfl ?_
      | refine Y_res (r_neg64 rfl (by omega)) rfl ?_
      | refine Y_res (r_conv8 rfl) rfl ?_
      | refine Y_res (r_conv32 rfl) rfl ?_
      | refine Y_res (r_convuN rfl (by omega)) rfl ?_
      | refine Y_res (r_convu rfl) rfl ?_
      | refine Y_res (r_conv64 rfl (by omega)) rfl ?_
      | refine Y_res (r_conv rfl) rfl ?_
      | refine Y_res (r_len rfl) rfl ?_
      | refine Y_res (r_indexA0 rfl rfl (by omega)) rfl ?_
      | refine Y_res (r_indexA1 rfl rfl (by omega)) rfl ?_
      | refine Y_res (r_indexA rfl rfl (by omega)) rfl ?_
      | refine Y_res (r_indexS rfl rfl (by omega) (by omega)) rfl ?_
      | refine Y_res (r_indexR rfl rfl (by assumption) (by omega) (by omega)) rfl ?_
      | refine Y_res (r_indexA0T rfl rfl (by omega) (by omega)) rfl ?_
      | refine Y_res (r_indexA1T rfl rfl (by omega) (by omega)) rfl ?_
      | refine Y_res (r_indexST rfl rfl (by omega) (by omega) (by omega)) rfl ?_
      | refine Y_res (r_indexRT rfl rfl (by assumption) (by omega) (by omega) (by omega)) rfl ?_
      | refine Y_res (r_field' rfl) rfl ?_
      | refine Y_res (r_field rfl) rfl ?_
      | refine Y_res (r_nilCheck rfl) rfl ?_
      | refine Y_resN (r_nilCheck rfl) ?_
      | refine Y_res (r_loadI rfl (by first | omega | (simp only [List.length_set, List.length_replicate]; omega))) rfl ?_
      | refine Y_res (r_loadB rfl rfl) rfl ?_
      | refine Y_res (r_loadR rfl (by assumption) (by first | exact old_false | assumption) (by omega)) rfl ?_
      | refine Y_res (r_cutL rfl rfl (by omega)) rfl ?_
      | refine Y_res (r_cutH rfl rfl (by omega)) rfl ?_
      | refine Y_res (r_cutLH rfl rfl rfl (by omega) (by omega)) rfl ?_
      | refine Y_res (r_cutA rfl rfl (by omega)) rfl ?_
      | refine Y_res (r_cutAll rfl) rfl ?_
      | refine Y_res (r_cutAH rfl rfl (by omega)) rfl ?_
      | refine Y_res (r_buildI (by rfl) (by rfl)) rfl ?_
      | refine Y_res (r_indexV rfl rfl (by omega) (by rfl)) rfl ?_
      | refine Y_res (r_extract rfl rfl) rfl ?_
      | refine Y_res (r_pickT rfl rfl) rfl ?_
      | refine Y_res (r_pickF rfl rfl) rfl ?_
      | refine X_storeI rfl rfl (by first | omega | (simp only [List.length_set, List.length_replicate]; omega)) ?_
      | refine X_storeB rfl rfl rfl (by decide) ?_
      | (refine X_allocI rfl ?_; intro _ _)
      | (refine X_buildS (by rfl) (by rfl) (by simp) rfl ?_; intro _ _)
      | refine X_storeWI rfl rfl (by rfl) (by rfl) ?_
      | refine Y_res (r_loadWI rfl (by rfl)) rfl ?_
      | (refine X_make rfl rfl (by omega) (by omega) (by omega) rfl ?_; intro _ _)
      | refine Y_res (r_loadWH rfl (by rfl)) rfl ?_
      | refine Y_res (r_loadW rfl (by rfl)) rfl ?_
      | (refine X_append rfl rfl (fun w_ h_ => rds_ints (Hp.head h_) (by simp) (by decide)) (by rfl) (by rfl) (by rfl) (by first | omega | (simp only [List.length_cons, List.length_nil]; omega)) (by first | omega | (simp only [List.length_cons, List.length_nil]; omega)) rfl ?_; intro _ _)
      | refine Y_call (g := 11) rfl rfl (fun w1 hM => (same_any s1 s1 A10 A12 cap10 cap12 w1 (rds_sl hM.tail.head) (rds_sl hM.head)).mono fun e w2 h => ⟨h.1, hM.keep h.2⟩) ?_
    refine XT_ret1 (.inl rfl) Tryd.results3 rfl (fun w5 h5 => ⟨by rw [decide_eq_true rfl], h5.chg⟩)
end Go.Proofs.YtjdplgjabbeejaaDoor.NSha
