/- The laws' own anchor, walked: three calls at known numbers. -/
import Derived.Test.YtbkbdnlolfaneaaMT
import Derived.Test.YtbkbdnlolfaneaaMXW
namespace Go.Proofs.Ytbkbdnlolfaneaa.NRound
open Go Go.RowKit Go.Proofs.Ytbkbdnlolfaneaa.MX
set_option linter.unusedVariables false
set_option linter.unusedSimpArgs false
set_option linter.unusedVariables false
set_option maxHeartbeats 1000000 in
theorem around1 (w : World) : Calls Try.prog 34 #[.int .i64 4097, .int .i64 4096] w (Says w (.int .i64 (-4095))) := by
  refine calls_of_X (vs := [_, _]) (M := Hp w (fun _ => False) []) Try.func34 rfl Try.ntmps34 rfl (Hp.nil _ _) ?_
  repeat first
    | refine XC_region ?_
    | refine X_nil ?_
    | refine XC_condT rfl ?_
    | refine XC_seq ?_
    | refine XT_seq ?_
    | refine XC_ret ?_
    | refine Y_res (r_move rfl) rfl ?_
    | refine Y_res (r_assign rfl) rfl ?_
    | refine Y_res (r_sub64 rfl rfl (by omega)) rfl ?_
    | refine Y_res (r_mul64 rfl rfl (by omega)) rfl ?_
    | refine Y_res (r_rem rfl rfl (by omega)) rfl ?_
    | refine Y_res (r_gtr rfl rfl) rfl ?_
  exact XT_says (.inl rfl) Try.results34 rfl rfl
set_option maxHeartbeats 1000000 in
theorem around2 (w : World) : Calls Try.prog 34 #[.int .i64 8380416, .int .i64 95232] w (Says w (.int .i64 0)) := by
  refine calls_of_X (vs := [_, _]) (M := Hp w (fun _ => False) []) Try.func34 rfl Try.ntmps34 rfl (Hp.nil _ _) ?_
  repeat first
    | refine XC_region ?_
    | refine X_nil ?_
    | refine XC_condF rfl ?_
    | refine XC_seq ?_
    | refine XT_seq ?_
    | refine XC_skip ?_
    | refine XC_ret ?_
    | refine Y_res (r_move rfl) rfl ?_
    | refine Y_res (r_assign rfl) rfl ?_
    | refine Y_res (r_mul64 rfl rfl (by omega)) rfl ?_
    | refine Y_res (r_rem rfl rfl (by omega)) rfl ?_
    | refine Y_res (r_gtr rfl rfl) rfl ?_
  exact XT_says (.inl rfl) Try.results34 rfl rfl
set_option maxHeartbeats 1000000 in
theorem power1 (w : World) : Calls Try.prog 13 #[.int .i64 4097] w (Says w (.tuple #[.int .i64 1, .int .i64 (-4095)])) := by
  refine calls_of_X (vs := [_]) (M := Hp w (fun _ => False) []) Try.func13 rfl Try.ntmps13 rfl (Hp.nil _ _) ?_
  repeat first
    | refine XC_region ?_
    | refine X_nil ?_
    | refine XC_seq ?_
    | refine XT_seq ?_
    | refine XC_ret ?_
    | refine Y_res (r_move rfl) rfl ?_
    | refine Y_res (r_assign rfl) rfl ?_
    | refine Y_res (r_sub64 rfl rfl (by omega)) rfl ?_
    | refine Y_res (r_quo rfl rfl (by omega)) rfl ?_
    | refine Y_says (g := 34) rfl rfl (fun w1 hM => around1 w1) ?_
  exact XT_ret2 (.inl rfl) Try.results13 rfl rfl (fun w' h => ⟨rfl, h.chg⟩)
set_option maxHeartbeats 1000000 in
theorem deco1 (w : World) : Calls Try.prog 15 #[.int .i64 8380416, .int .i64 95232] w (Says w (.tuple #[.int .i64 0, .int .i64 (-1)])) := by
  refine calls_of_X (vs := [_, _]) (M := Hp w (fun _ => False) []) Try.func15 rfl Try.ntmps15 rfl (Hp.nil _ _) ?_
  repeat first
    | refine XC_region ?_
    | refine X_nil ?_
    | refine XC_condT rfl ?_
    | refine XC_seq ?_
    | refine XT_seq ?_
    | refine XT_then_ret ?_
    | refine XC_ret ?_
    | refine Y_res (r_move rfl) rfl ?_
    | refine Y_res (r_assign rfl) rfl ?_
    | refine Y_res (r_sub64 rfl rfl (by omega)) rfl ?_
    | refine Y_res (r_eql rfl rfl) rfl ?_
    | refine Y_says (g := 34) rfl rfl (fun w1 hM => around2 w1) ?_
  exact XT_ret2 (.inl rfl) Try.results15 rfl rfl (fun w' h => ⟨rfl, h.chg⟩)
theorem hp_re {w0 w : World} {S : Nat → Prop} {A : Option Addr} {c : Nat} {e : TypeId} {k : IntKind} {xs ys : List Int} (h : Hp w0 S [Ch.sl A c e k xs] w) (he : xs = ys) : Hp w0 S [Ch.sl A c e k ys] w := he ▸ h
set_option maxHeartbeats 4000000 in
theorem pack1 (g : Nat) (w : World) (hr : Rds w (some ⟨g, 0, none⟩) 3 .i64 [1, 2, 3]) : Calls Try.prog 17 #[.slice (some ⟨g, 0, none⟩) 3 3, .int .i64 3] w fun e w' => ∃ A c, e = .returned (.tuple #[.slice A 2 c, .bool true]) ∧ Hp w (fun _ => False) [Ch.sl A c 5 .u8 [209, 0]] w' := by
  haveI : P2 (0 + 3) 8 := ⟨by decide⟩
  haveI : P2 (0 + 3 + 3) 64 := ⟨by decide⟩
  refine calls_of_X (vs := [_, _]) (M := Hp w (fun _ => False) []) Try.func17 rfl Try.ntmps17 rfl (Hp.nil _ _) ?_
  repeat first
    | refine XC_region ?_
    | refine X_nil ?_
    | refine XC_condT rfl ?_
    | refine XC_condF rfl ?_
    | refine XC_seq ?_
    | refine XT_seq ?_
    | refine XC_block ?_
    | refine XT_block_normal ?_
    | refine XT_block_same rfl ?_
    | refine XT_then_exit ?_
    | refine XC_skip ?_
    | refine XC_exit ?_
    | refine XC_ret ?_
    | refine Y_res (r_move rfl) rfl ?_
    | refine Y_res (r_assign rfl) rfl ?_
    | refine Y_res (r_add64 rfl rfl (by omega)) rfl ?_
    | refine Y_res (r_sub64 rfl rfl (by omega)) rfl ?_
    | refine Y_res (r_or rfl rfl) rfl ?_
    | refine Y_res (r_shl64 rfl rfl rfl (by omega)) rfl ?_
    | refine Y_res (r_shr rfl rfl rfl) rfl ?_
    | refine Y_res (r_shl rfl rfl rfl) rfl ?_
    | refine Y_res (r_lss rfl rfl) rfl ?_
    | refine Y_res (r_gtr rfl rfl) rfl ?_
    | refine Y_res (r_geq rfl rfl) rfl ?_
    | refine Y_on rfl rfl ?_
    | refine Y_res (r_conv8 rfl) rfl ?_
    | refine Y_res (r_len rfl) rfl ?_
    | refine Y_res (r_indexR rfl rfl (by assumption) (by omega) (by omega)) rfl ?_
    | refine Y_res (r_pickF rfl rfl) rfl ?_
    | (refine X_buildS (by rfl) (by rfl) (by simp) rfl ?_; intro _ _)
    | (refine X_append rfl rfl (fun w_ h_ => rds_ints (Hp.head h_) (by simp) (by decide)) (by rfl) (by rfl) (by rfl) (by first | omega | (simp only [List.length_cons, List.length_nil]; omega)) (by first | omega | (simp only [List.length_cons, List.length_nil]; omega)) rfl ?_; intro _ _)
    | refine Y_splitF rfl rfl (by decide) ?_
    | refine XC_rounds 6 (XR_succ ?_)
    | refine Y_res (r_loadR rfl hr (fun _ _ h => h) (by decide)) rfl ?_
    | refine XT_rounds (XR_succ ?_)
    | (refine X_append0 rfl rfl (fun w_ h => rds_ints h.head (Nat.le_refl 1) (by decide)) rfl (by simp) (by simp) rfl ?_; intro _ _)
    | (refine X_append rfl rfl (fun w_ hM => rds_ints hM.head (Nat.le_refl 1) (by decide)) rfl rfl rfl (by simp) (by simp) rfl ?_; intro _ _)
  refine XT_ret2 (.inl rfl) Try.results17 rfl rfl (fun w' h => ⟨_, _, rfl, hp_re h.tail.hd ?_⟩)
  decide +kernel
set_option maxHeartbeats 4000000 in
theorem anchor_any (w : World) : Calls Try.prog 11 #[] w (Says w (.bool true)) := by
  refine calls_of_X (vs := []) (M := Hp w (fun _ => False) []) Try.func11 rfl Try.ntmps11 rfl (Hp.nil _ _) ?_
  repeat first
    | refine XC_region ?_
    | refine X_nil ?_
    | refine XC_seq ?_
    | refine XT_seq ?_
    | refine Y_res (r_move rfl) rfl ?_
    | refine Y_res (r_assign rfl) rfl ?_
    | refine Y_res (r_extract rfl rfl) rfl ?_
    | (refine X_buildS (by rfl) (by rfl) (by simp) rfl ?_; intro _ _)
    | refine Y_says (g := 13) rfl rfl (fun w1 hM => power1 w1) ?_
    | refine Y_says (g := 15) rfl rfl (fun w1 hM => deco1 w1) ?_
  rename_i g hg
  refine X_call (g := 17) rfl rfl (fun w1 h1 => (pack1 g w1 (rds_ints h1.head (Nat.le_refl 3) (by decide))).mono ?_)
  rintro e w2 ⟨A, c, rfl, h2⟩
  refine ⟨_, rfl, _, h1.frame0 h2, ?_⟩
  simp only [List.cons_append, List.nil_append]
  repeat first
    | refine XC_region ?_
    | refine X_nil ?_
    | refine XC_seq ?_
    | refine XT_seq ?_
    | refine XC_ret ?_
    | refine Y_res (r_move rfl) rfl ?_
    | refine Y_res (r_assign rfl) rfl ?_
    | refine Y_res (r_eql rfl rfl) rfl ?_
    | refine Y_on rfl rfl ?_
    | refine Y_res (r_len rfl) rfl ?_
    | refine Y_res (r_extract rfl rfl) rfl ?_
    | refine Y_res (r_pickT rfl rfl) rfl ?_
    | refine Y_splitT rfl rfl (by decide) ?_
    | refine Y_res (r_indexS rfl rfl (by omega) (by decide)) rfl ?_
    | refine Y_res (r_loadI rfl (by decide)) rfl ?_
  exact XT_says (.inl rfl) Try.results11 rfl (by rfl)
end Go.Proofs.Ytbkbdnlolfaneaa.NRound
