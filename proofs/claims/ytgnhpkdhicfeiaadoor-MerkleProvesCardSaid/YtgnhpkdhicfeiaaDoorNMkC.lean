/- A bridge, verified: walked. -/
import Derived.Test.YtgnhpkdhicfeiaaDoorNMkB
namespace Go.Proofs.YtgnhpkdhicfeiaaDoor.NMk
open Go Go.RowKit Go.Proofs.YtgnhpkdhicfeiaaDoor.MX Go.Proofs.YtgnhpkdhicfeiaaDoor.PSha Go.Proofs.YtgnhpkdhicfeiaaDoor.NSha Go.Proofs.YtgnhpkdhicfeiaaDoor.PMerkle
set_option linter.unusedVariables false
set_option linter.unusedSimpArgs false
set_option linter.unusedVariables false
/-- Where a bridge's walk stands. -/
structure Up2 (w : World) (P : List (List Int)) (A' B' : List Int) (w1 : World) (j x y : Nat) (H : Option Addr) (hc : Nat) (a : List Int) (G : Option Addr) (gc : Nat) (b : List Int) : Prop where
  jl : j ≤ P.length
  ch : Chg (fun _ => False) w w1
  ra : Rds w1 H hc .u8 a
  rb : Rds w1 G gc .u8 b
  a32 : a.length = 32
  b32 : b.length = 32
  go : gr (P.drop j) x y a b = some (0, 0, A', B')
  xl : x ≤ 200
  yl : y ≤ 200
set_option maxRecDepth 100000 in
set_option maxHeartbeats 8000000 in
theorem grown_same (root : List Int) (n : Nat) (R R2 : Option Addr) (cr cr2 : Nat) (w : World) (hr : Rds w R cr .u8 root) (hr2 : Rds w R2 cr2 .u8 root) (hr32 : root.length = 32) (hn : n ≤ 100) (hK : KAt KS w) :
    Calls Tryd.prog 24 #[.int .i64 n, .int .i64 n, .slice R root.length cr, .slice R2 root.length cr2, .slice none 0 0] w (Says w (.bool true)) := by
  refine calls_of_X (vs := [_, _, _, _, _]) (M := Hp w (fun _ => False) []) Tryd.func24 rfl Tryd.ntmps24 rfl (Hp.nil _ _) ?_
  repeat first
    | refine XC_region ?_
    | refine X_nil ?_
    | refine XC_seq ?_
    | refine XT_seq ?_
    | refine XC_block ?_
    | refine Y_res (r_move rfl) rfl ?_
    | refine Y_res (r_assign rfl) rfl ?_
    | refine Y_res (r_lss rfl rfl) rfl ?_
    | refine Y_res (r_gtr rfl rfl) rfl ?_
    | refine Y_on rfl rfl ?_
    | refine Y_res (r_pickF rfl rfl) rfl ?_
    | refine Y_splitF rfl rfl (by omega) ?_
    | (refine X_buildV rfl rfl (fun u hu => by simp at hu; rcases hu with h | h <;> rw [h] <;> rfl) rfl (by simp) rfl ?_; intro _ _)
  rename_i g1 hg1
  refine Y_says (g := 36) rfl rfl (fun w1 q1 => sized_any [root, root] _ _ w1 (lls_blk q1.head (Nat.le_refl 2) (by decide) (fun i l hi => by
        match i, hi with
        | 0, hi => obtain rfl := Option.some.inj hi; exact ⟨_, _, rfl, hr.old q1 old_false⟩
        | 1, hi => obtain rfl := Option.some.inj hi; exact ⟨_, _, rfl, hr2.old q1 old_false⟩)) (fun x hx => by simp at hx; rw [hx]; assumption)) ?_
  repeat first
    | refine Y_res (r_move rfl) rfl ?_
    | refine Y_on rfl rfl ?_
    | refine Y_res (r_notB rfl) rfl ?_
    | refine Y_res (r_pickF rfl rfl) rfl ?_
  refine Y_says (g := 36) rfl rfl (fun w1 q1 => sized_any [] none 0 w1 (LLs.none_ _ _) (fun x hx => by cases hx)) ?_
  repeat first
    | refine XC_region ?_
    | refine X_nil ?_
    | refine XC_condF rfl ?_
    | refine XC_seq ?_
    | refine XT_seq ?_
    | refine Y_res (r_move rfl) rfl ?_
    | refine Y_res (r_assign rfl) rfl ?_
    | refine Y_res (r_eql rfl rfl) rfl ?_
    | refine Y_on rfl rfl ?_
    | refine Y_res (r_notB rfl) rfl ?_
    | refine Y_res (r_pickF rfl rfl) rfl ?_
  refine XC_condP rfl (fun _ => ?_) (fun hx => absurd rfl hx)
  repeat first
    | refine XC_region ?_
    | refine X_nil ?_
    | refine XC_seq ?_
    | refine XT_seq ?_
    | refine XT_block_ret ?_
    | refine XT_then_ret ?_
    | refine XC_ret ?_
    | refine Y_res (r_move rfl) rfl ?_
    | refine Y_res (r_assign rfl) rfl ?_
    | refine Y_res (r_eql rfl rfl) rfl ?_
    | refine Y_on rfl rfl ?_
    | refine Y_res (r_len rfl) rfl ?_
    | refine Y_res (r_pickT rfl rfl) rfl ?_
    | refine Y_says (g := 37) rfl rfl (fun w2 hM => equal_any root root R R2 cr cr2 w2 (hr.old hM old_false) (hr2.old hM old_false) rfl) ?_
  exact XT_says (.inl rfl) Tryd.results24 rfl rfl
set_option maxRecDepth 100000 in
set_option maxHeartbeats 8000000 in
theorem grown_none (root : List Int) (n : Nat) (F R B : Option Addr) (cf cr cb : Nat) (w : World) (hB : LLs .u8 w B cb []) (hf : Rds w F cf .u8 (sumS KS [])) (hr : Rds w R cr .u8 root) (hr32 : root.length = 32) (h0 : 0 < n) (hn : n ≤ 100) (hK : KAt KS w) :
    Calls Tryd.prog 24 #[.int .i64 ((0 : Nat) : Int), .int .i64 n, .slice F (sumS KS []).length cf, .slice R root.length cr, .slice B ([] : List (List Int)).length cb] w (Says w (.bool true)) := by
  have hf32 : (sumS KS []).length = 32 := rfl
  generalize hz : sumS KS [] = first at *
  refine calls_of_X (vs := [_, _, _, _, _]) (M := Hp w (fun _ => False) []) Tryd.func24 rfl Tryd.ntmps24 rfl (Hp.nil _ _) ?_
  repeat first
    | refine XC_region ?_
    | refine X_nil ?_
    | refine XC_seq ?_
    | refine XT_seq ?_
    | refine XC_block ?_
    | refine Y_res (r_move rfl) rfl ?_
    | refine Y_res (r_assign rfl) rfl ?_
    | refine Y_res (r_lss rfl rfl) rfl ?_
    | refine Y_res (r_gtr rfl rfl) rfl ?_
    | refine Y_on rfl rfl ?_
    | refine Y_res (r_pickF rfl rfl) rfl ?_
    | refine Y_splitF rfl rfl (by omega) ?_
    | (refine X_buildV rfl rfl (fun u hu => by simp at hu; rcases hu with h | h <;> rw [h] <;> rfl) rfl (by simp) rfl ?_; intro _ _)
  rename_i g1 hg1
  refine Y_says (g := 36) rfl rfl (fun w1 q1 => sized_any [first, root] _ _ w1 (lls_blk q1.head (Nat.le_refl 2) (by decide) (fun i l hi => by
        match i, hi with
        | 0, hi => obtain rfl := Option.some.inj hi; exact ⟨_, _, rfl, hf.old q1 old_false⟩
        | 1, hi => obtain rfl := Option.some.inj hi; exact ⟨_, _, rfl, hr.old q1 old_false⟩)) (fun x hx => by simp at hx; rcases hx with rfl | rfl <;> assumption)) ?_
  repeat first
    | refine Y_res (r_move rfl) rfl ?_
    | refine Y_on rfl rfl ?_
    | refine Y_res (r_notB rfl) rfl ?_
    | refine Y_res (r_pickF rfl rfl) rfl ?_
  refine Y_says (g := 36) rfl rfl (fun w1 q1 => sized_any [] B cb w1 (hB.keep q1.chg (fun _ h => h)) (fun x hx => by cases hx)) ?_
  repeat first
    | refine XC_region ?_
    | refine X_nil ?_
    | refine XC_condF rfl ?_
    | refine XC_seq ?_
    | refine XT_seq ?_
    | refine Y_res (r_move rfl) rfl ?_
    | refine Y_res (r_assign rfl) rfl ?_
    | refine Y_res (r_eql rfl rfl) rfl ?_
    | refine Y_on rfl rfl ?_
    | refine Y_res (r_notB rfl) rfl ?_
    | refine Y_res (r_pickF rfl rfl) rfl ?_
  refine XC_condP rfl (fun hx => absurd hx (by omega)) (fun _ => ?_)
  repeat first
    | refine XC_region ?_
    | refine X_nil ?_
    | refine XC_condT rfl ?_
    | refine XC_seq ?_
    | refine XT_seq ?_
    | refine Y_res (r_move rfl) rfl ?_
    | refine Y_res (r_assign rfl) rfl ?_
    | refine Y_res (r_eql rfl rfl) rfl ?_
    | refine Y_on rfl rfl ?_
    | refine Y_res (r_len rfl) rfl ?_
  refine X_tells (g := 35) (E := 5) (k := .u8) (z := sumS KS []) rfl rfl (fun w1 hM => sum_any KS [] none 0 w1 (Rds.nil_ _ _) (by decide) (hK.keep hM.chg (fun h => h))) ?_
  intro B2 cap y hy
  repeat first
    | refine X_nil ?_
    | refine XT_seq ?_
    | refine XT_block_ret ?_
    | refine XT_then_ret ?_
    | refine XC_ret ?_
    | refine Y_res (r_assign rfl) rfl ?_
    | refine Y_on rfl rfl ?_
    | refine Y_res (r_pickT rfl rfl) rfl ?_
    | refine Y_says (g := 37) rfl rfl (fun w2 hM => equal_any first y F B2 cf cap w2 (hf.old hM old_false) (rds_sl hM.head) (by rw [hy, hz])) ?_
  exact XT_says (.inl rfl) Tryd.results24 rfl rfl
end Go.Proofs.YtgnhpkdhicfeiaaDoor.NMk
