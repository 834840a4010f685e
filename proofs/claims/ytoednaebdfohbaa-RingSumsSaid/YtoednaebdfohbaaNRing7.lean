/- Norms, and RingNorms, walked. -/
import Derived.Test.YtoednaebdfohbaaNRing6
namespace Go.Proofs.Ytoednaebdfohbaa.NRing
open Go Go.RowKit Go.Proofs.Ytoednaebdfohbaa.MX Go.Proofs.Ytoednaebdfohbaa.PRing
set_option linter.unusedVariables false
set_option linter.unusedSimpArgs false
theorem wf64 {x : Int} (h : (Lit.int .i64 x).wf = true) : -9223372036854775808 ≤ x ∧ x ≤ 9223372036854775807 := by
  simp only [Lit.wf, IntKind.min, IntKind.max, IntKind.signed, IntKind.bits, Bool.and_eq_true, decide_eq_true_eq, if_true] at h
  omega
theorem wf_get {l : List Int} (h : ∀ n ∈ l, (Lit.int .i64 n).wf = true) {i : Nat} (hi : i < l.length) : -9223372036854775808 ≤ l.getD i 0 ∧ l.getD i 0 ≤ 9223372036854775807 := by
  refine wf64 (h _ ?_)
  rw [List.getD_eq_getElem?_getD, List.getElem?_eq_getElem hi]
  exact List.getElem_mem hi
theorem ctr_bd (n : Int) : -4190208 ≤ ctr n ∧ ctr n ≤ 4190208 := by
  unfold ctr
  split <;> omega
def nst (m n : Int) : Int := if (if ctr n < 0 then -ctr n else ctr n) > m then (if ctr n < 0 then -ctr n else ctr n) else m
def nr (l : List Int) : Nat → Int
  | 0 => 0
  | k + 1 => nst (nr l k) (l.getD k 0)
theorem nr_bd (l : List Int) : ∀ k, 0 ≤ nr l k ∧ nr l k ≤ 4190208
  | 0 => ⟨Int.le_refl 0, by show (0 : Int) ≤ 4190208; decide⟩
  | k + 1 => by
    have h1 := nr_bd l k
    have h2 := ctr_bd (l.getD k 0)
    rw [nr, nst]
    split <;> split <;> omega
theorem nst_max {m n : Int} (hm : 0 ≤ m) : (if -ctr n > (if ctr n > m then ctr n else m) then -ctr n else (if ctr n > m then ctr n else m)) = nst m n := by
  unfold nst
  split <;> split <;> split <;> (try split) <;> omega
set_option maxHeartbeats 1000000 in
set_option maxRecDepth 100000 in
theorem norm_any (l : List Int) (A : Option Addr) (c : Nat) (w : World) (hr : Rds w A c .i64 l) (hwf : ∀ n ∈ l, (Lit.int .i64 n).wf = true) : Calls Try.prog 28 #[.slice A l.length c] w fun e w' => e = .returned (.int .i64 (nr l l.length)) ∧ Chg (fun _ => False) w w' := by
  have hle := hr.le
  have hcap := hr.cap
  refine calls_of_X (vs := [_]) (M := Hp w (fun _ => False) []) Try.func28 rfl Try.ntmps28 rfl (Hp.nil _ _) ?_
  repeat first
    | refine XC_region ?_
    | refine X_nil ?_
    | refine XC_seq ?_
    | refine XT_seq ?_
    | refine XC_block ?_
    | refine Y_res (r_move rfl) rfl ?_
    | refine Y_res (r_assign rfl) rfl ?_
    | refine Y_res (r_len rfl) rfl ?_
  refine XC_loop (ι := Nat) (fun i => i ≤ l.length) (fun i => [(3, .int .i64 (nr l i)), (6, .slice A l.length c), (7, .int .i64 l.length), (8, .int .i64 i)]) (fun i => Hp w (fun _ => False) []) (fun i => l.length - i) 0 (by omega) ⟨rfl, rfl, rfl, rfl, trivial⟩ (fun _ h => h) ?_
  intro i hi
  have hb := nr_bd l i
  repeat first
    | refine XC_region ?_
    | refine X_nil ?_
    | refine XC_seq ?_
    | refine XT_seq ?_
    | refine Y_res (r_lss rfl rfl) rfl ?_
  refine XC_condP rfl (fun hlt => ?_) (fun hge => ?_)
  · have hi2 : i < l.length := by omega
    have hn := wf_get hwf hi2
    have hc := ctr_bd (l.getD i 0)
    repeat first
      | refine XC_region ?_
      | refine X_nil ?_
      | refine XC_seq ?_
      | refine XT_seq ?_
      | refine XC_block ?_
      | refine XT_block_normal ?_
      | refine XC_skip ?_
      | refine Y_res (r_move rfl) rfl ?_
      | refine Y_res (r_assign rfl) rfl ?_
      | refine Y_res (r_add64 rfl rfl (by omega)) rfl ?_
      | refine Y_res (r_neg64 rfl (by omega)) rfl ?_
      | refine Y_res (r_indexR rfl rfl (by assumption) (by omega) (by omega)) rfl ?_
      | refine Y_res (r_loadR rfl (by assumption) (by first | exact old_false | assumption) (by omega)) rfl ?_
      | refine Y_call (g := 26) rfl rfl (fun w1 hM => (center_any _ w1 hn).mono fun e w2 h => ⟨h.1, hM.keep h.2⟩) ?_
      | refine Y_res (r_max3 rfl rfl rfl) rfl ?_
    rw [nst_max hb.1]
    exact XT_round (i + 1) (by omega) (by omega) ⟨rfl, rfl, rfl, rfl, trivial⟩ (fun _ h => h)
  · obtain rfl : i = l.length := by omega
    repeat first
      | refine XC_region ?_
      | refine X_nil ?_
      | refine XC_seq ?_
      | refine XT_seq ?_
      | refine XT_block_same rfl ?_
      | refine XT_then_exit ?_
      | refine XC_exit ?_
      | refine XC_ret ?_
      | refine Y_res (r_move rfl) rfl ?_
      | refine Y_res (r_assign rfl) rfl ?_
    exact XT_ret1 (.inl rfl) Try.results28 rfl (fun w' h => ⟨rfl, h.chg⟩)
set_option maxHeartbeats 1000000 in
set_option maxRecDepth 100000 in
theorem rnorm_any (l : List Int) (A : Option Addr) (c : Nat) (w : World) (hr : Rds w A c .i64 l) (hwf : ∀ n ∈ l, (Lit.int .i64 n).wf = true) : Calls Try.prog 29 #[.slice A l.length c] w fun e w' => e = .returned (.int .i64 (nr l l.length)) ∧ Chg (fun _ => False) w w' := by
  have hle := hr.le
  have hcap := hr.cap
  refine calls_of_X (vs := [_]) (M := Hp w (fun _ => False) []) Try.func29 rfl Try.ntmps29 rfl (Hp.nil _ _) ?_
  repeat first
    | refine XC_region ?_
    | refine X_nil ?_
    | refine XC_seq ?_
    | refine XT_seq ?_
    | refine XC_block ?_
    | refine Y_res (r_assign rfl) rfl ?_
  refine XC_loop (ι := Nat) (fun i => i ≤ l.length) (fun i => [(0, .slice A l.length c), (3, .int .i64 (nr l i)), (4, .int .i64 i)]) (fun i => Hp w (fun _ => False) []) (fun i => l.length - i) 0 (by omega) ⟨rfl, rfl, rfl, trivial⟩ (fun _ h => h) ?_
  intro i hi
  have hb := nr_bd l i
  repeat first
    | refine XC_region ?_
    | refine X_nil ?_
    | refine XC_seq ?_
    | refine XT_seq ?_
    | refine Y_res (r_move rfl) rfl ?_
    | refine Y_res (r_lss rfl rfl) rfl ?_
    | refine Y_res (r_len rfl) rfl ?_
  refine XC_condP rfl (fun hlt => ?_) (fun hge => ?_)
  · have hi2 : i < l.length := by omega
    have hn := wf_get hwf hi2
    have hc := ctr_bd (l.getD i 0)
    have hs : nr l (i + 1) = nst (nr l i) (l.getD i 0) := rfl
    repeat first
      | refine XC_region ?_
      | refine X_nil ?_
      | refine XC_seq ?_
      | refine XT_seq ?_
      | refine XC_block ?_
      | refine XC_skip ?_
      | refine Y_res (r_move rfl) rfl ?_
      | refine Y_res (r_assign rfl) rfl ?_
      | refine Y_res (r_lss rfl rfl) rfl ?_
      | refine Y_res (r_indexR rfl rfl (by assumption) (by omega) (by omega)) rfl ?_
      | refine Y_res (r_loadR rfl (by assumption) (by first | exact old_false | assumption) (by omega)) rfl ?_
      | refine Y_call (g := 27) rfl rfl (fun w1 hM => (rcenter_any _ w1 hn).mono fun e w2 h => ⟨h.1, hM.keep h.2⟩) ?_
    refine XC_condP rfl (fun h1 => ?_) (fun h1 => ?_)
    · repeat first
        | refine XC_region ?_
        | refine X_nil ?_
        | refine XC_seq ?_
        | refine XT_seq ?_
        | refine Y_res (r_move rfl) rfl ?_
        | refine Y_res (r_assign rfl) rfl ?_
        | refine Y_res (r_gtr rfl rfl) rfl ?_
        | refine Y_res (r_neg64 rfl (by omega)) rfl ?_
      refine XC_condP rfl (fun h2 => ?_) (fun h2 => ?_)
      · repeat first
          | refine XC_region ?_
          | refine X_nil ?_
          | refine XT_seq ?_
          | refine XT_block_normal ?_
          | refine Y_res (r_move rfl) rfl ?_
          | refine Y_res (r_assign rfl) rfl ?_
          | refine Y_res (r_add64 rfl rfl (by omega)) rfl ?_
        exact XT_round (i + 1) (by omega) (by omega) ⟨rfl, by rw [hs, nst, if_pos h1, if_pos h2]; rfl, rfl, trivial⟩ (fun _ h => h)
      · repeat first
          | refine XC_region ?_
          | refine X_nil ?_
          | refine XT_seq ?_
          | refine XT_block_normal ?_
          | refine XC_skip ?_
          | refine Y_res (r_move rfl) rfl ?_
          | refine Y_res (r_assign rfl) rfl ?_
          | refine Y_res (r_add64 rfl rfl (by omega)) rfl ?_
        exact XT_round (i + 1) (by omega) (by omega) ⟨rfl, by rw [hs, nst, if_pos h1, if_neg h2]; rfl, rfl, trivial⟩ (fun _ h => h)
    · repeat first
        | refine XC_region ?_
        | refine X_nil ?_
        | refine XC_seq ?_
        | refine XT_seq ?_
        | refine XC_skip ?_
        | refine Y_res (r_move rfl) rfl ?_
        | refine Y_res (r_gtr rfl rfl) rfl ?_
      refine XC_condP rfl (fun h2 => ?_) (fun h2 => ?_)
      · repeat first
          | refine XC_region ?_
          | refine X_nil ?_
          | refine XT_seq ?_
          | refine XT_block_normal ?_
          | refine Y_res (r_move rfl) rfl ?_
          | refine Y_res (r_assign rfl) rfl ?_
          | refine Y_res (r_add64 rfl rfl (by omega)) rfl ?_
        exact XT_round (i + 1) (by omega) (by omega) ⟨rfl, by rw [hs, nst, if_neg h1, if_pos h2]; rfl, rfl, trivial⟩ (fun _ h => h)
      · repeat first
          | refine XC_region ?_
          | refine X_nil ?_
          | refine XT_seq ?_
          | refine XT_block_normal ?_
          | refine XC_skip ?_
          | refine Y_res (r_move rfl) rfl ?_
          | refine Y_res (r_assign rfl) rfl ?_
          | refine Y_res (r_add64 rfl rfl (by omega)) rfl ?_
        exact XT_round (i + 1) (by omega) (by omega) ⟨rfl, by rw [hs, nst, if_neg h1, if_neg h2]; rfl, rfl, trivial⟩ (fun _ h => h)
  · obtain rfl : i = l.length := by omega
    repeat first
      | refine XC_region ?_
      | refine X_nil ?_
      | refine XC_seq ?_
      | refine XT_seq ?_
      | refine XT_block_same rfl ?_
      | refine XT_then_exit ?_
      | refine XC_exit ?_
      | refine XC_ret ?_
      | refine Y_res (r_move rfl) rfl ?_
      | refine Y_res (r_assign rfl) rfl ?_
    exact XT_ret1 (.inl rfl) Try.results29 rfl (fun w' h => ⟨rfl, h.chg⟩)
end Go.Proofs.Ytoednaebdfohbaa.NRing
