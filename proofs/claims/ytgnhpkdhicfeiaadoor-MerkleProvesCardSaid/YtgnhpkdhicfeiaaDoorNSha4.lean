/- The document's SHA-256. -/
import Derived.Test.YtgnhpkdhicfeiaaDoorNSha3
import Derived.Lib.Hide
namespace Go.Proofs.YtgnhpkdhicfeiaaDoor.NSha
open Go Go.RowKit Go.Proofs.YtgnhpkdhicfeiaaDoor.MX Go.Proofs.YtgnhpkdhicfeiaaDoor.PSha
set_option linter.unusedVariables false
set_option linter.unusedSimpArgs false
set_option linter.unusedVariables false

def tn (k : Int) : Nat := (32 - k).toNat
set_option maxHeartbeats 1000000 in
theorem turn_any (k : Int) (hk : k ∈ ([17, 19, 7, 18, 6, 11, 25, 2, 13, 22] : List Int)) (x : Int) (w : World) :
    Calls Tryd.prog 43 #[.int .u32 x, .int .i64 k] w fun e w' => e = .returned (.int .u32 (rotl (tn k) x)) ∧ Chg (fun _ => False) w w' := by
  obtain ⟨s, hs⟩ : ∃ s, s = tn k := ⟨_, rfl⟩
  rw [← hs]
  obtain ⟨h1, h2, h3, h4⟩ : k = ((32 - s : Nat) : Int) ∧ 32 - k = (s : Int) ∧ 1 ≤ s ∧ s < 32 := by
    subst hs
    revert hk
    exact (by decide +kernel : ∀ k ∈ ([17, 19, 7, 18, 6, 11, 25, 2, 13, 22] : List Int), k = ((32 - tn k : Nat) : Int) ∧ 32 - k = ((tn k : Nat) : Int) ∧ 1 ≤ tn k ∧ tn k < 32) k
  have hk1 : k ≤ 32 := by omega
  have hk0 : 0 ≤ k := by omega
  refine calls_of_X (vs := [_, _]) (M := Hp w (fun _ => False) []) Tryd.func43 rfl Tryd.ntmps43 rfl (Hp.nil _ _) ?_
  repeat first
    | refine XC_region ?_
    | refine XC_quietF rfl (by kernel_rfl) (by kernel_rfl) drw_hp ?_
    | refine X_nil ?_
    | refine XQ_nil ?_
    | refine XC_seq ?_
    | refine XT_seq ?_
    | refine XC_ret ?_
    | refine Y_res (r_move rfl) rfl ?_
    | refine Y_res (r_assign rfl) rfl ?_
    | refine Y_res (r_sub64 rfl rfl (by omega)) rfl ?_
    | refine Y_res (r_or rfl rfl) rfl ?_
    | refine Y_res (r_shrV (s := 32 - s) rfl rfl h1 (by simp only [IntKind.bits]; omega)) rfl ?_
    | refine Y_res (r_shlV (s := s) rfl rfl h2 (by simp only [IntKind.bits]; omega)) rfl ?_
  refine XT_ret1 (.inl rfl) Tryd.results43 rfl (fun w' h => ?_)
  exact ⟨by rw [bits_or_comm, wrap_u32]; rfl, h.chg⟩
set_option maxHeartbeats 1000000 in
theorem refk_any (w : World) : Calls Tryd.prog 42 #[] w fun e w' => e = .returned (.agg (KS.map (Value.int .u32)).toArray) ∧ Chg (fun _ => False) w w' := by
  refine calls_of_X (vs := []) (M := Hp w (fun _ => False) []) Tryd.func42 rfl Tryd.ntmps42 rfl (Hp.nil _ _) ?_
  repeat first
    | refine XC_region ?_
    | refine X_nil ?_
    | refine XC_seq ?_
    | refine XT_seq ?_
    | refine XC_ret ?_
    | refine Y_res (r_buildI (by rfl) (by rfl)) rfl ?_
    | (refine X_allocI rfl ?_; intro _ _)
    | refine X_storeWI rfl rfl (by rfl) (by rfl) ?_
  refine XT_retC (.inl rfl) Tryd.results42 rfl (by rfl) (fun w' h => ?_)
  exact ⟨rfl, h.chg⟩

set_option maxHeartbeats 8000000 in
set_option maxRecDepth 100000 in
theorem refsum_any (l : List Int) (A : Option Addr) (c : Nat) (w : World) (hr : Rds w A c .u8 l) (hm : l.length ≤ 900000000) :
    Calls Tryd.prog 32 #[.slice A l.length c] w fun e w' => ∃ v, e = .returned v ∧ NewSl w w' 5 .u8 (sumS KS l) v ∧ Chg (fun _ => False) w w' := by
  have hN := padN_bd l.length
  refine calls_of_X (vs := [_]) (M := Hp w (fun _ => False) []) Tryd.func32 rfl Tryd.ntmps32 rfl (Hp.nil _ _) ?_
  repeat first
    | refine XC_region ?_
    | refine X_nil ?_
    | refine XC_seq ?_
    | refine XT_seq ?_
    | refine Y_res (r_move rfl) rfl ?_
    | refine Y_res (r_assign rfl) rfl ?_
    | (refine X_buildS (by rfl) (by rfl) (by simp) rfl ?_; intro _ _)
  refine X_appendI rfl rfl (fun w1 h => hr.old h old_false) (by rfl) (by rfl) (by rfl) (by simp only [List.length_nil]; omega) (by simp only [List.length_nil]; omega) rfl (fun A1 cap1 => ?_)
  rw [List.nil_append]
  repeat first
    | refine XC_region ?_
    | refine X_nil ?_
    | refine XC_seq ?_
    | refine XT_seq ?_
    | refine XC_block ?_
    | refine Y_res (r_move rfl) rfl ?_
    | refine Y_res (r_assign rfl) rfl ?_
    | (refine X_buildS (by rfl) (by rfl) (by simp) rfl ?_; intro _ _)
    | (refine X_append rfl rfl (fun w_ h_ => rds_ints (Hp.head h_) (by simp) (by decide)) (by rfl) (by rfl) (by rfl) (by first | omega | (simp only [List.length_cons, List.length_nil]; omega)) (by first | omega | (simp only [List.length_cons, List.length_nil]; omega)) rfl ?_; intro _ _)
  rename_i g2 hg2 A2 cap2
  refine XC_loop (ι := Option Addr × Nat × Nat) (fun i => i.2.2 + 1 ≤ padN l.length) (fun i => [(0, .slice A l.length c), (3, .slice i.1 (l ++ 128 :: List.replicate i.2.2 0).length i.2.1)])
    (fun i => Hp w (fun _ => False) [Ch.sl i.1 i.2.1 5 .u8 (l ++ 128 :: List.replicate i.2.2 0)]) (fun i => padN l.length - i.2.2) (A2, cap2, 0) (by dsimp only; omega) ⟨rfl, rfl, trivial⟩ (fun _ h => h.tail) ?_
  rintro ⟨A3, cap3, j⟩ hj
  dsimp only at hj ⊢
  have hl1 : (l ++ 128 :: List.replicate j 0).length = l.length + 1 + j := by simp; omega
  repeat first
    | refine XC_region ?_
    | refine X_nil ?_
    | refine XC_seq ?_
    | refine XT_seq ?_
    | refine Y_res (r_move rfl) rfl ?_
    | refine Y_res (r_rem rfl rfl (by omega)) rfl ?_
    | refine Y_res (r_neq rfl rfl) rfl ?_
    | refine Y_res (r_len rfl) rfl ?_
  refine XC_condP rfl (fun hne => ?_) (fun heq => ?_)
  · rw [hl1] at hne
    have hj2 : j + 1 + 1 ≤ padN l.length := by unfold padN at hj ⊢; omega
    repeat first
      | refine XC_region ?_
      | refine X_nil ?_
      | refine XT_seq ?_
      | refine XC_block ?_
      | refine XT_block_normal ?_
      | refine XC_skip ?_
      | refine Y_res (r_move rfl) rfl ?_
      | refine Y_res (r_assign rfl) rfl ?_
      | (refine X_buildS (by rfl) (by rfl) (by simp) rfl ?_; intro _ _)
      | (refine X_append rfl rfl (fun w_ h_ => rds_ints (Hp.head h_) (by simp) (by decide)) (by rfl) (by rfl) (by rfl) (by first | omega | (simp only [List.length_cons, List.length_nil]; omega)) (by first | omega | (simp only [List.length_cons, List.length_nil]; omega)) rfl ?_; intro _ _)
    have e1 : l ++ 128 :: List.replicate (j + 1) (0 : Int) = (l ++ 128 :: List.replicate j 0) ++ [0] := by rw [List.replicate_succ', List.append_assoc, List.cons_append]
    refine XT_round (_, _, j + 1) hj2 (by dsimp only; omega) ⟨rfl, by dsimp only; rw [e1]; rfl, trivial⟩ (fun w3 h3 => ?_)
    dsimp only
    rw [e1]
    exact h3.tail
  · rw [hl1] at heq
    have hj2 : j = padN l.length - 1 := by unfold padN at hj ⊢; omega
    have e0 : l ++ 128 :: List.replicate j (0 : Int) = l ++ pre l.length 0 := by rw [hj2]; simp [pre]
    rw [e0]
    clear hl1 heq e0
    repeat first
      | refine XC_region ?_
      | refine X_nil ?_
      | refine XC_seq ?_
      | refine XT_seq ?_
      | refine XC_block ?_
      | refine XT_block_same rfl ?_
      | refine XT_then_exit ?_
      | refine XC_exit ?_
      | refine Y_res (r_move rfl) rfl ?_
      | refine Y_res (r_assign rfl) rfl ?_
      | refine Y_res (r_mulu rfl rfl) rfl ?_
      | refine Y_res (r_convuN rfl (by omega)) rfl ?_
      | refine Y_res (r_len rfl) rfl ?_
    refine XC_loop (ι := Option Addr × Nat × Nat) (fun i => i.2.2 ≤ 8) (fun i => [(3, .slice i.1 (l ++ pre l.length i.2.2).length i.2.1), (4, .int .u64 ((l.length : Int) * 8 % 18446744073709551616)), (5, .int .i64 (56 - 8 * (i.2.2 : Int)))])
      (fun i => Hp w (fun _ => False) [Ch.sl i.1 i.2.1 5 .u8 (l ++ pre l.length i.2.2)]) (fun i => 8 - i.2.2) (A3, cap3, 0) (by dsimp only; omega) ⟨rfl, rfl, rfl, trivial⟩ (fun _ h => h) ?_
    rintro ⟨A4, cap4, i⟩ hi
    dsimp only at hi ⊢
    have hl2 : (l ++ pre l.length i).length = l.length + padN l.length + i := by rw [List.length_append, pre_len _ _ hi]; omega
    repeat first
      | refine XC_region ?_
      | refine X_nil ?_
      | refine XC_seq ?_
      | refine XT_seq ?_
      | refine Y_res (r_move rfl) rfl ?_
      | refine Y_res (r_geq rfl rfl) rfl ?_
    refine XC_condP rfl (fun hlt => ?_) (fun hge => ?_)
    · have hi8 : i < 8 := by omega
      repeat first
        | refine XC_region ?_
        | refine X_nil ?_
        | refine XC_seq ?_
        | refine XT_seq ?_
        | refine XC_block ?_
        | refine XT_block_normal ?_
        | refine XC_skip ?_
        | refine Y_res (r_move rfl) rfl ?_
        | refine Y_res (r_assign rfl) rfl ?_
        | refine Y_res (r_sub64 rfl rfl (by omega)) rfl ?_
        | refine Y_res (r_conv8 rfl) rfl ?_
        | (refine X_buildS (by rfl) (by rfl) (by simp) rfl ?_; intro _ _)
        | (refine X_append rfl rfl (fun w_ h_ => rds_ints (Hp.head h_) (by simp) (by decide)) (by rfl) (by rfl) (by rfl) (by first | omega | (simp only [List.length_cons, List.length_nil]; omega)) (by first | omega | (simp only [List.length_cons, List.length_nil]; omega)) rfl ?_; intro _ _)
        | refine Y_res (r_shrV (s := 56 - 8 * i) rfl rfl (by omega) (by simp only [IntKind.bits]; omega)) rfl ?_
      have e1 : l ++ pre l.length (i + 1) = (l ++ pre l.length i) ++ [(l.length : Int) * 8 % 18446744073709551616 / 2 ^ (56 - 8 * i) % 256] := by
        rw [Int.emod_eq_of_lt (a := (l.length : Int) * 8) (b := 18446744073709551616) (by omega) (by omega), List.append_assoc, pre_succ _ _ hi8]
      refine XT_round (_, _, i + 1) (by dsimp only; omega) (by dsimp only; omega) ⟨by dsimp only; rw [e1]; rfl, rfl, by dsimp only; exact congrArg (fun q => some (Value.int .i64 q)) (by omega), trivial⟩ (fun w3 h3 => ?_)
      dsimp only
      rw [e1]
      exact h3.tail
    · have hi8 : i = 8 := by omega
      subst hi8
      rw [pre_8]
      obtain ⟨M, hM⟩ : ∃ M, M = l ++ padL l.length := ⟨_, rfl⟩
      have hMl : M.length = l.length + padN l.length + 8 := by rw [hM, List.length_append, padL_len]; omega
      have hM64 : M.length % 64 = 0 := by have := total_mod l.length; omega
      rw [← hM]
      clear hl2
      repeat first
        | refine XC_region ?_
        | refine X_nil ?_
        | refine XC_seq ?_
        | refine XT_seq ?_
        | refine XC_block ?_
        | refine XT_block_same rfl ?_
        | refine XT_then_exit ?_
        | refine XC_exit ?_
        | refine Y_res (r_assign rfl) rfl ?_
        | refine Y_res (r_buildI (by rfl) (by rfl)) rfl ?_
        | (refine X_allocI rfl ?_; intro _ _)
        | refine X_storeWI rfl rfl (by rfl) (by rfl) ?_
        | refine Y_call (g := 42) rfl rfl (fun w1 hM => (refk_any w1).mono fun e w2 h => ⟨h.1, hM.keep h.2⟩) ?_
      rename_i g6 hg6 g7 hg7
      have hks : KS.length = 64 := by rfl
      refine XC_loop (ι := Nat) (fun b => 64 * b ≤ M.length) (fun b => [(3, .slice A4 M.length cap4), (6, .pointer (some ⟨g6, 0, none⟩)), (7, .pointer (some ⟨g7, 0, none⟩)), (8, .int .i64 (64 * b : Nat))])
        (fun b => Hp w (fun _ => False) [Ch.ints g6 .u32 (stN KS M b).words 61, Ch.ints g7 .u32 KS 62, Ch.sl A4 cap4 5 .u8 M]) (fun b => M.length - 64 * b) 0 (by omega) ⟨rfl, rfl, rfl, rfl, trivial⟩ (fun _ h => h.swap) ?_
      intro b hb
      repeat first
        | refine XC_region ?_
        | refine X_nil ?_
        | refine XC_seq ?_
        | refine XT_seq ?_
        | refine Y_res (r_move rfl) rfl ?_
        | refine Y_res (r_lss rfl rfl) rfl ?_
        | refine Y_res (r_len rfl) rfl ?_
      refine XC_condP rfl (fun hlt => ?_) (fun hge => ?_)
      · have hb1 : 64 * b + 64 ≤ M.length := by omega
        obtain ⟨s, hs⟩ : ∃ s, s = stN KS M b := ⟨_, rfl⟩
        rw [← hs]
        obtain ⟨l', hl'⟩ : ∃ l', l' = M.drop (64 * b) := ⟨_, rfl⟩
        repeat first
          | refine XC_region ?_
          | refine X_nil ?_
          | refine XC_seq ?_
          | refine XT_seq ?_
          | refine XC_block ?_
          | refine XC_skip ?_
          | refine Y_res (r_assign rfl) rfl ?_
          | (refine X_allocI rfl ?_; intro _ _)
        rename_i g9 hg9
        refine XC_loop (ι := Nat) (fun t => t ≤ 64) (fun t => [(3, .slice A4 M.length cap4), (6, .pointer (some ⟨g6, 0, none⟩)), (7, .pointer (some ⟨g7, 0, none⟩)), (8, .int .i64 (64 * b : Nat)), (9, .pointer (some ⟨g9, 0, none⟩)), (10, .int .i64 t)])
          (fun t => Hp w (fun _ => False) [Ch.ints g9 .u32 (row l' t) 62, Ch.ints g6 .u32 s.words 61, Ch.ints g7 .u32 KS 62, Ch.sl A4 cap4 5 .u8 M]) (fun t => 64 - t) 0 (by omega) ⟨rfl, rfl, rfl, rfl, rfl, rfl, trivial⟩ (fun _ h => h) ?_
        intro t ht
        have hrl := row_len l' t (by omega)
        repeat first
          | refine XC_region ?_
          | refine X_nil ?_
          | refine XC_seq ?_
          | refine XT_seq ?_
          | refine Y_res (r_move rfl) rfl ?_
          | refine Y_res (r_lss rfl rfl) rfl ?_
        refine XC_condP rfl (fun hlt => ?_) (fun hge => ?_)
        · repeat first
            | refine XC_region ?_
            | refine X_nil ?_
            | refine XC_seq ?_
            | refine XT_seq ?_
            | refine XC_block ?_
            | refine XC_skip ?_
            | refine Y_res (r_move rfl) rfl ?_
            | refine Y_res (r_lss rfl rfl) rfl ?_
          refine XC_condP rfl (fun hlt2 => ?_) (fun hge2 => ?_)
          · repeat first
              | refine XC_region ?_
              | refine XC_tailF (by kernel_rfl) (by kernel_rfl) drw_hp ?_
              | refine X_nil ?_
              | refine XQ_nilX ?_
              | refine XC_seq ?_
              | refine XT_seq ?_
              | refine XT_block_same rfl ?_
              | refine XT_then_exit ?_
              | refine XC_exit ?_
              | refine Y_res (r_move rfl) rfl ?_
              | refine Y_res (r_assign rfl) rfl ?_
              | refine Y_res (r_add64 rfl rfl (by omega)) rfl ?_
              | refine Y_res (r_mul64 rfl rfl (by omega)) rfl ?_
              | refine Y_res (r_or rfl rfl) rfl ?_
              | refine Y_res (r_shl32 rfl rfl rfl) rfl ?_
              | refine Y_res (r_conv32 rfl) rfl ?_
              | refine Y_res (r_indexA0 rfl rfl (by omega)) rfl ?_
              | refine Y_res (r_indexS rfl rfl (by omega) (by first | omega | (simp only [List.length_set, List.length_replicate]; omega))) rfl ?_
              | refine Y_res (r_loadI rfl (by first | omega | (simp only [List.length_set, List.length_replicate]; omega))) rfl ?_
              | refine X_storeI rfl rfl (by first | omega | (simp only [List.length_set, List.length_replicate]; omega)) ?_
            refine XT_round (t + 1) (by omega) (by omega) ⟨rfl, rfl, rfl, rfl, rfl, rfl, trivial⟩ (fun w3 h3 => ?_)
            rw [← row_next l' t (by omega), hl', wd_at]
            rw [← hl']
            exact h3
          · repeat first
              | refine XC_region ?_
              | refine XC_tailF (by kernel_rfl) (by kernel_rfl) drw_hp ?_
              | refine X_nil ?_
              | refine XQ_nilX ?_
              | refine XC_seq ?_
              | refine XT_seq ?_
              | refine XT_block_normal ?_
              | refine XC_skip ?_
              | refine Y_res (r_move rfl) rfl ?_
              | refine Y_res (r_assign rfl) rfl ?_
              | refine Y_res (r_add64 rfl rfl (by omega)) rfl ?_
              | refine Y_res (r_add32 rfl rfl) rfl ?_
              | refine Y_res (r_sub64 rfl rfl (by omega)) rfl ?_
              | refine Y_res (r_xor rfl rfl) rfl ?_
              | refine Y_res (r_shr rfl rfl rfl) rfl ?_
              | refine Y_res (r_indexA0 rfl rfl (by omega)) rfl ?_
              | refine Y_res (r_indexA0T rfl rfl (by omega) (by omega)) rfl ?_
              | refine Y_res (r_loadI rfl (by first | omega | (simp only [List.length_set, List.length_replicate]; omega))) rfl ?_
              | refine X_storeI rfl rfl (by first | omega | (simp only [List.length_set, List.length_replicate]; omega)) ?_
              | refine Y_call (g := 43) rfl rfl (fun w1 hM => (turn_any _ (by decide) _ w1).mono fun e w2 h => ⟨h.1, hM.keep h.2⟩) ?_
            refine XT_round (t + 1) (by omega) (by omega) ⟨rfl, rfl, rfl, rfl, rfl, rfl, trivial⟩ (fun w3 h3 => ?_)
            rw [show ((t : Int) - 15).toNat = t - 15 by omega, show ((t : Int) - 2).toNat = t - 2 by omega, show ((t : Int) - 7).toNat = t - 7 by omega, show ((t : Int) - 16).toNat = t - 16 by omega] at h3
            rw [← row_next2 l' t (by omega) (by omega) _ rfl]
            exact h3
        · obtain rfl : t = 64 := by omega
          rw [row64]
          have hsl := sch_len l' 64
          repeat first
            | refine XC_region ?_
            | refine X_nil ?_
            | refine XC_seq ?_
            | refine XT_seq ?_
            | refine XC_block ?_
            | refine XT_block_same rfl ?_
            | refine XT_then_exit ?_
            | refine XC_exit ?_
            | refine Y_res (r_assign rfl) rfl ?_
            | (refine X_allocI rfl ?_; intro _ _)
            | refine X_storeWI rfl rfl (by rfl) (by rfl) ?_
            | refine Y_res (r_loadWI rfl (by rfl)) rfl ?_
          rename_i gv hgv
          refine XC_loop (ι := Nat) (fun t => t ≤ 64) (fun t => [(3, .slice A4 M.length cap4), (6, .pointer (some ⟨g6, 0, none⟩)), (7, .pointer (some ⟨g7, 0, none⟩)), (8, .int .i64 (64 * b : Nat)), (9, .pointer (some ⟨g9, 0, none⟩)), (14, .pointer (some ⟨gv, 0, none⟩)), (15, .int .i64 t)])
            (fun t => Hp w (fun _ => False) [Ch.ints gv .u32 (rnds KS (sch l' 64) s t).words 61, Ch.ints g9 .u32 (sch l' 64) 62, Ch.ints g6 .u32 s.words 61, Ch.ints g7 .u32 KS 62, Ch.sl A4 cap4 5 .u8 M]) (fun t => 64 - t) 0 (by omega) ⟨rfl, rfl, rfl, rfl, rfl, rfl, rfl, trivial⟩ (fun _ h => h) ?_
          intro t ht
          obtain ⟨q, hq⟩ : ∃ q, q = rnds KS (sch l' 64) s t := ⟨_, rfl⟩
          rw [← hq]
          have hwl : q.words.length = 8 := rfl
          repeat first
            | refine XC_region ?_
            | refine X_nil ?_
            | refine XC_seq ?_
            | refine XT_seq ?_
            | refine Y_res (r_move rfl) rfl ?_
            | refine Y_res (r_lss rfl rfl) rfl ?_
          refine XC_condP rfl (fun hlt => ?_) (fun hge => ?_)
          · repeat first
              | refine XC_region ?_
              | refine XC_quietF rfl (by kernel_rfl) (by kernel_rfl) drw_hp ?_
              | refine X_nil ?_
              | refine XQ_nil ?_
              | refine XC_seq ?_
              | refine XT_seq ?_
              | refine XC_block ?_
              | refine XC_skip ?_
              | refine Y_res (r_move rfl) rfl ?_
              | refine Y_res (r_assign rfl) rfl ?_
              | refine Y_res (r_add32 rfl rfl) rfl ?_
              | refine Y_res (r_and rfl rfl) rfl ?_
              | refine Y_res (r_xor rfl rfl) rfl ?_
              | refine Y_res (r_not rfl) rfl ?_
              | refine Y_res (r_indexA0 rfl rfl (by omega)) rfl ?_
              | refine Y_res (r_loadI rfl (by first | omega | (simp only [List.length_set, List.length_replicate]; omega))) rfl ?_
              | refine Y_call (g := 43) rfl rfl (fun w1 hM => (turn_any _ (by decide) _ w1).mono fun e w2 h => ⟨h.1, hM.keep h.2⟩) ?_
            refine XC_loop (ι := Nat) (fun i => i ≤ 7) (fun i => [(3, .slice A4 M.length cap4), (6, .pointer (some ⟨g6, 0, none⟩)), (7, .pointer (some ⟨g7, 0, none⟩)), (8, .int .i64 (64 * b : Nat)), (9, .pointer (some ⟨g9, 0, none⟩)), (14, .pointer (some ⟨gv, 0, none⟩)), (15, .int .i64 t), (16, .int .u32 (t1 (KS.getD t 0) ((sch l' 64).getD t 0) q)), (17, .int .u32 (t2 q)), (18, .int .i64 i)])
              (fun i => Hp w (fun _ => False) [Ch.ints gv .u32 (shf q i) 61, Ch.ints g9 .u32 (sch l' 64) 62, Ch.ints g6 .u32 s.words 61, Ch.ints g7 .u32 KS 62, Ch.sl A4 cap4 5 .u8 M]) (fun i => i) 7 (by omega) ⟨rfl, rfl, rfl, rfl, rfl, rfl, rfl, rfl, rfl, rfl, trivial⟩ (fun _ h => h) ?_
            intro i hi
            have hshl := shf_len q i hi
            repeat first
              | refine XC_region ?_
              | refine X_nil ?_
              | refine XC_seq ?_
              | refine XT_seq ?_
              | refine Y_res (r_move rfl) rfl ?_
              | refine Y_res (r_gtr rfl rfl) rfl ?_
            refine XC_condP rfl (fun hpos => ?_) (fun hz => ?_)
            · repeat first
                | refine XC_region ?_
                | refine X_nil ?_
                | refine XC_seq ?_
                | refine XT_seq ?_
                | refine XC_block ?_
                | refine XT_block_normal ?_
                | refine XC_skip ?_
                | refine Y_res (r_move rfl) rfl ?_
                | refine Y_res (r_assign rfl) rfl ?_
                | refine Y_res (r_sub64 rfl rfl (by omega)) rfl ?_
                | refine Y_res (r_indexA0 rfl rfl (by omega)) rfl ?_
                | refine Y_res (r_indexA0T rfl rfl (by omega) (by omega)) rfl ?_
                | refine Y_res (r_loadI rfl (by first | omega | (simp only [List.length_set, List.length_replicate]; omega))) rfl ?_
                | refine X_storeI rfl rfl (by first | omega | (simp only [List.length_set, List.length_replicate]; omega)) ?_
              refine XT_round (i - 1) (by omega) (by omega) ⟨rfl, rfl, rfl, rfl, rfl, rfl, rfl, rfl, rfl, by exact congrArg (fun q => some (Value.int .i64 q)) (by omega), trivial⟩ (fun w3 h3 => ?_)
              rw [show ((i : Int) - 1).toNat = i - 1 by omega, shf_set q i (by omega) hi] at h3
              exact h3
            · obtain rfl : i = 0 := by omega
              have hsh0 : (shf q 0).length = 8 := rfl
              repeat first
                | refine XC_region ?_
                | refine X_nil ?_
                | refine XC_seq ?_
                | refine XT_seq ?_
                | refine XT_block_normal ?_
                | refine XT_block_same rfl ?_
                | refine XT_then_exit ?_
                | refine XC_exit ?_
                | refine Y_res (r_move rfl) rfl ?_
                | refine Y_res (r_assign rfl) rfl ?_
                | refine Y_res (r_add64 rfl rfl (by omega)) rfl ?_
                | refine Y_res (r_add32 rfl rfl) rfl ?_
                | refine Y_res (r_indexA0 rfl rfl (by omega)) rfl ?_
                | refine Y_res (r_loadI rfl (by first | omega | (simp only [List.length_set, List.length_replicate]; omega))) rfl ?_
                | refine X_storeI rfl rfl (by first | omega | (simp only [List.length_set, List.length_replicate]; omega)) ?_
              refine XT_round (t + 1) (by omega) (by omega) ⟨rfl, rfl, rfl, rfl, rfl, rfl, rfl, trivial⟩ (fun w3 h3 => ?_)
              rw [show rnds KS (sch l' 64) s (t + 1) = rnd (KS.getD t 0) ((sch l' 64).getD t 0) q by rw [hq]; rfl]
              exact h3
          · obtain rfl : t = 64 := by omega
            repeat first
              | refine XC_region ?_
              | refine X_nil ?_
              | refine XC_seq ?_
              | refine XT_seq ?_
              | refine XC_block ?_
              | refine XT_block_same rfl ?_
              | refine XT_then_exit ?_
              | refine XC_exit ?_
              | refine Y_res (r_assign rfl) rfl ?_
            refine XC_loop (ι := Nat) (fun i => i ≤ 8) (fun i => [(3, .slice A4 M.length cap4), (6, .pointer (some ⟨g6, 0, none⟩)), (7, .pointer (some ⟨g7, 0, none⟩)), (8, .int .i64 (64 * b : Nat)), (14, .pointer (some ⟨gv, 0, none⟩)), (19, .int .i64 i)])
              (fun i => Hp w (fun _ => False) [Ch.ints gv .u32 q.words 61, Ch.ints g9 .u32 (sch l' 64) 62, Ch.ints g6 .u32 (mix s q i) 61, Ch.ints g7 .u32 KS 62, Ch.sl A4 cap4 5 .u8 M]) (fun i => 8 - i) 0 (by omega) ⟨rfl, rfl, rfl, rfl, rfl, rfl, trivial⟩ (fun _ h => h) ?_
            intro i hi
            have hml := mix_len s q i hi
            repeat first
              | refine XC_region ?_
              | refine X_nil ?_
              | refine XC_seq ?_
              | refine XT_seq ?_
              | refine Y_res (r_move rfl) rfl ?_
              | refine Y_res (r_lss rfl rfl) rfl ?_
            refine XC_condP rfl (fun hlt => ?_) (fun hge => ?_)
            · repeat first
                | refine XC_region ?_
                | refine XC_tailF (by kernel_rfl) (by kernel_rfl) drw_hp ?_
                | refine X_nil ?_
                | refine XQ_nilX ?_
                | refine XC_seq ?_
                | refine XT_seq ?_
                | refine XC_block ?_
                | refine XT_block_normal ?_
                | refine XC_skip ?_
                | refine Y_res (r_move rfl) rfl ?_
                | refine Y_res (r_assign rfl) rfl ?_
                | refine Y_res (r_add64 rfl rfl (by omega)) rfl ?_
                | refine Y_res (r_add32 rfl rfl) rfl ?_
                | refine Y_res (r_indexA0 rfl rfl (by omega)) rfl ?_
                | refine Y_res (r_loadI rfl (by first | omega | (simp only [List.length_set, List.length_replicate]; omega))) rfl ?_
                | refine X_storeI rfl rfl (by first | omega | (simp only [List.length_set, List.length_replicate]; omega)) ?_
              refine XT_round (i + 1) (by omega) (by omega) ⟨rfl, rfl, rfl, rfl, rfl, rfl, trivial⟩ (fun w3 h3 => ?_)
              rw [← mix_set _ _ i (by omega)]
              exact h3
            · obtain rfl : i = 8 := by omega
              repeat first
                | refine XC_region ?_
                | refine X_nil ?_
                | refine XT_seq ?_
                | refine XT_block_normal ?_
                | refine XT_block_same rfl ?_
                | refine XT_then_exit ?_
                | refine XC_exit ?_
                | refine Y_res (r_move rfl) rfl ?_
                | refine Y_res (r_assign rfl) rfl ?_
                | refine Y_res (r_add64 rfl rfl (by omega)) rfl ?_
              refine XT_round (b + 1) (by omega) (by omega) ⟨rfl, rfl, rfl, by exact congrArg (fun q => some (Value.int .i64 q)) (by omega), trivial⟩ (fun w3 h3 => ?_)
              rw [mix8] at h3
              rw [show stN KS M (b + 1) = s.add q by rw [hq, hs, hl']; rfl]
              exact h3.tail.tail
      · have hbl : 64 * b = M.length := by omega
        obtain ⟨F, hF⟩ : ∃ F, F = stN KS M b := ⟨_, rfl⟩
        rw [← hF]
        have hwl : F.words.length = 8 := rfl
        repeat first
          | refine XC_region ?_
          | refine X_nil ?_
          | refine XC_seq ?_
          | refine XT_seq ?_
          | refine XC_block ?_
          | refine XT_block_same rfl ?_
          | refine XT_then_exit ?_
          | refine XC_exit ?_
          | refine Y_res (r_assign rfl) rfl ?_
        refine XC_loop (ι := Option Addr × Nat × Nat) (fun i => i.2.2 ≤ 32) (fun i => [(6, .pointer (some ⟨g6, 0, none⟩)), (20, .slice i.1 (F.bytes.take i.2.2).length i.2.1), (21, .int .i64 i.2.2)])
          (fun i => Hp w (fun _ => False) [Ch.sl i.1 i.2.1 5 .u8 (F.bytes.take i.2.2), Ch.ints g6 .u32 F.words 61]) (fun i => 32 - i.2.2) (none, 0, 0) (by dsimp only; omega) ⟨rfl, rfl, rfl, trivial⟩ (fun w3 h3 => (h3.of_perm (ds := [Ch.ints g6 .u32 F.words 61, Ch.ints g7 .u32 KS 62, Ch.sl A4 cap4 5 .u8 M]) (List.Perm.refl _)).of_perm (List.Perm.refl _) |> fun h => (Hp.nilS (e := 5) (k := .u8) ⟨h.chg, fun c hc => h.sat c (by simp only [List.mem_singleton] at hc; subst hc; simp), fun c hc => h.own c (by simp only [List.mem_singleton] at hc; subst hc; simp), .cons (by simp) .nil⟩)) ?_
        rintro ⟨A5, cap5, i⟩ hi
        dsimp only at hi ⊢
        have hbl2 : (F.bytes.take i).length = i := by rw [List.length_take, bytes_len]; omega
        repeat first
          | refine XC_region ?_
          | refine X_nil ?_
          | refine XC_seq ?_
          | refine XT_seq ?_
          | refine Y_res (r_move rfl) rfl ?_
          | refine Y_res (r_lss rfl rfl) rfl ?_
        refine XC_condP rfl (fun hlt => ?_) (fun hge => ?_)
        · have hi32 : i < 32 := by omega
          repeat first
            | refine XC_region ?_
            | refine X_nil ?_
            | refine XC_seq ?_
            | refine XT_seq ?_
            | refine XC_block ?_
            | refine XT_block_normal ?_
            | refine XC_skip ?_
            | refine Y_res (r_move rfl) rfl ?_
            | refine Y_res (r_assign rfl) rfl ?_
            | refine Y_res (r_add64 rfl rfl (by omega)) rfl ?_
            | refine Y_res (r_sub64 rfl rfl (by omega)) rfl ?_
            | refine Y_res (r_mul64 rfl rfl (by omega)) rfl ?_
            | refine Y_res (r_rem rfl rfl (by omega)) rfl ?_
            | refine Y_res (r_quo rfl rfl (by omega)) rfl ?_
            | refine Y_res (r_conv8 rfl) rfl ?_
            | refine Y_res (r_indexA0 rfl rfl (by omega)) rfl ?_
            | refine Y_res (r_loadI rfl (by first | omega | (simp only [List.length_set, List.length_replicate]; omega))) rfl ?_
            | (refine X_buildS (by rfl) (by rfl) (by simp) rfl ?_; intro _ _)
            | (refine X_append rfl rfl (fun w_ h_ => rds_ints (Hp.head h_) (by simp) (by decide)) (by rfl) (by rfl) (by rfl) (by first | omega | (simp only [List.length_cons, List.length_nil]; omega)) (by first | omega | (simp only [List.length_cons, List.length_nil]; omega)) rfl ?_; intro _ _)
            | refine Y_res (r_shrV (s := 24 - 8 * (i % 4)) rfl rfl (by omega) (by simp only [IntKind.bits]; omega)) rfl ?_
          refine XT_round (_, _, i + 1) (by dsimp only; omega) (by dsimp only; omega) ⟨rfl, by dsimp only; rw [← bytes_succ F i hi32]; rfl, rfl, trivial⟩ (fun w3 h3 => ?_)
          dsimp only
          rw [← bytes_succ F i hi32]
          exact h3.tail
        · obtain rfl : i = 32 := by omega
          repeat first
            | refine XC_region ?_
            | refine X_nil ?_
            | refine XC_seq ?_
            | refine XT_seq ?_
            | refine XT_block_same rfl ?_
            | refine XT_then_exit ?_
            | refine XC_exit ?_
            | refine XC_ret ?_
            | refine Y_res (r_move rfl) rfl ?_
            | refine Y_res (r_assign rfl) rfl ?_
          refine XT_ret1 (.inl rfl) Tryd.results32 rfl (fun w3 h3 => ?_)
          have e8 : F.bytes.take 32 = sumS KS l := by
            rw [sumS, ← hM, hF, show b = M.length / 64 by omega]
            rfl
          rw [e8] at h3 ⊢
          exact ⟨_, rfl, ⟨A5, cap5, rfl, h3.head, fun j hj => (h3.own _ (List.mem_cons_self ..) j hj).resolve_left (fun h => h)⟩, h3.chg⟩
set_option maxHeartbeats 2000000 in
/-- Whether two lists are one. -/
theorem same_any (a b : List Int) (A B : Option Addr) (ca cb : Nat) (w : World) (ha : Rds w A ca .u8 a) (hb : Rds w B cb .u8 b) :
    Calls Tryd.prog 19 #[.slice A a.length ca, .slice B b.length cb] w fun e w' => e = .returned (.bool (decide (a = b))) ∧ Chg (fun _ => False) w w' := by
  have hla := ha.le
  have hlb := hb.le
  have hca := ha.cap
  refine calls_of_X (vs := [_, _]) (M := Hp w (fun _ => False) []) Tryd.func19 rfl Tryd.ntmps19 rfl (Hp.nil _ _) ?_
  repeat first
    | refine XC_region ?_
    | refine X_nil ?_
    | refine XC_seq ?_
    | refine XT_seq ?_
    | refine Y_res (r_move rfl) rfl ?_
    | refine Y_res (r_assign rfl) rfl ?_
    | refine Y_res (r_neq rfl rfl) rfl ?_
    | refine Y_res (r_len rfl) rfl ?_
  refine XC_condP rfl (fun hne => ?_) (fun heq => ?_)
  · repeat first
      | refine XC_region ?_
      | refine X_nil ?_
      | refine XC_seq ?_
      | refine XT_seq ?_
      | refine XT_then_ret ?_
      | refine XC_ret ?_
      | refine Y_res (r_assign rfl) rfl ?_
    refine XT_ret1 (.inl rfl) Tryd.results19 rfl (fun w' h => ?_)
    exact ⟨by rw [decide_eq_false (fun e => hne (by rw [e]))], h.chg⟩
  · have hll : a.length = b.length := by omega
    repeat first
      | refine XC_region ?_
      | refine X_nil ?_
      | refine XC_seq ?_
      | refine XT_seq ?_
      | refine XC_block ?_
      | refine XC_skip ?_
      | refine Y_res (r_assign rfl) rfl ?_
    refine XC_loop (ι := Nat) (fun i => i ≤ a.length ∧ ∀ j, j < i → a.getD j 0 = b.getD j 0) (fun i => [(0, .slice A a.length ca), (1, .slice B b.length cb), (5, .int .i64 i)]) (fun i => Hp w (fun _ => False) []) (fun i => a.length - i) 0 ⟨by omega, fun j hj => by omega⟩ ⟨rfl, rfl, rfl, trivial⟩ (fun _ h => h) ?_
    intro i hi
    obtain ⟨hi1, hi2⟩ := hi
    have HI := Lib.hid hi2
    clear hi2
    repeat first
      | refine XC_region ?_
      | refine X_nil ?_
      | refine XC_seq ?_
      | refine XT_seq ?_
      | refine Y_res (r_move rfl) rfl ?_
      | refine Y_res (r_lss rfl rfl) rfl ?_
      | refine Y_res (r_len rfl) rfl ?_
    refine XC_condP rfl (fun hlt => ?_) (fun hge => ?_)
    · repeat first
        | refine XC_quietF rfl (by kernel_rfl) (by kernel_rfl) drw_hp ?_
        | refine XQ_nil ?_
        | refine XC_seq ?_
        | refine XT_seq ?_
        | refine XC_block ?_
        | refine XC_skip ?_
        | refine Y_res (r_move rfl) rfl ?_
        | refine Y_res (r_neq rfl rfl) rfl ?_
        | refine Y_res (r_indexR rfl rfl (by assumption) (by omega) (by omega)) rfl ?_
        | refine Y_res (r_loadR rfl (by assumption) (by first | exact old_false | assumption) (by omega)) rfl ?_
      refine XC_condP rfl (fun hne => ?_) (fun heq2 => ?_)
      · repeat first
          | refine XC_region ?_
          | refine X_nil ?_
          | refine XC_seq ?_
          | refine XT_seq ?_
          | refine XT_block_ret ?_
          | refine XT_then_ret ?_
          | refine XC_ret ?_
          | refine Y_res (r_assign rfl) rfl ?_
        refine XT_ret1 (.inl rfl) Tryd.results19 rfl (fun w' h => ?_)
        exact ⟨by rw [decide_eq_false (fun e => hne (by rw [e]))], h.chg⟩
      · repeat first
          | refine XC_region ?_
          | refine X_nil ?_
          | refine XT_seq ?_
          | refine XT_block_normal ?_
          | refine XC_skip ?_
          | refine Y_res (r_move rfl) rfl ?_
          | refine Y_res (r_assign rfl) rfl ?_
          | refine Y_res (r_add64 rfl rfl (by omega)) rfl ?_
        refine XT_round (i + 1) ⟨by omega, fun j hj => ?_⟩ (by omega) ⟨rfl, rfl, rfl, trivial⟩ (fun _ h => h)
        rcases Nat.lt_or_ge j i with h | h
        · exact HI.out j h
        · obtain rfl : j = i := by omega
          exact Decidable.not_not.1 heq2
    · repeat first
        | refine XC_region ?_
        | refine X_nil ?_
        | refine XC_seq ?_
        | refine XT_seq ?_
        | refine XT_block_same rfl ?_
        | refine XT_then_exit ?_
        | refine XC_exit ?_
        | refine XC_ret ?_
        | refine Y_res (r_assign rfl) rfl ?_
      refine XT_ret1 (.inl rfl) Tryd.results19 rfl (fun w' h => ?_)
      refine ⟨?_, h.chg⟩
      rw [decide_eq_true]
      refine List.ext_getElem hll (fun j h1 h2 => ?_)
      have := HI.out j (by omega)
      rw [List.getD_eq_getElem?_getD, List.getD_eq_getElem?_getD, List.getElem?_eq_getElem h1, List.getElem?_eq_getElem h2] at this
      exact this
end Go.Proofs.YtgnhpkdhicfeiaaDoor.NSha
