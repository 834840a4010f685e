/- Back, walked. -/
import Derived.Test.YtoednaebdfohbaaNRing2
namespace Go.Proofs.Ytoednaebdfohbaa.NRing
open Go Go.RowKit Go.Proofs.Ytoednaebdfohbaa.MX Go.Proofs.Ytoednaebdfohbaa.PRing
set_option linter.unusedVariables false
set_option linter.unusedSimpArgs false
theorem mul_bd2 {z x y : Int} (hz : 0 ≤ z ∧ z < 8380417) (hx : 0 ≤ x ∧ x < 8380417) (hy : 0 ≤ y ∧ y < 8380417) : 0 ≤ z * (y - x + 8380417) ∧ z * (y - x + 8380417) ≤ 140462769852416 := by
  have h1 := Int.mul_nonneg hz.1 (show 0 ≤ y - x + 8380417 by omega)
  have h2 : z * (y - x + 8380417) ≤ 8380416 * 16760833 := Int.mul_le_mul (by omega) (by omega) (by omega) (by decide)
  omega
theorem bckF_ok : ∀ (s : Nat) {l : List Int}, Ok l → Ok (bckF s l)
  | 0, _, h => h
  | s + 1, _, _ => bckF_ok s (BL_ok _ _)
theorem pw_scale : pwF 24 1 256 8380415 = 8347681 := by decide +kernel
set_option maxHeartbeats 2000000 in
set_option maxRecDepth 100000 in
theorem back_any (a : List Int) (A : Option Addr) (ca : Nat) (w : World) (ha : Rds w A ca .i64 a) :
    Calls Try.prog 13 #[.slice A a.length ca] w fun e w' => Told w w' e (vd a = true) (bck a) := by
  refine calls_of_X (vs := [_]) (M := Hp w (fun _ => False) []) Try.func13 rfl Try.ntmps13 rfl (Hp.nil _ _) ?_
  repeat first
    | refine XC_region ?_
    | refine X_nil ?_
    | refine XC_seq ?_
    | refine XT_seq ?_
    | refine Y_res (r_move rfl) rfl ?_
    | refine Y_res (r_assign rfl) rfl ?_
    | refine Y_res (r_notB rfl) rfl ?_
    | refine Y_call (g := 24) rfl rfl (fun w1 hM => (valid_any a A ca w1 (ha.old hM old_false)).mono fun e w2 h => ⟨h.1, hM.keep h.2⟩) ?_
  refine XC_condN rfl (fun hva => ?_) (fun hva => ?_)
  · repeat first
      | refine XC_region ?_
      | refine X_nil ?_
      | refine XC_seq ?_
      | refine XT_seq ?_
      | refine XT_then_ret ?_
      | refine XC_ret ?_
      | refine Y_res (r_assign rfl) rfl ?_
    exact XT_ret2 (.inl rfl) Try.results13 rfl rfl (fun w' h => ⟨h.chg, by rw [if_neg (by rw [hva]; simp)]⟩)
  obtain ⟨hla, hra⟩ := vd_iff.1 hva
  rw [hla] at hra
  have hoa : Ok a := ⟨hla, hra⟩
  repeat first
    | refine XC_region ?_
    | refine XC_seq ?_
    | refine XT_seq ?_
    | refine XC_skip ?_
    | refine Y_res (r_move rfl) rfl ?_
    | (refine X_make rfl rfl (by omega) (by omega) (by omega) rfl ?_; intro _ _)
  refine X_append rfl rfl (fun w1 h => ha.old h old_false) (by rfl) (by rfl) (by rfl) (by rw [hla]; decide) (by rw [hla]; decide) rfl (fun A1 cap1 => ?_)
  rw [show List.replicate 0 (0 : Int) ++ a = a from rfl, hla]
  repeat first
    | refine XC_region ?_
    | refine X_nil ?_
    | refine XC_seq ?_
    | refine XT_seq ?_
    | refine XC_block ?_
    | refine Y_res (r_assign rfl) rfl ?_
    | (refine X_allocI rfl ?_; intro _ _)
    | refine X_storeWI rfl rfl (by rfl) (by rfl) ?_
    | refine Y_call (g := 30) rfl rfl (fun w1 hM => (zetas_any w1).mono fun e w2 h => ⟨h.1, hM.keep h.2⟩) ?_
  rename_i gz hgz
  refine XC_loop (ι := Nat × List Int) (fun i => i.1 < 9 ∧ Ok i.2 ∧ bckF i.1 i.2 = bckF 8 a) (fun i => [(4, .slice A1 256 cap1), (5, .pointer (some ⟨gz, 0, none⟩)), (6, .int .i64 (2 ^ i.1 : Nat)), (7, .int .i64 (hf (9 - i.1) : Nat))])
    (fun i => Hp w (fun _ => False) [Ch.ints gz .i64 ZS 36, Ch.sl A1 cap1 3 .i64 i.2]) (fun i => i.1) (8, a) ⟨by dsimp only; omega, hoa, rfl⟩ ⟨rfl, rfl, congrArg (fun q => some (Value.int .i64 q)) (show (256 : Int) = ((2 ^ 8 : Nat) : Int) by decide), congrArg (fun q => some (Value.int .i64 q)) (show (1 : Int) = ((hf (9 - 8) : Nat) : Int) by decide), trivial⟩ (fun _ h => h) ?_
  rintro ⟨s, l⟩ ⟨hs, hl, hthr⟩
  dsimp only at hs hl hthr ⊢
  obtain ⟨hf0, hf1⟩ := hb_facts s hs
  have hnext : s ≠ 0 → bckF (s - 1) (BL (hf (9 - s)) l) = bckF s l := fun h => by
    obtain ⟨r, rfl⟩ : ∃ r, s = r + 1 := ⟨s - 1, by omega⟩
    rfl
  obtain ⟨H, hH⟩ : ∃ H, H = hf (9 - s) := ⟨_, rfl⟩
  obtain ⟨K, hK⟩ : ∃ K, K = 2 ^ s := ⟨_, rfl⟩
  rw [← hH, ← hK] at hf1
  rw [← hH] at hf0 hnext
  rw [← hH, ← hK]
  repeat first
    | refine XC_region ?_
    | refine X_nil ?_
    | refine XC_seq ?_
    | refine XT_seq ?_
    | refine Y_res (r_move rfl) rfl ?_
    | refine Y_res (r_lss rfl rfl) rfl ?_
  refine XC_condP rfl (fun hlt => ?_) (fun hge => ?_)
  · have hs0 : s ≠ 0 := fun e => by have := hf0 e; omega
    obtain ⟨hL, hh2, hk2, hk1, hk3, hk4, hHp, hH128⟩ := hf1 hs0
    have hnext := hnext hs0
    clear hf0 hf1
    have hzl := zs_len
    repeat first
      | refine XC_region ?_
      | refine X_nil ?_
      | refine XC_seq ?_
      | refine XT_seq ?_
      | refine XC_block ?_
      | refine XC_skip ?_
      | refine Y_res (r_assign rfl) rfl ?_
    refine XC_loop (ι := Nat × Nat) (fun i => i.1 = 2 * H * i.2 ∧ i.1 ≤ 256 ∧ i.2 ≤ 128 / H) (fun i => [(4, .slice A1 256 cap1), (5, .pointer (some ⟨gz, 0, none⟩)), (6, .int .i64 (K - i.2 : Nat)), (7, .int .i64 H), (8, .int .i64 i.1)])
      (fun i => Hp w (fun _ => False) [Ch.ints gz .i64 ZS 36, Ch.sl A1 cap1 3 .i64 (stP bu bv bz H l i.2 0)]) (fun i => 256 - i.1) (0, 0) ⟨rfl, by decide, Nat.zero_le _⟩ ⟨rfl, rfl, rfl, rfl, rfl, trivial⟩ (fun _ h => by rw [stP_0 hl.1]; exact h) ?_
    rintro ⟨F, m⟩ ⟨hF, hF256, hmH⟩
    dsimp only at hF hF256 hmH ⊢
    repeat first
      | refine XC_region ?_
      | refine X_nil ?_
      | refine XC_seq ?_
      | refine XT_seq ?_
      | refine Y_res (r_move rfl) rfl ?_
      | refine Y_res (r_lss rfl rfl) rfl ?_
    refine XC_condP rfl (fun hlt => ?_) (fun hge => ?_)
    · have hm : 2 * H * m < 256 := by omega
      obtain ⟨hi0, hi1, _⟩ := idx hL (j := 0) hHp hm
      have hFm : F + 2 * H = 2 * H * (m + 1) := by rw [Nat.mul_succ, ← hF]
      have hFH : F + 2 * H ≤ 256 := by omega
      obtain ⟨kk, hkk⟩ : ∃ kk, kk = K - m - 1 := ⟨_, rfl⟩
      have hk : kk + 1 = K - m ∧ kk ≤ 255 := by omega
      have hkz : kk = bz H m := by unfold bz; omega
      repeat first
        | refine XC_region ?_
        | refine X_nil ?_
        | refine XC_seq ?_
        | refine XT_seq ?_
        | refine XC_block ?_
        | refine XC_skip ?_
        | refine Y_res (r_move rfl) rfl ?_
        | refine Y_res (r_assign rfl) rfl ?_
        | refine Y_res (r_sub64 rfl rfl (by omega)) rfl ?_
      refine XC_loop (ι := Nat) (fun p => F ≤ p ∧ p ≤ F + H) (fun p => [(4, .slice A1 256 cap1), (5, .pointer (some ⟨gz, 0, none⟩)), (6, .int .i64 kk), (7, .int .i64 H), (8, .int .i64 F), (9, .int .i64 p)])
        (fun p => Hp w (fun _ => False) [Ch.ints gz .i64 ZS 36, Ch.sl A1 cap1 3 .i64 (stP bu bv bz H l m (p - F))]) (fun p => F + H - p) F ⟨by omega, by omega⟩ ⟨rfl, rfl, congrArg (fun q => some (Value.int .i64 q)) (by omega), rfl, rfl, rfl, trivial⟩ (fun _ h => by rw [Nat.sub_self]; exact h) ?_
      rintro p ⟨hp1, hp2⟩
      have hsl : (stP bu bv bz H l m (p - F)).length = 256 := stP_len
      repeat first
        | refine XC_region ?_
        | refine X_nil ?_
        | refine XC_seq ?_
        | refine XT_seq ?_
        | refine Y_res (r_move rfl) rfl ?_
        | refine Y_res (r_add64 rfl rfl (by omega)) rfl ?_
        | refine Y_res (r_lss rfl rfl) rfl ?_
      refine XC_condP rfl (fun hlt => ?_) (fun hge => ?_)
      · have hj : p - F < H := by omega
        have hrd := stP_rd (u := bu) (v := bv) (zi := bz) (l := l) hL hj hm
        have hst := stP_set (u := bu) (v := bv) (zi := bz) (l := l) hL hj hm
        rw [← hF, show F + (p - F) = p by omega, show p - F + 1 = p + 1 - F by omega, ← hkz] at hst
        rw [← hF, show F + (p - F) = p by omega] at hrd
        obtain ⟨hrd1, hrd2⟩ := hrd
        have hx := hl.2 p (by omega)
        have hy := hl.2 (p + H) (by omega)
        have hz := zs_ok kk (by omega)
        have hb := mul_bd2 hz hx hy
        rw [← hrd1] at hx hb
        rw [← hrd2] at hy hb
        have hst := Lib.hid hst
        clear hF hFm hkz hi0 hi1 hm hkk hmH hk1 hk2 hk3
        repeat first
          | refine XC_quietF rfl (by kernel_rfl) (by kernel_rfl) drw_hp ?_
          | refine XQ_nil ?_
          | refine XC_seq ?_
          | refine XT_seq ?_
          | refine XC_block ?_
          | refine XC_skip ?_
          | refine Y_res (r_move rfl) rfl ?_
          | refine Y_res (r_assign rfl) rfl ?_
          | refine Y_res (r_add64 rfl rfl (by omega)) rfl ?_
          | refine Y_res (r_indexS rfl rfl (by omega) (by first | omega | (simp only [List.length_set, List.length_replicate]; omega))) rfl ?_
          | refine Y_res (r_loadI rfl (by first | omega | (simp only [List.length_set, List.length_replicate]; omega))) rfl ?_
        refine XC_tree [2, 3, 4, 5, 10, 13, 14, 15, 16] [0, 1, 6, 7, 8, 9, 19] 20 7 (by kernel_rfl) (by kernel_rfl) (by kernel_rfl) drw_hp rfl rfl ?_
        repeat first
          | refine XQ_node ?_
          | refine XQ_nilH ?_
          | refine Y_res (r_move rfl) rfl ?_
          | refine Y_res (r_add64 rfl rfl (by omega)) rfl ?_
          | refine Y_res (r_sub64 rfl rfl (by omega)) rfl ?_
          | refine Y_res (r_rem rfl rfl (by omega)) rfl ?_
          | refine Y_res (r_indexS rfl rfl (by omega) (by first | omega | (simp only [List.length_set, List.length_replicate]; omega))) rfl ?_
        refine TM_step [11, 20] (by kernel_rfl) (by simp) (by kernel_rfl) ⟨of_at rfl ?_, of_at rfl ?_, trivial⟩
        rotate_left
        · repeat first
            | refine XT_node ?_
            | refine X_nil ?_
            | refine X_storeI rfl rfl (by first | omega | (simp only [List.length_set, List.length_replicate]; omega)) ?_
          refine TN_step [11] (by kernel_rfl) (by simp) (by kernel_rfl) ⟨of_at rfl ?_, trivial⟩
          repeat first
            | refine XT_node ?_
            | refine X_nil ?_
            | refine Y_res (r_indexA0 rfl rfl (by omega)) rfl ?_
          refine TN_step [12] (by kernel_rfl) (by simp) (by kernel_rfl) ⟨of_at rfl ?_, trivial⟩
          repeat first
            | refine XT_node ?_
            | refine X_nil ?_
            | refine Y_res (r_loadI rfl (by first | omega | (simp only [List.length_set, List.length_replicate]; omega))) rfl ?_
          refine TN_step [17] (by kernel_rfl) (by simp) (by kernel_rfl) ⟨of_at rfl ?_, trivial⟩
          repeat first
            | refine XT_node ?_
            | refine X_nil ?_
            | refine Y_res (r_mul64 rfl rfl (by omega)) rfl ?_
          refine TN_step [18] (by kernel_rfl) (by simp) (by kernel_rfl) ⟨of_at rfl ?_, trivial⟩
          repeat first
            | refine XT_node ?_
            | refine X_nil ?_
            | refine Y_res (r_rem rfl rfl (by omega)) rfl ?_
          refine TN_step [21] (by kernel_rfl) (by simp) (by kernel_rfl) ⟨of_at rfl ?_, trivial⟩
          repeat first
            | refine XT_node ?_
            | refine X_nil ?_
            | refine Y_res (r_indexS rfl rfl (by omega) (by first | omega | (simp only [List.length_set, List.length_replicate]; omega))) rfl ?_
          refine TN_step [22] (by kernel_rfl) (by simp) (by kernel_rfl) ⟨of_at rfl ?_, trivial⟩
          repeat first
            | refine XT_node ?_
            | refine X_nil ?_
            | refine X_storeI rfl rfl (by first | omega | (simp only [List.length_set, List.length_replicate]; omega)) ?_
          refine TN_end (by kernel_rfl) ?_
          repeat first
            | refine XC_region ?_
            | refine X_nil ?_
            | refine XT_seq ?_
            | refine XT_block_normal ?_
            | refine Y_res (r_move rfl) rfl ?_
            | refine Y_res (r_assign rfl) rfl ?_
            | refine Y_res (r_add64 rfl rfl (by omega)) rfl ?_
          refine XT_round (p + 1) ⟨by omega, by omega⟩ (by omega) ⟨rfl, rfl, rfl, rfl, rfl, rfl, trivial⟩ (fun w3 h3 => ?_)
          rw [hrd1, hrd2] at h3
          rw [← hst.out]
          exact h3
        repeat first
          | refine XQ_node ?_
          | refine Y_res (r_indexA0 rfl rfl (by omega)) rfl ?_
        refine TM_step [12, 20] (by kernel_rfl) (by simp) (by kernel_rfl) ⟨of_at rfl ?_, of_at rfl ?_, trivial⟩
        rotate_left
        · repeat first
            | refine XT_node ?_
            | refine X_nil ?_
            | refine X_storeI rfl rfl (by first | omega | (simp only [List.length_set, List.length_replicate]; omega)) ?_
          refine TN_step [12] (by kernel_rfl) (by simp) (by kernel_rfl) ⟨of_at rfl ?_, trivial⟩
          repeat first
            | refine XT_node ?_
            | refine X_nil ?_
            | refine Y_res (r_loadI rfl (by first | omega | (simp only [List.length_set, List.length_replicate]; omega))) rfl ?_
          refine TN_step [17] (by kernel_rfl) (by simp) (by kernel_rfl) ⟨of_at rfl ?_, trivial⟩
          repeat first
            | refine XT_node ?_
            | refine X_nil ?_
            | refine Y_res (r_mul64 rfl rfl (by omega)) rfl ?_
          refine TN_step [18] (by kernel_rfl) (by simp) (by kernel_rfl) ⟨of_at rfl ?_, trivial⟩
          repeat first
            | refine XT_node ?_
            | refine X_nil ?_
            | refine Y_res (r_rem rfl rfl (by omega)) rfl ?_
          refine TN_step [21] (by kernel_rfl) (by simp) (by kernel_rfl) ⟨of_at rfl ?_, trivial⟩
          repeat first
            | refine XT_node ?_
            | refine X_nil ?_
            | refine Y_res (r_indexS rfl rfl (by omega) (by first | omega | (simp only [List.length_set, List.length_replicate]; omega))) rfl ?_
          refine TN_step [22] (by kernel_rfl) (by simp) (by kernel_rfl) ⟨of_at rfl ?_, trivial⟩
          repeat first
            | refine XT_node ?_
            | refine X_nil ?_
            | refine X_storeI rfl rfl (by first | omega | (simp only [List.length_set, List.length_replicate]; omega)) ?_
          refine TN_end (by kernel_rfl) ?_
          repeat first
            | refine XC_region ?_
            | refine X_nil ?_
            | refine XT_seq ?_
            | refine XT_block_normal ?_
            | refine Y_res (r_move rfl) rfl ?_
            | refine Y_res (r_assign rfl) rfl ?_
            | refine Y_res (r_add64 rfl rfl (by omega)) rfl ?_
          refine XT_round (p + 1) ⟨by omega, by omega⟩ (by omega) ⟨rfl, rfl, rfl, rfl, rfl, rfl, trivial⟩ (fun w3 h3 => ?_)
          rw [hrd1, hrd2] at h3
          rw [← hst.out]
          exact h3
        repeat first
          | refine XQ_node ?_
          | refine Y_res (r_loadI rfl (by first | omega | (simp only [List.length_set, List.length_replicate]; omega))) rfl ?_
        refine TM_step [17, 20] (by kernel_rfl) (by simp) (by kernel_rfl) ⟨of_at rfl ?_, of_at rfl ?_, trivial⟩
        rotate_left
        · repeat first
            | refine XT_node ?_
            | refine X_nil ?_
            | refine X_storeI rfl rfl (by first | omega | (simp only [List.length_set, List.length_replicate]; omega)) ?_
          refine TN_step [17] (by kernel_rfl) (by simp) (by kernel_rfl) ⟨of_at rfl ?_, trivial⟩
          repeat first
            | refine XT_node ?_
            | refine X_nil ?_
            | refine Y_res (r_mul64 rfl rfl (by omega)) rfl ?_
          refine TN_step [18] (by kernel_rfl) (by simp) (by kernel_rfl) ⟨of_at rfl ?_, trivial⟩
          repeat first
            | refine XT_node ?_
            | refine X_nil ?_
            | refine Y_res (r_rem rfl rfl (by omega)) rfl ?_
          refine TN_step [21] (by kernel_rfl) (by simp) (by kernel_rfl) ⟨of_at rfl ?_, trivial⟩
          repeat first
            | refine XT_node ?_
            | refine X_nil ?_
            | refine Y_res (r_indexS rfl rfl (by omega) (by first | omega | (simp only [List.length_set, List.length_replicate]; omega))) rfl ?_
          refine TN_step [22] (by kernel_rfl) (by simp) (by kernel_rfl) ⟨of_at rfl ?_, trivial⟩
          repeat first
            | refine XT_node ?_
            | refine X_nil ?_
            | refine X_storeI rfl rfl (by first | omega | (simp only [List.length_set, List.length_replicate]; omega)) ?_
          refine TN_end (by kernel_rfl) ?_
          repeat first
            | refine XC_region ?_
            | refine X_nil ?_
            | refine XT_seq ?_
            | refine XT_block_normal ?_
            | refine Y_res (r_move rfl) rfl ?_
            | refine Y_res (r_assign rfl) rfl ?_
            | refine Y_res (r_add64 rfl rfl (by omega)) rfl ?_
          refine XT_round (p + 1) ⟨by omega, by omega⟩ (by omega) ⟨rfl, rfl, rfl, rfl, rfl, rfl, trivial⟩ (fun w3 h3 => ?_)
          rw [hrd1, hrd2] at h3
          rw [← hst.out]
          exact h3
        repeat first
          | refine XQ_node ?_
          | refine Y_res (r_mul64 rfl rfl (by omega)) rfl ?_
        refine TM_step [18, 20] (by kernel_rfl) (by simp) (by kernel_rfl) ⟨of_at rfl ?_, of_at rfl ?_, trivial⟩
        rotate_left
        · repeat first
            | refine XT_node ?_
            | refine X_nil ?_
            | refine X_storeI rfl rfl (by first | omega | (simp only [List.length_set, List.length_replicate]; omega)) ?_
          refine TN_step [18] (by kernel_rfl) (by simp) (by kernel_rfl) ⟨of_at rfl ?_, trivial⟩
          repeat first
            | refine XT_node ?_
            | refine X_nil ?_
            | refine Y_res (r_rem rfl rfl (by omega)) rfl ?_
          refine TN_step [21] (by kernel_rfl) (by simp) (by kernel_rfl) ⟨of_at rfl ?_, trivial⟩
          repeat first
            | refine XT_node ?_
            | refine X_nil ?_
            | refine Y_res (r_indexS rfl rfl (by omega) (by first | omega | (simp only [List.length_set, List.length_replicate]; omega))) rfl ?_
          refine TN_step [22] (by kernel_rfl) (by simp) (by kernel_rfl) ⟨of_at rfl ?_, trivial⟩
          repeat first
            | refine XT_node ?_
            | refine X_nil ?_
            | refine X_storeI rfl rfl (by first | omega | (simp only [List.length_set, List.length_replicate]; omega)) ?_
          refine TN_end (by kernel_rfl) ?_
          repeat first
            | refine XC_region ?_
            | refine X_nil ?_
            | refine XT_seq ?_
            | refine XT_block_normal ?_
            | refine Y_res (r_move rfl) rfl ?_
            | refine Y_res (r_assign rfl) rfl ?_
            | refine Y_res (r_add64 rfl rfl (by omega)) rfl ?_
          refine XT_round (p + 1) ⟨by omega, by omega⟩ (by omega) ⟨rfl, rfl, rfl, rfl, rfl, rfl, trivial⟩ (fun w3 h3 => ?_)
          rw [hrd1, hrd2] at h3
          rw [← hst.out]
          exact h3
        repeat first
          | refine XQ_node ?_
          | refine Y_res (r_rem rfl rfl (by omega)) rfl ?_
        refine TM_step [20] (by kernel_rfl) (by simp) (by kernel_rfl) ⟨of_at rfl ?_, trivial⟩
        repeat first
          | refine XT_node ?_
          | refine X_nil ?_
          | refine X_storeI rfl rfl (by first | omega | (simp only [List.length_set, List.length_replicate]; omega)) ?_
        refine TN_step [21] (by kernel_rfl) (by simp) (by kernel_rfl) ⟨of_at rfl ?_, trivial⟩
        repeat first
          | refine XT_node ?_
          | refine X_nil ?_
          | refine Y_res (r_indexS rfl rfl (by omega) (by first | omega | (simp only [List.length_set, List.length_replicate]; omega))) rfl ?_
        refine TN_step [22] (by kernel_rfl) (by simp) (by kernel_rfl) ⟨of_at rfl ?_, trivial⟩
        repeat first
          | refine XT_node ?_
          | refine X_nil ?_
          | refine X_storeI rfl rfl (by first | omega | (simp only [List.length_set, List.length_replicate]; omega)) ?_
        refine TN_end (by kernel_rfl) ?_
        repeat first
          | refine XC_region ?_
          | refine X_nil ?_
          | refine XT_seq ?_
          | refine XT_block_normal ?_
          | refine Y_res (r_move rfl) rfl ?_
          | refine Y_res (r_assign rfl) rfl ?_
          | refine Y_res (r_add64 rfl rfl (by omega)) rfl ?_
        refine XT_round (p + 1) ⟨by omega, by omega⟩ (by omega) ⟨rfl, rfl, rfl, rfl, rfl, rfl, trivial⟩ (fun w3 h3 => ?_)
        rw [hrd1, hrd2] at h3
        rw [← hst.out]
        exact h3
      · obtain rfl : p = F + H := by omega
        rw [show F + H - F = H by omega, stP_next hL m]
        clear hkz
        repeat first
          | refine XC_region ?_
          | refine X_nil ?_
          | refine XT_seq ?_
          | refine XT_block_normal ?_
          | refine XT_block_same rfl ?_
          | refine XT_then_exit ?_
          | refine XC_exit ?_
          | refine Y_res (r_move rfl) rfl ?_
          | refine Y_res (r_assign rfl) rfl ?_
          | refine Y_res (r_add64 rfl rfl (by omega)) rfl ?_
          | refine Y_res (r_mul64 rfl rfl (by omega)) rfl ?_
        refine XT_round (F + 2 * H, m + 1) ⟨hFm, by dsimp only; omega, by dsimp only; omega⟩ (by dsimp only; omega) ⟨rfl, rfl, by dsimp only; exact congrArg (fun q => some (Value.int .i64 q)) (by omega), rfl, by dsimp only; exact congrArg (fun q => some (Value.int .i64 q)) (by omega), trivial⟩ (fun w3 h3 => h3)
    · have hF2 : F = 256 := by omega
      have hm := idx5 hL (m := m) (by omega)
      rw [stP_end hL (by omega)]
      repeat first
        | refine XC_region ?_
        | refine X_nil ?_
        | refine XT_seq ?_
        | refine XT_block_normal ?_
        | refine XT_block_same rfl ?_
        | refine XT_then_exit ?_
        | refine XC_exit ?_
        | refine Y_res (r_move rfl) rfl ?_
        | refine Y_res (r_assign rfl) rfl ?_
        | refine Y_res (r_mul64 rfl rfl (by omega)) rfl ?_
      refine XT_round (s - 1, BL H l) ⟨by dsimp only; omega, BL_ok _ _, hnext.trans hthr⟩ (by dsimp only; omega) ⟨rfl, rfl, by dsimp only; exact congrArg (fun q => some (Value.int .i64 q)) (by omega), by dsimp only; exact congrArg (fun q => some (Value.int .i64 q)) (by omega), trivial⟩ (fun w3 h3 => h3)
  · obtain rfl : s = 0 := by
      rcases Nat.eq_zero_or_pos s with h | h
      · exact h
      · have := (hf1 (by omega)).2.2.2.2.2.2.2
        omega
    have hb8 : l = bckF 8 a := hthr
    clear hf0 hf1 hthr hge hH hK
    repeat first
      | refine XC_region ?_
      | refine X_nil ?_
      | refine XC_seq ?_
      | refine XT_seq ?_
      | refine XC_block ?_
      | refine XT_block_same rfl ?_
      | refine XT_then_exit ?_
      | refine XC_exit ?_
      | refine Y_res (r_move rfl) rfl ?_
      | refine Y_res (r_assign rfl) rfl ?_
      | refine Y_res (r_len rfl) rfl ?_
      | refine Y_call (g := 31) rfl rfl (fun w1 hM => (power_any 24 256 8380415 w1 (by decide) (by decide)).mono fun e w2 h => ⟨h.1, hM.keep h.2⟩) ?_
    rw [pw_scale]
    skip
    refine XC_loop (ι := Nat) (fun i => i ≤ 256) (fun i => [(4, .slice A1 256 cap1), (12, .int .i64 8347681), (74, .slice A1 256 cap1), (75, .int .i64 256), (76, .int .i64 i)])
      (fun i => Hp w (fun _ => False) [Ch.ints gz .i64 ZS 36, Ch.sl A1 cap1 3 .i64 (scP 8347681 l i)]) (fun i => 256 - i) 0 (by omega) ⟨rfl, rfl, rfl, rfl, rfl, trivial⟩ (fun _ h => by rw [scP_0 hl.1]; exact h) ?_
    intro i hi
    have hsl : (scP 8347681 l i).length = 256 := scP_len
    repeat first
      | refine XC_region ?_
      | refine X_nil ?_
      | refine XC_seq ?_
      | refine XT_seq ?_
      | refine Y_res (r_lss rfl rfl) rfl ?_
    refine XC_condP rfl (fun hlt => ?_) (fun hge => ?_)
    · have hi2 : i < 256 := by omega
      have hx := hl.2 i hi2
      have hrd := scP_rd (c := 8347681) (l := l) hi2
      rw [← hrd] at hx
      repeat first
        | refine XC_region ?_
        | refine X_nil ?_
        | refine XC_seq ?_
        | refine XT_seq ?_
        | refine XC_block ?_
        | refine XT_block_normal ?_
        | refine XC_skip ?_
        | refine Y_res (r_move rfl) rfl ?_
        | refine Y_res (r_assign rfl) rfl ?_
        | refine Y_res (r_add64 rfl rfl (by omega)) rfl ?_
        | refine Y_res (r_mul64 rfl rfl (by omega)) rfl ?_
        | refine Y_res (r_rem rfl rfl (by omega)) rfl ?_
        | refine Y_res (r_indexS rfl rfl (by omega) (by first | omega | (simp only [List.length_set, List.length_replicate]; omega))) rfl ?_
        | refine Y_res (r_loadI rfl (by first | omega | (simp only [List.length_set, List.length_replicate]; omega))) rfl ?_
        | refine X_storeI rfl rfl (by first | omega | (simp only [List.length_set, List.length_replicate]; omega)) ?_
      refine XT_round (i + 1) (by omega) (by omega) ⟨rfl, rfl, rfl, rfl, rfl, trivial⟩ (fun w3 h3 => ?_)
      rw [hrd, scP_set hi2] at h3
      exact h3
    · obtain rfl : i = 256 := by omega
      rw [scP_256]
      repeat first
        | refine XC_region ?_
        | refine X_nil ?_
        | refine XC_seq ?_
        | refine XT_seq ?_
        | refine XT_block_same rfl ?_
        | refine XT_then_exit ?_
        | refine XC_exit ?_
        | refine XC_ret ?_
        | refine Y_res (r_move rfl) rfl ?_
        | refine Y_res (r_assign rfl) rfl ?_
      refine XT_ret2 (.inl rfl) Try.results13 rfl rfl (fun w' h => ⟨h.chg, ?_⟩)
      rw [if_pos hva]
      rw [hb8] at h
      exact ⟨_, rfl, ⟨_, _, by rw [(bck_ok a).1], h.tail.head, fun j hj => (h.own _ (List.mem_cons_of_mem _ (List.mem_cons_self ..)) j hj).resolve_left (fun h => h)⟩⟩
end Go.Proofs.Ytoednaebdfohbaa.NRing
