/- The ring's transforms, walked. -/
import Derived.Test.YtoednaebdfohbaaNRing
import Derived.Test.YtoednaebdfohbaaPRing
import Derived.Test.YtoednaebdfohbaaMXH
namespace Go.Proofs.Ytoednaebdfohbaa.NRing
open Go Go.RowKit Go.Proofs.Ytoednaebdfohbaa.MX Go.Proofs.Ytoednaebdfohbaa.PRing
set_option linter.unusedVariables false
set_option linter.unusedSimpArgs false
set_option linter.unusedVariables false
theorem zs_ok : ∀ k, k < 256 → 0 ≤ ZS.getD k 0 ∧ ZS.getD k 0 < 8380417 := by decide +kernel
theorem zs_step : ∀ s, s < 8 → ∀ i, i < 2 ^ s → ZS.getD i 0 * pwF 8 1 1753 (128 / ((2 ^ s : Nat) : Int)) % 8380417 = ZS.getD (2 ^ s + i) 0 := by decide +kernel
theorem pow_facts : ∀ s, s < 9 → (2 ^ s < 256 ↔ s < 8) ∧ 0 < 2 ^ s ∧ 2 ^ s ≤ 256 ∧ (s = 8 ∨ 2 ^ s ≤ 128) ∧ 0 ≤ pwF 8 1 1753 (128 / ((2 ^ s : Nat) : Int)) ∧ pwF 8 1 1753 (128 / ((2 ^ s : Nat) : Int)) < 8380417 := by decide +kernel
set_option maxHeartbeats 1000000 in
set_option maxRecDepth 100000 in
theorem zetas_any (w : World) : Calls Try.prog 30 #[] w fun e w' => e = .returned (.agg (ZS.map (Value.int .i64)).toArray) ∧ Chg (fun _ => False) w w' := by
  refine calls_of_X (vs := []) (M := Hp w (fun _ => False) []) Try.func30 rfl Try.ntmps30 rfl (Hp.nil _ _) ?_
  repeat first
    | refine XC_region ?_
    | refine X_nil ?_
    | refine XC_seq ?_
    | refine XT_seq ?_
    | refine XC_block ?_
    | refine Y_res (r_assign rfl) rfl ?_
    | refine Y_res (r_indexA0 rfl rfl (by omega)) rfl ?_
    | refine X_storeI rfl rfl (by first | omega | (simp only [List.length_set, List.length_replicate]; omega)) ?_
    | (refine X_allocI rfl ?_; intro _ _)
  rename_i g0 hg0 g1 hg1
  have hz0 : (List.replicate 256 (0 : Int)).set 0 1 = part ZS 1 := by
    rw [← part_set ZS 0 (by decide), part_0, show ZS.getD 0 0 = 1 from by decide +kernel]
  rw [hz0]
  clear hz0
  refine XC_loop (ι := Nat) (fun s => s < 9) (fun s => [(0, .pointer (some ⟨g0, 0, none⟩)), (1, .pointer (some ⟨g1, 0, none⟩)), (2, .int .i64 (2 ^ s : Nat))])
    (fun s => Hp w (fun _ => False) [Ch.ints g1 .i64 (part ZS (2 ^ s)) 36, Ch.ints g0 .i64 (List.replicate 256 0) 36]) (fun s => 9 - s) 0 (by omega) ⟨rfl, rfl, rfl, trivial⟩ (fun _ h => h) ?_
  intro s hs
  obtain ⟨hp1, hp2, hp3, hp4, hp5, hp6⟩ := pow_facts s hs
  have hst := zs_step s
  have hsd : 2 ^ (s + 1) = 2 * 2 ^ s := by rw [Nat.pow_succ, Nat.mul_comm]
  obtain ⟨H, hH⟩ : ∃ H, H = 2 ^ s := ⟨_, rfl⟩
  obtain ⟨c, hc⟩ : ∃ c, c = pwF 8 1 1753 (128 / ((2 ^ s : Nat) : Int)) := ⟨_, rfl⟩
  rw [← hc] at hp5 hp6 hst
  rw [← hH] at hp1 hp2 hp3 hp4 hst hsd hc ⊢
  have hpl := part_len ZS H
  repeat first
    | refine XC_region ?_
    | refine X_nil ?_
    | refine XC_seq ?_
    | refine XT_seq ?_
    | refine Y_res (r_move rfl) rfl ?_
    | refine Y_res (r_lss rfl rfl) rfl ?_
  refine XC_condP rfl (fun hlt => ?_) (fun hge => ?_)
  · have hs8 : s < 8 := hp1.1 (by omega)
    have hst := Lib.hid (hst hs8)
    have hdiv : (128 : Int) / (H : Int) ≤ 128 := Int.ediv_le_self _ (by decide)
    have hdiv0 : 0 ≤ (128 : Int) / (H : Int) := Int.ediv_nonneg (by decide) (by omega)
    repeat first
      | refine XC_region ?_
      | refine X_nil ?_
      | refine XC_seq ?_
      | refine XT_seq ?_
      | refine XC_block ?_
      | refine XC_skip ?_
      | refine Y_res (r_move rfl) rfl ?_
      | refine Y_res (r_assign rfl) rfl ?_
      | refine Y_res (r_quo rfl rfl (by omega)) rfl ?_
      | refine Y_call (g := 31) rfl rfl (fun w1 hM => (power_any 8 1753 (128 / (H : Int)) w1 (by decide) ⟨hdiv0, by omega, by omega⟩).mono fun e w2 h => ⟨h.1, hM.keep h.2⟩) ?_
    rw [← hc]
    refine XC_loop (ι := Nat) (fun i => i ≤ H) (fun i => [(0, .pointer (some ⟨g0, 0, none⟩)), (1, .pointer (some ⟨g1, 0, none⟩)), (2, .int .i64 H), (3, .int .i64 c), (13, .int .i64 H), (14, .int .i64 i)])
      (fun i => Hp w (fun _ => False) [Ch.ints g1 .i64 (part ZS (H + i)) 36, Ch.ints g0 .i64 (List.replicate 256 0) 36]) (fun i => H - i) 0 (by omega) ⟨rfl, rfl, rfl, rfl, rfl, rfl, trivial⟩ (fun _ h => h) ?_
    intro i hi
    have hpl := part_len ZS (H + i)
    repeat first
      | refine XC_region ?_
      | refine X_nil ?_
      | refine XC_seq ?_
      | refine XT_seq ?_
      | refine Y_res (r_lss rfl rfl) rfl ?_
    refine XC_condP rfl (fun hlt2 => ?_) (fun hge2 => ?_)
    · have hi2 : i < H := by omega
      have hzi := zs_ok i (by omega)
      have hpg : (part ZS (H + i)).getD i 0 = ZS.getD i 0 := by rw [part_get _ _ _ (by omega), if_pos (by omega)]
      have hb := mul_bd hzi ⟨hp5, hp6⟩
      rw [← hpg] at hb
      repeat first
        | refine XC_region ?_
        | refine X_nil ?_
        | refine XC_seq ?_
        | refine XT_seq ?_
        | refine XC_block ?_
        | refine XT_block_normal ?_
        | refine XC_skip ?_
        | refine Y_res (r_move rfl) rfl ?_
        | refine Y_res (r_assign rfl) rfl ?_
        | refine Y_res (r_add64 rfl rfl (by omega)) rfl ?_
        | refine Y_res (r_mul64 rfl rfl (by omega)) rfl ?_
        | refine Y_res (r_rem rfl rfl (by omega)) rfl ?_
        | refine Y_res (r_indexA0 rfl rfl (by omega)) rfl ?_
        | refine Y_res (r_loadI rfl (by first | omega | (simp only [List.length_set, List.length_replicate]; omega))) rfl ?_
        | refine X_storeI rfl rfl (by first | omega | (simp only [List.length_set, List.length_replicate]; omega)) ?_
      refine XT_round (i + 1) (by omega) (by omega) ⟨rfl, rfl, rfl, rfl, rfl, rfl, trivial⟩ (fun w3 h3 => ?_)
      rw [hpg, hst.out i hi2, part_set ZS (H + i) (by omega)] at h3
      exact h3
    · obtain rfl : i = H := by omega
      repeat first
        | refine XC_region ?_
        | refine X_nil ?_
        | refine XT_seq ?_
        | refine XT_block_normal ?_
        | refine XT_block_same rfl ?_
        | refine XT_then_exit ?_
        | refine XC_exit ?_
        | refine Y_res (r_move rfl) rfl ?_
        | refine Y_res (r_assign rfl) rfl ?_
        | refine Y_res (r_mul64 rfl rfl (by omega)) rfl ?_
      refine XT_round (s + 1) (by omega) (by omega) ⟨rfl, rfl, by rw [hsd]; exact congrArg (fun q => some (Value.int .i64 q)) (by omega), trivial⟩ (fun w3 h3 => ?_)
      rw [hsd, show 2 * i = i + i by omega]
      exact h3
  · have hs8 : s = 8 := by omega
    have hH8 : H = 256 := by rw [hH, hs8]
    rw [hH8, part_256 ZS zs_len]
    repeat first
      | refine XC_region ?_
      | refine X_nil ?_
      | refine XC_seq ?_
      | refine XT_seq ?_
      | refine XT_block_same rfl ?_
      | refine XT_then_exit ?_
      | refine XC_exit ?_
      | refine XC_ret ?_
      | refine X_storeWI rfl rfl (by rfl) (by rfl) ?_
      | refine Y_res (r_loadWI rfl (by rfl)) rfl ?_
    refine XT_retC (.inl rfl) Try.results30 rfl (by rfl) (fun w' h => ?_)
    exact ⟨rfl, h.chg⟩
set_option maxHeartbeats 2000000 in
set_option maxRecDepth 100000 in
theorem there_any (a : List Int) (A : Option Addr) (ca : Nat) (w : World) (ha : Rds w A ca .i64 a) :
    Calls Try.prog 12 #[.slice A a.length ca] w fun e w' => Told w w' e (vd a = true) (thr a) := by
  refine calls_of_X (vs := [_]) (M := Hp w (fun _ => False) []) Try.func12 rfl Try.ntmps12 rfl (Hp.nil _ _) ?_
  repeat first
    | refine XC_region ?_
    | refine X_nil ?_
    | refine XC_seq ?_
    | refine XT_seq ?_
    | refine Y_res (r_move rfl) rfl ?_
    | refine Y_res (r_assign rfl) rfl ?_
    | refine Y_res (r_notB rfl) rfl ?_
    | refine Y_call (g := 24) rfl rfl (fun w1 hM => (valid_any a A ca w1 (ha.old hM old_false)).mono fun e w2 h => ⟨h.1, hM.keep h.2⟩) ?_
  refine XC_condN rfl (fun hva => ?_) (fun hva => ?_)
  · repeat first
      | refine XC_region ?_
      | refine X_nil ?_
      | refine XC_seq ?_
      | refine XT_seq ?_
      | refine XT_then_ret ?_
      | refine XC_ret ?_
      | refine Y_res (r_assign rfl) rfl ?_
    exact XT_ret2 (.inl rfl) Try.results12 rfl rfl (fun w' h => ⟨h.chg, by rw [if_neg (by rw [hva]; simp)]⟩)
  obtain ⟨hla, hra⟩ := vd_iff.1 hva
  rw [hla] at hra
  have hoa : Ok a := ⟨hla, hra⟩
  repeat first
    | refine XC_region ?_
    | refine XC_seq ?_
    | refine XT_seq ?_
    | refine XC_skip ?_
    | refine Y_res (r_move rfl) rfl ?_
    | (refine X_make rfl rfl (by omega) (by omega) (by omega) rfl ?_; intro _ _)
  refine X_append rfl rfl (fun w1 h => ha.old h old_false) (by rfl) (by rfl) (by rfl) (by rw [hla]; decide) (by rw [hla]; decide) rfl (fun A1 cap1 => ?_)
  rw [show List.replicate 0 (0 : Int) ++ a = a from rfl, hla]
  repeat first
    | refine XC_region ?_
    | refine X_nil ?_
    | refine XC_seq ?_
    | refine XT_seq ?_
    | refine XC_block ?_
    | refine Y_res (r_assign rfl) rfl ?_
    | (refine X_allocI rfl ?_; intro _ _)
    | refine X_storeWI rfl rfl (by rfl) (by rfl) ?_
    | refine Y_call (g := 30) rfl rfl (fun w1 hM => (zetas_any w1).mono fun e w2 h => ⟨h.1, hM.keep h.2⟩) ?_
  rename_i gz hgz
  refine XC_loop (ι := Nat × List Int) (fun i => i.1 < 9 ∧ Ok i.2 ∧ thrF i.1 i.2 = thr a) (fun i => [(4, .slice A1 256 cap1), (5, .pointer (some ⟨gz, 0, none⟩)), (6, .int .i64 (kf i.1 : Nat)), (7, .int .i64 (hf i.1 : Nat))])
    (fun i => Hp w (fun _ => False) [Ch.ints gz .i64 ZS 36, Ch.sl A1 cap1 3 .i64 i.2]) (fun i => i.1) (8, a) ⟨by dsimp only; omega, hoa, rfl⟩ ⟨rfl, rfl, rfl, congrArg (fun q => some (Value.int .i64 q)) (show (128 : Int) = ((hf 8 : Nat) : Int) by decide), trivial⟩ (fun _ h => h) ?_
  rintro ⟨s, l⟩ ⟨hs, hl, hthr⟩
  dsimp only at hs hl hthr ⊢
  obtain ⟨hf0, hf1⟩ := hf_facts s hs
  have hnext : s ≠ 0 → thrF (s - 1) (SL (hf s) l) = thrF s l := fun h => by
    obtain ⟨r, rfl⟩ : ∃ r, s = r + 1 := ⟨s - 1, by omega⟩
    rfl
  obtain ⟨H, hH⟩ : ∃ H, H = hf s := ⟨_, rfl⟩
  obtain ⟨K, hK⟩ : ∃ K, K = kf s := ⟨_, rfl⟩
  rw [← hH, ← hK] at hf1
  rw [← hH] at hf0 hnext
  rw [← hH, ← hK]
  repeat first
    | refine XC_region ?_
    | refine X_nil ?_
    | refine XC_seq ?_
    | refine XT_seq ?_
    | refine Y_res (r_move rfl) rfl ?_
    | refine Y_res (r_gtr rfl rfl) rfl ?_
  refine XC_condP rfl (fun hlt => ?_) (fun hge => ?_)
  · have hs0 : s ≠ 0 := fun e => by have := hf0 e; omega
    obtain ⟨hL, hh2, hk2, hk1, hk3, hHp, hH128⟩ := hf1 hs0
    have hnext := hnext hs0
    clear hf0 hf1
    have hzl := zs_len
    repeat first
      | refine XC_region ?_
      | refine X_nil ?_
      | refine XC_seq ?_
      | refine XT_seq ?_
      | refine XC_block ?_
      | refine XC_skip ?_
      | refine Y_res (r_assign rfl) rfl ?_
    refine XC_loop (ι := Nat × Nat) (fun i => i.1 = 2 * H * i.2 ∧ i.1 ≤ 256) (fun i => [(4, .slice A1 256 cap1), (5, .pointer (some ⟨gz, 0, none⟩)), (6, .int .i64 (K + i.2 : Nat)), (7, .int .i64 H), (8, .int .i64 i.1)])
      (fun i => Hp w (fun _ => False) [Ch.ints gz .i64 ZS 36, Ch.sl A1 cap1 3 .i64 (stP tu tv tz H l i.2 0)]) (fun i => 256 - i.1) (0, 0) ⟨rfl, by decide⟩ ⟨rfl, rfl, rfl, rfl, rfl, trivial⟩ (fun _ h => by rw [stP_0 hl.1]; exact h) ?_
    rintro ⟨F, m⟩ ⟨hF, hF256⟩
    dsimp only at hF hF256 ⊢
    repeat first
      | refine XC_region ?_
      | refine X_nil ?_
      | refine XC_seq ?_
      | refine XT_seq ?_
      | refine Y_res (r_move rfl) rfl ?_
      | refine Y_res (r_lss rfl rfl) rfl ?_
    refine XC_condP rfl (fun hlt => ?_) (fun hge => ?_)
    · have hm : 2 * H * m < 256 := by omega
      obtain ⟨hi0, hi1, _⟩ := idx hL (j := 0) hHp hm
      have hFm : F + 2 * H = 2 * H * (m + 1) := by rw [Nat.mul_succ, ← hF]
      have hFH : F + 2 * H ≤ 256 := by omega
      have hk : K + m + 1 ≤ 255 := by omega
      have hkz : K + m + 1 = tz H m := by unfold tz; omega
      repeat first
        | refine XC_region ?_
        | refine X_nil ?_
        | refine XC_seq ?_
        | refine XT_seq ?_
        | refine XC_block ?_
        | refine XC_skip ?_
        | refine Y_res (r_move rfl) rfl ?_
        | refine Y_res (r_assign rfl) rfl ?_
        | refine Y_res (r_add64 rfl rfl (by omega)) rfl ?_
      refine XC_loop (ι := Nat) (fun p => F ≤ p ∧ p ≤ F + H) (fun p => [(4, .slice A1 256 cap1), (5, .pointer (some ⟨gz, 0, none⟩)), (6, .int .i64 (K + m + 1 : Nat)), (7, .int .i64 H), (8, .int .i64 F), (9, .int .i64 p)])
        (fun p => Hp w (fun _ => False) [Ch.ints gz .i64 ZS 36, Ch.sl A1 cap1 3 .i64 (stP tu tv tz H l m (p - F))]) (fun p => F + H - p) F ⟨by omega, by omega⟩ ⟨rfl, rfl, rfl, rfl, rfl, rfl, trivial⟩ (fun _ h => by rw [Nat.sub_self]; exact h) ?_
      rintro p ⟨hp1, hp2⟩
      have hsl : (stP tu tv tz H l m (p - F)).length = 256 := stP_len
      repeat first
        | refine XC_region ?_
        | refine X_nil ?_
        | refine XC_seq ?_
        | refine XT_seq ?_
        | refine Y_res (r_move rfl) rfl ?_
        | refine Y_res (r_add64 rfl rfl (by omega)) rfl ?_
        | refine Y_res (r_lss rfl rfl) rfl ?_
      refine XC_condP rfl (fun hlt => ?_) (fun hge => ?_)
      · have hj : p - F < H := by omega
        have hrd := stP_rd (u := tu) (v := tv) (zi := tz) (l := l) hL hj hm
        have hst := stP_set (u := tu) (v := tv) (zi := tz) (l := l) hL hj hm
        rw [← hF, show F + (p - F) = p by omega, show p - F + 1 = p + 1 - F by omega, ← hkz] at hst
        rw [← hF, show F + (p - F) = p by omega] at hrd
        obtain ⟨hrd1, hrd2⟩ := hrd
        have hx := hl.2 p (by omega)
        have hz := zs_ok (K + m + 1) (by omega)
        have hb := mul_bd hz (hl.2 (p + H) (by omega))
        rw [← hrd1] at hx
        rw [← hrd2] at hb
        have hst := Lib.hid hst
        clear hF hFm hkz hi0 hi1 hm
        repeat first
          | refine XC_quietF rfl (by kernel_rfl) (by kernel_rfl) drw_hp ?_
          | refine XQ_nil ?_
          | refine XC_seq ?_
          | refine XT_seq ?_
          | refine XC_block ?_
          | refine XC_skip ?_
          | refine Y_res (r_move rfl) rfl ?_
          | refine Y_res (r_assign rfl) rfl ?_
          | refine Y_res (r_add64 rfl rfl (by omega)) rfl ?_
          | refine Y_res (r_mul64 rfl rfl (by omega)) rfl ?_
          | refine Y_res (r_rem rfl rfl (by omega)) rfl ?_
          | refine Y_res (r_indexA0 rfl rfl (by omega)) rfl ?_
          | refine Y_res (r_indexS rfl rfl (by omega) (by first | omega | (simp only [List.length_set, List.length_replicate]; omega))) rfl ?_
          | refine Y_res (r_loadI rfl (by first | omega | (simp only [List.length_set, List.length_replicate]; omega))) rfl ?_
        refine XC_hoist [2, 3, 4, 5, 17] [0, 1, 6, 7, 8, 9, 10, 11, 12, 13, 14, 15, 16, 21] [18, 19, 20] 22 (by kernel_rfl) (by kernel_rfl) drw_hp rfl rfl rfl rfl ?_
        repeat first
          | refine XC_region ?_
          | refine XQ_nilH ?_
          | refine XQ_nilT ?_
          | refine XT_only ?_
          | refine X_nil ?_
          | refine XT_seq ?_
          | refine XT_block_normal ?_
          | refine Y_res (r_move rfl) rfl ?_
          | refine Y_res (r_assign rfl) rfl ?_
          | refine Y_res (r_add64 rfl rfl (by omega)) rfl ?_
          | refine Y_res (r_sub64 rfl rfl (by omega)) rfl ?_
          | refine Y_res (r_rem rfl rfl (by omega)) rfl ?_
          | refine Y_res (r_indexS rfl rfl (by omega) (by first | omega | (simp only [List.length_set, List.length_replicate]; omega))) rfl ?_
          | refine Y_res (r_loadI rfl (by first | omega | (simp only [List.length_set, List.length_replicate]; omega))) rfl ?_
          | refine X_storeI rfl rfl (by first | omega | (simp only [List.length_set, List.length_replicate]; omega)) ?_
        refine XT_round (p + 1) ⟨by omega, by omega⟩ (by omega) ⟨rfl, rfl, rfl, rfl, rfl, rfl, trivial⟩ (fun w3 h3 => ?_)
        rw [hrd1, hrd2] at h3
        rw [← hst.out]
        exact h3
      · obtain rfl : p = F + H := by omega
        rw [show F + H - F = H by omega, stP_next hL m]
        clear hkz
        repeat first
          | refine XC_region ?_
          | refine X_nil ?_
          | refine XT_seq ?_
          | refine XT_block_normal ?_
          | refine XT_block_same rfl ?_
          | refine XT_then_exit ?_
          | refine XC_exit ?_
          | refine Y_res (r_move rfl) rfl ?_
          | refine Y_res (r_assign rfl) rfl ?_
          | refine Y_res (r_add64 rfl rfl (by omega)) rfl ?_
          | refine Y_res (r_mul64 rfl rfl (by omega)) rfl ?_
        refine XT_round (F + 2 * H, m + 1) ⟨hFm, by dsimp only; omega⟩ (by dsimp only; omega) ⟨rfl, rfl, rfl, rfl, by dsimp only; exact congrArg (fun q => some (Value.int .i64 q)) (by omega), trivial⟩ (fun w3 h3 => h3)
    · have hF2 : F = 256 := by omega
      have hm := idx5 hL (m := m) (by omega)
      rw [stP_end hL (by omega)]
      repeat first
        | refine XC_region ?_
        | refine X_nil ?_
        | refine XT_seq ?_
        | refine XT_block_normal ?_
        | refine XT_block_same rfl ?_
        | refine XT_then_exit ?_
        | refine XC_exit ?_
        | refine Y_res (r_move rfl) rfl ?_
        | refine Y_res (r_assign rfl) rfl ?_
        | refine Y_res (r_quo rfl rfl (by omega)) rfl ?_
      refine XT_round (s - 1, SL H l) ⟨by dsimp only; omega, SL_ok _ _, hnext.trans hthr⟩ (by dsimp only; omega) ⟨rfl, rfl, by dsimp only; exact congrArg (fun q => some (Value.int .i64 q)) (by omega), by dsimp only; exact congrArg (fun q => some (Value.int .i64 q)) (by omega), trivial⟩ (fun w3 h3 => h3)
  · obtain rfl : s = 0 := by
      rcases Nat.eq_zero_or_pos s with h | h
      · exact h
      · have := (hf1 (by omega)).2.2.2.2.2.1
        omega
    repeat first
      | refine XC_region ?_
      | refine X_nil ?_
      | refine XC_seq ?_
      | refine XT_seq ?_
      | refine XT_block_same rfl ?_
      | refine XT_then_exit ?_
      | refine XC_exit ?_
      | refine XC_ret ?_
      | refine Y_res (r_move rfl) rfl ?_
      | refine Y_res (r_assign rfl) rfl ?_
    refine XT_ret2 (.inl rfl) Try.results12 rfl rfl (fun w' h => ⟨h.chg, ?_⟩)
    rw [if_pos hva]
    have e : l = thr a := hthr
    rw [e] at h
    exact ⟨_, rfl, ⟨_, _, by rw [(thr_ok hoa).1], h.tail.head, fun j hj => (h.own _ (List.mem_cons_of_mem _ (List.mem_cons_self ..)) j hj).resolve_left (fun h => h)⟩⟩
end Go.Proofs.Ytoednaebdfohbaa.NRing
