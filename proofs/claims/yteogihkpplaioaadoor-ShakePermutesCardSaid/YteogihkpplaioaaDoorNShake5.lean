/- The reference's sum, walked. -/
import Derived.Test.YteogihkpplaioaaDoorNShake4
import Derived.Test.YteogihkpplaioaaDoorNShake3
namespace Go.Proofs.YteogihkpplaioaaDoor.NShake
open Go Go.RowKit Go.Proofs.YteogihkpplaioaaDoor.MX Go.Proofs.YteogihkpplaioaaDoor.PShake
set_option linter.unusedVariables false
set_option linter.unusedSimpArgs false
set_option maxHeartbeats 4000000 in
set_option maxRecDepth 100000 in
theorem rsum_any (rate : Nat) (b : List Int) (A : Option Addr) (c n : Nat) (w : World) (hr : Rds w A c .u8 b) (hwf : ∀ n ∈ b, (Lit.int .u8 n).wf = true) (hbl : b.length ≤ 1000000) (hn : n ≤ 1000000) (hrate : Rate rate) :
    Calls Tryd.prog 17 #[.int .i64 rate, .slice A b.length c, .int .i64 n] w (Tells 5 .u8 w (outs rate (sq rate b) 0 n)) := by
  obtain ⟨hr0, hr2⟩ := hrate.bd
  have hget := get8 hwf
  have hMg := pad_get hr0 hget
  obtain ⟨nb, hMl⟩ := pad_len hr0 b
  have hMa := absb_pad hrate.bd b
  have hla : b.length % rate < rate := Nat.mod_lt _ hr0
  have hMt := tailP_len hla
  obtain ⟨a, ha⟩ : ∃ a, a = b.length % rate := ⟨_, rfl⟩
  rw [← ha] at hMg hMl hMa hla hMt
  have hps := padZ_set (b := b) hla
  have hMl2 : (b ++ tailP rate a).length ≤ 1000200 := by rw [List.length_append]; omega
  obtain ⟨M, hM⟩ : ∃ M, M = b ++ tailP rate a := ⟨_, rfl⟩
  rw [← hM] at hMg hMl hMa hMl2 hps
  have hMg := Lib.hid hMg
  have hget := Lib.hid hget
  obtain ⟨f, hf⟩ : ∃ f, f = sq rate b := ⟨_, rfl⟩
  rw [← hf] at hMa ⊢
  have hfl : Lns f := by rw [hf]; exact perm_lns _
  have hRC : RC.length = 24 := rfl
  have hTI : TSI.length = 25 := rfl
  refine calls_of_X (vs := [_, _, _]) (M := Hp w (fun _ => False) []) Tryd.func17 rfl Tryd.ntmps17 rfl (Hp.nil _ _) ?_
  repeat first
    | refine XC_region ?_
    | refine X_nil ?_
    | refine XC_seq ?_
    | refine XT_seq ?_
    | refine XC_block ?_
    | refine Y_res (r_move rfl) rfl ?_
    | refine Y_res (r_assign rfl) rfl ?_
    | (refine X_allocI rfl ?_; intro _ _)
    | (refine X_buildS (by rfl) (by rfl) (by simp) rfl ?_; intro _ _)
    | refine X_storeWI rfl rfl (by rfl) (by rfl) ?_
    | (refine X_append rfl rfl (fun w_ h_ => rds_ints (Hp.head h_) (by simp) (by decide)) (by rfl) (by rfl) (by rfl) (by first | omega | (simp only [List.length_cons, List.length_nil]; omega)) (by first | omega | (simp only [List.length_cons, List.length_nil]; omega)) rfl ?_; intro _ _)
    | refine Y_says (g := 20) rfl rfl (fun w1 hM => nums_any w1) ?_
    | refine Y_says (g := 21) rfl rfl (fun w1 hM => turns_any w1) ?_
    | (refine X_appendI rfl rfl (fun w_ hM => (by first | exact Rds.old (by assumption) hM old_false | exact rds_sl (PkS.has inferInstance hM))) rfl rfl rfl (by first | omega | (simp only [List.length_nil]; omega)) (by first | omega | (simp only [List.length_nil]; omega)) rfl ?_; intro _ _; simp only [List.nil_append])
  rename_i g7 hg7 g8 hg8 gx hgx A9 c9 gy hgy A10 c10
  refine XC_loop (ι := Nat × Option Addr × Nat) (fun p => p.1 ≤ rate - a - 1) (fun p => [(0, .int .i64 rate), (2, .int .i64 n), (7, .pointer (some ⟨g7, 0, none⟩)), (8, .pointer (some ⟨g8, 0, none⟩)), (9, .slice p.2.1 (padZ b p.1).length p.2.2)])
    (fun p => Hp w (fun _ => False) [Ch.sl p.2.1 p.2.2 5 .u8 (padZ b p.1), Ch.ints g8 .i64 TSI 44, Ch.ints g7 .u64 RC 42]) (fun p => rate - a - 1 - p.1) (0, A10, c10) (Nat.zero_le _) ⟨rfl, rfl, rfl, rfl, rfl, trivial⟩ (fun _ h => h.tail) ?_
  rintro ⟨j, Aj, cj⟩ hj
  dsimp only at hj ⊢
  have hzl := padZ_len b j
  have hstop := pad_stop (L := b.length) hr0 ha hj
  have hmod : ((padZ b j).length : Int) % (rate : Int) = (((b.length + 1 + j) % rate : Nat) : Int) := by rw [hzl]; omega
  repeat first
    | refine XC_region ?_
    | refine X_nil ?_
    | refine XC_seq ?_
    | refine XT_seq ?_
    | refine Y_res (r_move rfl) rfl ?_
    | refine Y_res (r_rem rfl rfl (by omega)) rfl ?_
    | refine Y_res (r_neq rfl rfl) rfl ?_
    | refine Y_res (r_len rfl) rfl ?_
  refine XC_condP rfl (fun hne => ?_) (fun heq => ?_)
  · have hj2 : j < rate - a - 1 := by
      rcases Nat.lt_or_ge j (rate - a - 1) with h | h
      · exact h
      · exfalso
        have := hstop.2 (by omega)
        rw [hmod, this] at hne
        exact hne rfl
    repeat first
      | refine XC_region ?_
      | refine X_nil ?_
      | refine XT_seq ?_
      | refine XC_block ?_
      | refine XT_block_normal ?_
      | refine XC_skip ?_
      | refine Y_res (r_move rfl) rfl ?_
      | refine Y_res (r_assign rfl) rfl ?_
      | (refine X_buildS (by rfl) (by rfl) (by simp) rfl ?_; intro _ _)
      | (refine X_append rfl rfl (fun w_ h_ => rds_ints (Hp.head h_) (by simp) (by decide)) (by rfl) (by rfl) (by rfl) (by first | omega | (simp only [List.length_cons, List.length_nil]; omega)) (by first | omega | (simp only [List.length_cons, List.length_nil]; omega)) rfl ?_; intro _ _)
    rename_i gz hgz A11 c11
    exact XT_round (j + 1, A11, c11) (by dsimp only; omega) (by dsimp only; omega) ⟨rfl, rfl, rfl, rfl, by rw [← padZ_snoc]; rfl, trivial⟩ (fun _ h => by rw [← padZ_snoc]; exact h.tail)
  obtain rfl : j = rate - a - 1 := by
    apply hstop.1
    have := Decidable.not_not.1 heq
    rw [hmod] at this
    omega
  have hl1 : (((padZ b (rate - a - 1)).length : Int) - 1).toNat = b.length + (rate - a - 1) := by omega
  repeat first
    | refine XC_region ?_
    | refine X_nil ?_
    | refine XC_seq ?_
    | refine XT_seq ?_
    | refine XC_block ?_
    | refine XT_block_same rfl ?_
    | refine XT_then_exit ?_
    | refine XC_exit ?_
    | refine Y_res (r_move rfl) rfl ?_
    | refine Y_res (r_assign rfl) rfl ?_
    | refine Y_res (r_sub64 rfl rfl (by omega)) rfl ?_
    | refine Y_res (r_xor rfl rfl) rfl ?_
    | refine Y_res (r_len rfl) rfl ?_
    | refine Y_res (r_indexST rfl rfl (by omega) (by omega) (by omega)) rfl ?_
    | refine Y_res (r_loadI rfl (by first | omega | (simp only [List.length_set, List.length_replicate]; omega))) rfl ?_
    | refine X_storeI rfl rfl (by first | omega | (simp only [List.length_set, List.length_replicate]; omega)) ?_
    | (refine X_allocI rfl ?_; intro _ _)
    | rw [hl1]
  rw [hps]
  have hMl3 : (padZ b (rate - a - 1)).length = M.length := by rw [← hps, List.length_set]
  rename_i gs hgs
  refine XC_loop (ι := Nat × List Int) (fun p => p.1 ≤ nb ∧ absb rate (M.take (p.1 * rate)) = (p.2, 0)) (fun p => [(0, .int .i64 rate), (2, .int .i64 n), (7, .pointer (some ⟨g7, 0, none⟩)), (8, .pointer (some ⟨g8, 0, none⟩)), (9, .slice Aj M.length cj), (10, .pointer (some ⟨gs, 0, none⟩)), (11, .int .i64 ((p.1 * rate : Nat) : Int))])
    (fun p => Hp w (fun _ => False) [Ch.ints gs .u64 p.2 39, Ch.sl Aj cj 5 .u8 M, Ch.ints g8 .i64 TSI 44, Ch.ints g7 .u64 RC 42]) (fun p => nb - p.1) (0, zs) ⟨Nat.zero_le _, by rw [Nat.zero_mul]; rfl⟩ ⟨rfl, rfl, rfl, rfl, by rw [← hMl3]; rfl, rfl, by rw [Nat.zero_mul]; rfl, trivial⟩ (fun _ h => h) ?_
  rintro ⟨i, s⟩ ⟨hi, hs⟩
  dsimp only at hi hs ⊢
  have hsl : Lns s := by have := absb_ok hrate.bd (M.take (i * rate)); rw [hs] at this; exact this.1
  have hsl1 := hsl.1
  repeat first
    | refine XC_region ?_
    | refine X_nil ?_
    | refine XC_seq ?_
    | refine XT_seq ?_
    | refine Y_res (r_move rfl) rfl ?_
    | refine Y_res (r_lss rfl rfl) rfl ?_
    | refine Y_res (r_len rfl) rfl ?_
  refine XC_condP rfl (fun hlt => ?_) (fun hge => ?_)
  · have hi2 : i < nb := by
      rcases Nat.lt_or_ge i nb with h | h
      · exact h
      · exfalso
        obtain rfl : i = nb := by omega
        rw [hMl] at hlt
        exact Int.lt_irrefl _ hlt
    have hle : i * rate + rate ≤ M.length := by
      rw [hMl, ← Nat.succ_mul]
      exact Nat.mul_le_mul_right _ hi2
    have hnx := absb_next hr0 hle hs
    repeat first
      | refine XC_region ?_
      | refine X_nil ?_
      | refine XC_seq ?_
      | refine XT_seq ?_
      | refine XC_block ?_
      | refine XC_skip ?_
      | refine Y_res (r_assign rfl) rfl ?_
    refine XC_loop (ι := Nat) (fun k => k ≤ rate) (fun k => [(0, .int .i64 rate), (2, .int .i64 n), (7, .pointer (some ⟨g7, 0, none⟩)), (8, .pointer (some ⟨g8, 0, none⟩)), (9, .slice Aj M.length cj), (10, .pointer (some ⟨gs, 0, none⟩)), (11, .int .i64 ((i * rate : Nat) : Int)), (12, .int .i64 k)])
      (fun k => Hp w (fun _ => False) [Ch.ints gs .u64 (xfold s M (i * rate) k) 39, Ch.sl Aj cj 5 .u8 M, Ch.ints g8 .i64 TSI 44, Ch.ints g7 .u64 RC 42]) (fun k => rate - k) 0 (Nat.zero_le _) ⟨rfl, rfl, rfl, rfl, rfl, rfl, rfl, rfl, trivial⟩ (fun _ h => h) ?_
    intro k hk
    have hxl := xfold_lns (m := M) (o := i * rate) hsl k (by omega)
    have hxs : xfold s M (i * rate) (k + 1) = xorB (xfold s M (i * rate) k) k (M.getD (i * rate + k) 0) := rfl
    obtain ⟨x, hx⟩ : ∃ x, x = xfold s M (i * rate) k := ⟨_, rfl⟩
    rw [← hx] at hxl hxs ⊢
    have hxl1 := hxl.1
    obtain ⟨o, ho⟩ : ∃ o, o = i * rate := ⟨_, rfl⟩
    rw [← ho] at hxs hle ⊢
    repeat first
      | refine XC_region ?_
      | refine X_nil ?_
      | refine XC_seq ?_
      | refine XT_seq ?_
      | refine Y_res (r_move rfl) rfl ?_
      | refine Y_res (r_lss rfl rfl) rfl ?_
    refine XC_condP rfl (fun hlt2 => ?_) (fun hge2 => ?_)
    · have hk2 : k < rate := by omega
      have hmg := hMg.out (o + k) (by omega)
      repeat first
        | refine XC_region ?_
        | refine XC_hoist [0] [1, 2, 3, 4, 5, 6, 7, 8, 9, 10, 11, 12, 13, 14, 15, 16, 17, 18] [] 19 (by kernel_rfl) (by decide +kernel) drw_hp rfl rfl rfl rfl ?_
        | refine X_nil ?_
        | refine XQ_nilX ?_
        | refine XQ_nilH ?_
        | refine XT_only ?_
        | refine XC_seq ?_
        | refine XT_seq ?_
        | refine XC_block ?_
        | refine XT_block_normal ?_
        | refine XC_skip ?_
        | refine Y_res (r_move rfl) rfl ?_
        | refine Y_res (r_assign rfl) rfl ?_
        | refine Y_res (r_add64 rfl rfl (by omega)) rfl ?_
        | refine Y_res (r_mul64 rfl rfl (by omega)) rfl ?_
        | refine Y_res (r_rem rfl rfl (by omega)) rfl ?_
        | refine Y_res (r_quo rfl rfl (by omega)) rfl ?_
        | refine Y_res (r_xor rfl rfl) rfl ?_
        | refine Y_res (r_convuN rfl (by omega)) rfl ?_
        | refine Y_res (r_indexA0 rfl rfl (by omega)) rfl ?_
        | refine Y_res (r_indexS rfl rfl (by omega) (by first | omega | (simp only [List.length_set, List.length_replicate]; omega))) rfl ?_
        | refine Y_res (r_loadI rfl (by first | omega | (simp only [List.length_set, List.length_replicate]; omega))) rfl ?_
        | refine X_storeI rfl rfl (by first | omega | (simp only [List.length_set, List.length_replicate]; omega)) ?_
        | refine Y_res (r_shlV (s := 8 * (k % 8)) rfl rfl (by omega) (by simp only [IntKind.bits]; omega)) rfl ?_
      rw [wrap_u64]
      exact XT_round (k + 1) (by omega) (by omega) ⟨rfl, rfl, rfl, rfl, rfl, rfl, rfl, rfl, trivial⟩ (fun _ h => by rw [hxs]; exact h)
    · obtain rfl : k = rate := by omega
      rw [← ho] at hx
      rw [← ho, ← hx] at hnx
      repeat first
        | refine XC_region ?_
        | refine X_nil ?_
        | refine XT_seq ?_
        | refine XT_block_normal ?_
        | refine XT_block_same rfl ?_
        | refine XT_then_exit ?_
        | refine XC_exit ?_
        | refine Y_res (r_move rfl) rfl ?_
        | refine Y_res (r_assign rfl) rfl ?_
        | refine Y_res (r_add64 rfl rfl (by omega)) rfl ?_
        | refine Y_res (r_loadWI rfl (by rfl)) rfl ?_
        | refine Y_res (r_loadWI rfl hxl1) rfl ?_
        | refine Y_says (g := 19) rfl rfl (fun w1 hM => rperm_any _ hxl1 w1) ?_
        | refine X_storeWI rfl rfl (perm_len _) (by rw [perm_len, hxl1]) ?_
      exact XT_round (i + 1, perm x) ⟨by dsimp only; omega, by rw [Nat.succ_mul, ← ho]; exact hnx⟩ (by dsimp only; omega) ⟨rfl, rfl, rfl, rfl, rfl, rfl, by rw [Nat.succ_mul, ← ho]; rfl, trivial⟩ (fun _ h => h)
  · have hi2 : i = nb := by
      rcases Nat.lt_or_ge i nb with h | h
      · exfalso
        apply hge
        have : (i + 1) * rate ≤ nb * rate := Nat.mul_le_mul_right _ h
        rw [Nat.succ_mul] at this
        rw [hMl]
        omega
      · omega
    have hsf : s = f := by
      rw [hi2, ← hMl, List.take_length, hMa] at hs
      exact (Prod.mk.inj hs).1.symm
    rw [hsf]
    clear hs hsl hsl1 hge
    repeat first
      | refine XC_region ?_
      | refine X_nil ?_
      | refine XC_seq ?_
      | refine XT_seq ?_
      | refine XC_block ?_
      | refine XT_block_same rfl ?_
      | refine XT_then_exit ?_
      | refine XC_exit ?_
      | refine Y_res (r_assign rfl) rfl ?_
    refine XC_mem (fun _ h => h.nilS (e := 5) (k := .u8)) ?_
    refine XC_loop (ι := (Nat × Nat) × Option Addr × Nat) (fun p => p.1.2 ≤ n ∧ (p.1.2 < n → p.1.2 = p.1.1 * rate)) (fun p => [(0, .int .i64 rate), (2, .int .i64 n), (7, .pointer (some ⟨g7, 0, none⟩)), (8, .pointer (some ⟨g8, 0, none⟩)), (10, .pointer (some ⟨gs, 0, none⟩)), (13, .slice p.2.1 (outs rate f 0 p.1.2).length p.2.2)])
      (fun p => Hp w (fun _ => False) [Ch.sl p.2.1 p.2.2 5 .u8 (outs rate f 0 p.1.2), Ch.ints gs .u64 (permN f p.1.1) 39, Ch.sl Aj cj 5 .u8 M, Ch.ints g8 .i64 TSI 44, Ch.ints g7 .u64 RC 42]) (fun p => n - p.1.2) ((0, 0), none, 0) ⟨Nat.zero_le _, fun _ => by dsimp only; omega⟩ ⟨rfl, rfl, rfl, rfl, rfl, rfl, trivial⟩ (fun _ h => h) ?_
    rintro ⟨⟨q, t⟩, Ao, co⟩ ⟨ht, htq⟩
    dsimp only at ht htq ⊢
    have hol := outs_len rate f 0 t
    repeat first
      | refine XC_region ?_
      | refine X_nil ?_
      | refine XC_seq ?_
      | refine XT_seq ?_
      | refine Y_res (r_move rfl) rfl ?_
      | refine Y_res (r_lss rfl rfl) rfl ?_
      | refine Y_res (r_len rfl) rfl ?_
    refine XC_condP rfl (fun hlt => ?_) (fun hge => ?_)
    · have htn : t < n := by omega
      have htq := htq htn
      have hfq := permN_lns hfl q
      have hpn : permN f (q + 1) = perm (permN f q) := rfl
      obtain ⟨F, hF⟩ : ∃ F, F = permN f q := ⟨_, rfl⟩
      rw [← hF] at hfq hpn ⊢
      have hF1 := hfq.1
      repeat first
        | refine XC_region ?_
        | refine X_nil ?_
        | refine XC_seq ?_
        | refine XT_seq ?_
        | refine XC_block ?_
        | refine XC_skip ?_
        | refine Y_res (r_assign rfl) rfl ?_
      refine XC_loop (ι := Nat × Option Addr × Nat) (fun p => p.1 ≤ rate ∧ t + p.1 ≤ n) (fun p => [(0, .int .i64 rate), (2, .int .i64 n), (7, .pointer (some ⟨g7, 0, none⟩)), (8, .pointer (some ⟨g8, 0, none⟩)), (10, .pointer (some ⟨gs, 0, none⟩)), (13, .slice p.2.1 (outs rate f 0 (t + p.1)).length p.2.2), (14, .int .i64 p.1)])
        (fun p => Hp w (fun _ => False) [Ch.sl p.2.1 p.2.2 5 .u8 (outs rate f 0 (t + p.1)), Ch.ints gs .u64 F 39, Ch.sl Aj cj 5 .u8 M, Ch.ints g8 .i64 TSI 44, Ch.ints g7 .u64 RC 42]) (fun p => rate - p.1) (0, Ao, co) ⟨Nat.zero_le _, by dsimp only; omega⟩ ⟨rfl, rfl, rfl, rfl, rfl, rfl, rfl, trivial⟩ (fun _ h => h) ?_
      rintro ⟨k, Ak, ck⟩ ⟨hk, htk⟩
      dsimp only at hk htk ⊢
      have hol2 := outs_len rate f 0 (t + k)
      by_cases hkr : k < rate
      · by_cases hkn : t + k < n
        · repeat first
            | refine XC_region ?_
            | refine X_nil ?_
            | refine XC_seq ?_
            | refine XT_seq ?_
            | refine Y_res (r_move rfl) rfl ?_
            | refine Y_res (r_lss rfl rfl) rfl ?_
            | refine Y_on rfl rfl ?_
            | refine Y_res (r_len rfl) rfl ?_
            | refine Y_res (r_pickT rfl rfl) rfl ?_
            | refine Y_splitT rfl rfl (by omega) ?_
          refine XC_condP rfl (fun _ => ?_) (fun h => absurd (show ((outs rate f 0 (t + k)).length : Int) < n by omega) h)
          have hsn := outs_snoc f 0 (t + k) q k hkr (by omega)
          rw [← hF] at hsn
          repeat first
            | refine XC_region ?_
            | refine X_nil ?_
            | refine XC_seq ?_
            | refine XT_seq ?_
            | refine XC_block ?_
            | refine XT_block_normal ?_
            | refine XC_skip ?_
            | refine Y_res (r_move rfl) rfl ?_
            | refine Y_res (r_assign rfl) rfl ?_
            | refine Y_res (r_add64 rfl rfl (by omega)) rfl ?_
            | refine Y_res (r_mul64 rfl rfl (by omega)) rfl ?_
            | refine Y_res (r_rem rfl rfl (by omega)) rfl ?_
            | refine Y_res (r_quo rfl rfl (by omega)) rfl ?_
            | refine Y_res (r_conv8 rfl) rfl ?_
            | refine Y_res (r_indexA0 rfl rfl (by omega)) rfl ?_
            | refine Y_res (r_loadI rfl (by first | omega | (simp only [List.length_set, List.length_replicate]; omega))) rfl ?_
            | (refine X_buildS (by rfl) (by rfl) (by simp) rfl ?_; intro _ _)
            | (refine X_append rfl rfl (fun w_ h_ => rds_ints (Hp.head h_) (by simp) (by decide)) (by rfl) (by rfl) (by rfl) (by first | omega | (simp only [List.length_cons, List.length_nil]; omega)) (by first | omega | (simp only [List.length_cons, List.length_nil]; omega)) rfl ?_; intro _ _)
            | refine Y_res (r_shrV (s := 8 * (k % 8)) rfl rfl (by omega) (by simp only [IntKind.bits]; omega)) rfl ?_
          rename_i gq hgq A12 c12
          exact XT_round (k + 1, A12, c12) ⟨by dsimp only; omega, by dsimp only; omega⟩ (by dsimp only; omega) ⟨rfl, rfl, rfl, rfl, rfl, by rw [← Nat.add_assoc, hsn]; rfl, rfl, trivial⟩ (fun _ h => by rw [← Nat.add_assoc, hsn]; exact h.tail)
        · obtain rfl : n = t + k := by omega
          repeat first
            | refine XC_region ?_
            | refine X_nil ?_
            | refine XC_seq ?_
            | refine XT_seq ?_
            | refine Y_res (r_move rfl) rfl ?_
            | refine Y_res (r_lss rfl rfl) rfl ?_
            | refine Y_on rfl rfl ?_
            | refine Y_res (r_len rfl) rfl ?_
            | refine Y_res (r_pickT rfl rfl) rfl ?_
            | refine Y_splitT rfl rfl (by omega) ?_
          refine XC_condP rfl (fun h => absurd h (by omega)) (fun _ => ?_)
          repeat first
            | refine XC_region ?_
            | refine X_nil ?_
            | refine XC_seq ?_
            | refine XT_seq ?_
            | refine XT_block_same rfl ?_
            | refine XT_then_exit ?_
            | refine XC_exit ?_
            | refine Y_res (r_move rfl) rfl ?_
            | refine Y_res (r_lss rfl rfl) rfl ?_
            | refine Y_res (r_len rfl) rfl ?_
          refine XC_condP rfl (fun h => absurd h (by omega)) (fun _ => ?_)
          repeat first
            | refine XT_block_normal ?_
            | refine XC_skip ?_
          exact XT_round ((q, t + k), Ak, ck) ⟨Nat.le_refl _, fun h => absurd h (Nat.lt_irrefl _)⟩ (by dsimp only; omega) ⟨rfl, rfl, rfl, rfl, rfl, rfl, trivial⟩ (fun _ h => by rw [← hF]; exact h)
      · obtain rfl : k = rate := by omega
        repeat first
          | refine XC_region ?_
          | refine X_nil ?_
          | refine XC_condF rfl ?_
          | refine XC_seq ?_
          | refine XT_seq ?_
          | refine XT_block_same rfl ?_
          | refine XT_then_exit ?_
          | refine XC_exit ?_
          | refine Y_res (r_move rfl) rfl ?_
          | refine Y_res (r_lss rfl rfl) rfl ?_
          | refine Y_off rfl rfl rfl ?_
          | refine Y_res (r_len rfl) rfl ?_
          | refine Y_res (r_pickF rfl rfl) rfl ?_
          | refine Y_splitF rfl rfl (by omega) ?_
        by_cases hkn : t + k < n
        · refine XC_condP rfl (fun _ => ?_) (fun h => absurd (show ((outs k f 0 (t + k)).length : Int) < n by omega) h)
          repeat first
            | refine XC_region ?_
            | refine X_nil ?_
            | refine XT_block_normal ?_
            | refine Y_res (r_loadWI rfl (by rfl)) rfl ?_
            | refine Y_res (r_loadWI rfl hF1) rfl ?_
            | refine Y_says (g := 19) rfl rfl (fun w1 hM => rperm_any _ hF1 w1) ?_
            | refine X_storeWI rfl rfl (perm_len _) (by rw [perm_len, hF1]) ?_
          exact XT_round ((q + 1, t + k), Ak, ck) ⟨by dsimp only; omega, fun _ => by dsimp only; rw [Nat.succ_mul, htq]⟩ (by dsimp only; omega) ⟨rfl, rfl, rfl, rfl, rfl, rfl, trivial⟩ (fun _ h => by rw [hpn]; exact h)
        · obtain rfl : n = t + k := by omega
          refine XC_condP rfl (fun h => absurd h (by omega)) (fun _ => ?_)
          repeat first
            | refine XT_block_normal ?_
            | refine XC_skip ?_
          exact XT_round ((q, t + k), Ak, ck) ⟨Nat.le_refl _, fun h => absurd h (Nat.lt_irrefl _)⟩ (by dsimp only; omega) ⟨rfl, rfl, rfl, rfl, rfl, rfl, trivial⟩ (fun _ h => by rw [← hF]; exact h)
    · obtain rfl : t = n := by omega
      repeat first
        | refine XC_region ?_
        | refine X_nil ?_
        | refine XC_seq ?_
        | refine XT_seq ?_
        | refine XT_block_same rfl ?_
        | refine XT_then_exit ?_
        | refine XC_exit ?_
        | refine XC_ret ?_
        | refine Y_res (r_move rfl) rfl ?_
        | refine Y_res (r_assign rfl) rfl ?_
      exact XT_tells (.inl rfl) Tryd.results17 rfl (by rfl)
set_option maxHeartbeats 1000000 in
theorem rsum128_any (b : List Int) (A : Option Addr) (c : Nat) (n : Nat) (w : World) (hr : Rds w A c .u8 b) (hwf : ∀ n ∈ b, (Lit.int .u8 n).wf = true) (hbl : b.length ≤ 1000000) (hn : n ≤ 1000000) :
    Calls Tryd.prog 12 #[.slice A b.length c, .int .i64 n] w (Tells 5 .u8 w (outs 168 (sq 168 b) 0 n)) := by
  refine calls_of_X (vs := [_, _]) (M := Hp w (fun _ => False) []) Tryd.func12 rfl Tryd.ntmps12 rfl (Hp.nil _ _) ?_
  repeat first
    | refine XC_region ?_
    | refine X_nil ?_
    | refine XC_seq ?_
    | refine XT_seq ?_
    | refine XC_ret ?_
    | refine Y_res (r_move rfl) rfl ?_
    | refine Y_res (r_assign rfl) rfl ?_
    | (refine X_tells (g := 17) rfl rfl (fun w1 hM => rsum_any 168 b A c n w1 (hr.old hM old_false) hwf hbl hn (by first | exact .inl rfl | exact .inr rfl)) ?_; intro A1 c1 x1 h1)
  rw [← h1]
  exact XT_tells (.inl rfl) Tryd.results12 rfl rfl
set_option maxHeartbeats 1000000 in
theorem rsum256_any (b : List Int) (A : Option Addr) (c : Nat) (n : Nat) (w : World) (hr : Rds w A c .u8 b) (hwf : ∀ n ∈ b, (Lit.int .u8 n).wf = true) (hbl : b.length ≤ 1000000) (hn : n ≤ 1000000) :
    Calls Tryd.prog 13 #[.slice A b.length c, .int .i64 n] w (Tells 5 .u8 w (outs 136 (sq 136 b) 0 n)) := by
  refine calls_of_X (vs := [_, _]) (M := Hp w (fun _ => False) []) Tryd.func13 rfl Tryd.ntmps13 rfl (Hp.nil _ _) ?_
  repeat first
    | refine XC_region ?_
    | refine X_nil ?_
    | refine XC_seq ?_
    | refine XT_seq ?_
    | refine XC_ret ?_
    | refine Y_res (r_move rfl) rfl ?_
    | refine Y_res (r_assign rfl) rfl ?_
    | (refine X_tells (g := 17) rfl rfl (fun w1 hM => rsum_any 136 b A c n w1 (hr.old hM old_false) hwf hbl hn (by first | exact .inl rfl | exact .inr rfl)) ?_; intro A1 c1 x1 h1)
  rw [← h1]
  exact XT_tells (.inl rfl) Tryd.results13 rfl rfl
end Go.Proofs.YteogihkpplaioaaDoor.NShake
