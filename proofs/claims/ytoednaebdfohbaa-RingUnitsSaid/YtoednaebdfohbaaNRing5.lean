/- The reference's transform, walked. -/
import Derived.Test.YtoednaebdfohbaaNRing4
import Derived.Test.YtoednaebdfohbaaPRing4
namespace Go.Proofs.Ytoednaebdfohbaa.NRing
open Go Go.RowKit Go.Proofs.Ytoednaebdfohbaa.MX Go.Proofs.Ytoednaebdfohbaa.PRing
set_option linter.unusedVariables false
set_option linter.unusedSimpArgs false
set_option maxHeartbeats 1000000 in
set_option maxRecDepth 100000 in
theorem rpoint_any (i : Nat) (w : World) (hi : i < 256) : Calls Try.prog 32 #[.int .i64 i] w fun e w' => e = .returned (.int .i64 (ptN i : Nat)) ∧ Chg (fun _ => False) w w' := by
  obtain ⟨hr8, hb⟩ := rv_8 i hi
  refine calls_of_X (vs := [_]) (M := Hp w (fun _ => False) []) Try.func32 rfl Try.ntmps32 rfl (Hp.nil _ _) ?_
  repeat first
    | refine XC_region ?_
    | refine X_nil ?_
    | refine XC_seq ?_
    | refine XT_seq ?_
    | refine XC_block ?_
    | refine Y_res (r_assign rfl) rfl ?_
  refine XC_loop (ι := Nat) (fun k => k ≤ 8) (fun k => [(0, .int .i64 (i / 2 ^ k : Nat)), (3, .int .i64 (rv i k)), (4, .int .i64 k)]) (fun k => Hp w (fun _ => False) []) (fun k => 8 - k) 0 (by omega) ⟨by rw [Nat.pow_zero, Nat.div_one]; rfl, rfl, rfl, trivial⟩ (fun _ h => h) ?_
  intro k hk
  have hv := rv_bd i k
  have hp2 : 2 ^ k ≤ 256 := Nat.pow_le_pow_right (by decide) hk
  have hdd : i / 2 ^ (k + 1) = i / 2 ^ k / 2 := by rw [Nat.pow_succ, Nat.div_div_eq_div_mul]
  have hdl : i / 2 ^ k ≤ i := Nat.div_le_self _ _
  obtain ⟨d, hd⟩ : ∃ d, d = i / 2 ^ k := ⟨_, rfl⟩
  have hrs : rv i (k + 1) = 2 * rv i k + d % 2 := by rw [rv, hd]
  rw [← hd] at hdd hdl ⊢
  repeat first
    | refine XC_region ?_
    | refine X_nil ?_
    | refine XC_seq ?_
    | refine XT_seq ?_
    | refine Y_res (r_move rfl) rfl ?_
    | refine Y_res (r_lss rfl rfl) rfl ?_
  refine XC_condP rfl (fun hlt => ?_) (fun hge => ?_)
  · repeat first
      | refine XC_region ?_
      | refine X_nil ?_
      | refine XC_seq ?_
      | refine XT_seq ?_
      | refine XC_block ?_
      | refine XT_block_normal ?_
      | refine XC_skip ?_
      | refine Y_res (r_move rfl) rfl ?_
      | refine Y_res (r_assign rfl) rfl ?_
      | refine Y_res (r_add64 rfl rfl (by omega)) rfl ?_
      | refine Y_res (r_mul64 rfl rfl (by omega)) rfl ?_
      | refine Y_res (r_rem rfl rfl (by omega)) rfl ?_
      | refine Y_res (r_quo rfl rfl (by omega)) rfl ?_
    refine XT_round (k + 1) (by omega) (by omega) ⟨by rw [hdd]; rfl, by rw [hrs]; exact congrArg (fun q => some (Value.int .i64 q)) (by omega), rfl, trivial⟩ (fun _ h => h)
  · obtain rfl : k = 8 := by omega
    rw [hr8] at hv ⊢
    clear hrs hdd hd hdl
    repeat first
      | refine XC_region ?_
      | refine X_nil ?_
      | refine XC_seq ?_
      | refine XT_seq ?_
      | refine XC_block ?_
      | refine XT_block_same rfl ?_
      | refine XT_then_exit ?_
      | refine XC_exit ?_
      | refine Y_res (r_assign rfl) rfl ?_
    refine XC_loop (ι := Nat) (fun k => k ≤ 2 * brv i + 1) (fun k => [(3, .int .i64 (brv i)), (5, .int .i64 (pk k)), (6, .int .i64 k)]) (fun k => Hp w (fun _ => False) []) (fun k => 2 * brv i + 1 - k) 0 (by omega) ⟨rfl, rfl, rfl, trivial⟩ (fun _ h => h) ?_
    intro k hk2
    have hpb := pk_bd k
    repeat first
      | refine XC_region ?_
      | refine X_nil ?_
      | refine XC_seq ?_
      | refine XT_seq ?_
      | refine Y_res (r_move rfl) rfl ?_
      | refine Y_res (r_add64 rfl rfl (by omega)) rfl ?_
      | refine Y_res (r_mul64 rfl rfl (by omega)) rfl ?_
      | refine Y_res (r_lss rfl rfl) rfl ?_
    refine XC_condP rfl (fun hlt => ?_) (fun hge => ?_)
    · repeat first
        | refine XC_region ?_
        | refine X_nil ?_
        | refine XC_seq ?_
        | refine XT_seq ?_
        | refine XC_block ?_
        | refine XT_block_normal ?_
        | refine XC_skip ?_
        | refine Y_res (r_move rfl) rfl ?_
        | refine Y_res (r_assign rfl) rfl ?_
        | refine Y_res (r_add64 rfl rfl (by omega)) rfl ?_
        | refine Y_res (r_mul64 rfl rfl (by omega)) rfl ?_
        | refine Y_res (r_rem rfl rfl (by omega)) rfl ?_
      refine XT_round (k + 1) (by omega) (by omega) ⟨rfl, by rw [← pk_succ]; rfl, rfl, trivial⟩ (fun _ h => h)
    · obtain rfl : k = 2 * brv i + 1 := by omega
      repeat first
        | refine XC_region ?_
        | refine X_nil ?_
        | refine XC_seq ?_
        | refine XT_seq ?_
        | refine XT_block_same rfl ?_
        | refine XT_then_exit ?_
        | refine XC_exit ?_
        | refine XC_ret ?_
        | refine Y_res (r_move rfl) rfl ?_
        | refine Y_res (r_assign rfl) rfl ?_
      exact XT_ret1 (.inl rfl) Try.results32 rfl (fun w' h => ⟨rfl, h.chg⟩)
set_option maxHeartbeats 1000000 in
set_option maxRecDepth 100000 in
theorem rthere_any (a : List Int) (A : Option Addr) (ca : Nat) (w : World) (ha : Rds w A ca .i64 a) (hoa : Ok a) :
    Calls Try.prog 16 #[.slice A a.length ca] w fun e w' => ∃ v, e = .returned v ∧ NewSl w w' (thr a) v ∧ Chg (fun _ => False) w w' := by
  obtain ⟨z, hz⟩ : ∃ z, z = thr a := ⟨_, rfl⟩
  have hzo := thr_ok hoa
  have hpt : ∀ i, i < 256 → hr a (ptN i) 256 = z.getD i 0 := fun i hi => by rw [hz]; exact hr_thr hoa hi
  have hpt := Lib.hid hpt
  rw [← hz] at hzo ⊢
  clear hz
  have hla := hoa.1
  have hca := ha.le
  refine calls_of_X (vs := [_]) (M := Hp w (fun _ => False) []) Try.func16 rfl Try.ntmps16 rfl (Hp.nil _ _) ?_
  repeat first
    | refine XC_region ?_
    | refine X_nil ?_
    | refine XC_seq ?_
    | refine XT_seq ?_
    | refine XC_block ?_
    | refine Y_res (r_assign rfl) rfl ?_
    | (refine X_make rfl rfl (by omega) (by omega) (by omega) rfl ?_; intro _ _)
  rename_i go hgo
  refine XC_loop (ι := Nat) (fun i => i ≤ 256) (fun i => [(0, .slice A a.length ca), (3, .slice (some ⟨go, 0, none⟩) 256 256), (4, .int .i64 i)])
    (fun i => Hp w (fun _ => False) [Ch.sl (some ⟨go, 0, none⟩) 256 3 .i64 (part z i)]) (fun i => 256 - i) 0 (by omega) ⟨rfl, rfl, rfl, trivial⟩ (fun _ h => by rw [part_0]; exact h) ?_
  intro i hi
  have hpl := part_len z i
  repeat first
    | refine XC_region ?_
    | refine X_nil ?_
    | refine XC_seq ?_
    | refine XT_seq ?_
    | refine Y_res (r_move rfl) rfl ?_
    | refine Y_res (r_lss rfl rfl) rfl ?_
  refine XC_condP rfl (fun hlt => ?_) (fun hge => ?_)
  · have hi2 : i < 256 := by omega
    have hpb := Nat.mod_lt (1753 ^ (2 * brv i + 1)) (show 0 < 8380417 by decide)
    change ptN i < 8380417 at hpb
    repeat first
      | refine XC_region ?_
      | refine X_nil ?_
      | refine XC_seq ?_
      | refine XT_seq ?_
      | refine XC_block ?_
      | refine XC_skip ?_
      | refine Y_res (r_move rfl) rfl ?_
      | refine Y_res (r_assign rfl) rfl ?_
      | refine Y_call (g := 32) rfl rfl (fun w1 hM => (rpoint_any i w1 hi2).mono fun e w2 h => ⟨h.1, hM.keep h.2⟩) ?_
    refine XC_loop (ι := Nat) (fun m => m ≤ 256) (fun m => [(0, .slice A a.length ca), (3, .slice (some ⟨go, 0, none⟩) 256 256), (4, .int .i64 i), (5, .int .i64 (ptN i)), (6, .int .i64 (hr a (ptN i) m)), (7, .int .i64 (255 - (m : Int)))])
      (fun m => Hp w (fun _ => False) [Ch.sl (some ⟨go, 0, none⟩) 256 3 .i64 (part z i)]) (fun m => 256 - m) 0 (by omega) ⟨rfl, rfl, rfl, rfl, rfl, rfl, trivial⟩ (fun _ h => h) ?_
    intro m hm
    have hhb := hr_bd a (ptN i) m
    repeat first
      | refine XC_region ?_
      | refine X_nil ?_
      | refine XC_seq ?_
      | refine XT_seq ?_
      | refine Y_res (r_move rfl) rfl ?_
      | refine Y_res (r_geq rfl rfl) rfl ?_
    refine XC_condP rfl (fun hlt => ?_) (fun hge => ?_)
    · have hm2 : m < 256 := by omega
      have hmb := mul_bd hhb (show 0 ≤ (ptN i : Int) ∧ (ptN i : Int) < 8380417 by omega)
      have hae := hoa.2 (255 - m) (by omega)
      have hnat : (255 - (m : Int)).toNat = 255 - m := by omega
      rw [← hnat] at hae
      repeat first
        | refine XC_region ?_
        | refine X_nil ?_
        | refine XC_seq ?_
        | refine XT_seq ?_
        | refine XC_block ?_
        | refine XT_block_normal ?_
        | refine XC_skip ?_
        | refine Y_res (r_move rfl) rfl ?_
        | refine Y_res (r_assign rfl) rfl ?_
        | refine Y_res (r_add64 rfl rfl (by omega)) rfl ?_
        | refine Y_res (r_sub64 rfl rfl (by omega)) rfl ?_
        | refine Y_res (r_mul64 rfl rfl (by omega)) rfl ?_
        | refine Y_res (r_rem rfl rfl (by omega)) rfl ?_
        | refine Y_res (r_indexRT rfl rfl (by assumption) (by omega) (by omega) (by omega)) rfl ?_
        | refine Y_res (r_loadR rfl (by assumption) (by first | exact old_false | assumption) (by omega)) rfl ?_
      refine XT_round (m + 1) (by omega) (by omega) ⟨rfl, rfl, rfl, rfl, by rw [hr, ← hnat]; rfl, by exact congrArg (fun q => some (Value.int .i64 q)) (by omega), trivial⟩ (fun _ h => h)
    · obtain rfl : m = 256 := by omega
      rw [hpt.out i hi2]
      repeat first
        | refine XC_region ?_
        | refine X_nil ?_
        | refine XT_seq ?_
        | refine XT_block_normal ?_
        | refine XT_block_same rfl ?_
        | refine XT_then_exit ?_
        | refine XC_exit ?_
        | refine Y_res (r_move rfl) rfl ?_
        | refine Y_res (r_assign rfl) rfl ?_
        | refine Y_res (r_add64 rfl rfl (by omega)) rfl ?_
        | refine Y_res (r_indexS rfl rfl (by omega) (by first | omega | (simp only [List.length_set, List.length_replicate]; omega))) rfl ?_
        | refine X_storeI rfl rfl (by first | omega | (simp only [List.length_set, List.length_replicate]; omega)) ?_
      refine XT_round (i + 1) (by omega) (by omega) ⟨rfl, rfl, rfl, trivial⟩ (fun w3 h3 => ?_)
      rw [← part_set z i hi2]
      exact h3
  · obtain rfl : i = 256 := by omega
    rw [part_256 z hzo.1]
    repeat first
      | refine XC_region ?_
      | refine X_nil ?_
      | refine XC_seq ?_
      | refine XT_seq ?_
      | refine XT_block_same rfl ?_
      | refine XT_then_exit ?_
      | refine XC_exit ?_
      | refine XC_ret ?_
      | refine Y_res (r_move rfl) rfl ?_
      | refine Y_res (r_assign rfl) rfl ?_
    refine XT_ret1 (.inl rfl) Try.results16 rfl (fun w' h => ?_)
    exact ⟨_, rfl, ⟨_, _, by rw [hzo.1], h.head, fun j hj => (h.own _ (List.mem_cons_self ..) j hj).resolve_left (fun h => h)⟩, h.chg⟩
end Go.Proofs.Ytoednaebdfohbaa.NRing
