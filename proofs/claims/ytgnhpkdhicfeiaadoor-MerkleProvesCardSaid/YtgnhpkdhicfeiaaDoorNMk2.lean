/- The greatest power of 2 below a number, and which power a number is: walked (numbers to 128). -/
import Derived.Test.YtgnhpkdhicfeiaaDoorNMk
namespace Go.Proofs.YtgnhpkdhicfeiaaDoor.NMk
open Go Go.RowKit Go.Proofs.YtgnhpkdhicfeiaaDoor.MX Go.Proofs.YtgnhpkdhicfeiaaDoor.PMerkle
set_option linter.unusedVariables false
set_option linter.unusedSimpArgs false
set_option linter.unusedVariables false
def lenT : List Int := (List.range 128).map fun n => if n = 0 then 0 else ((Nat.log2 n + 1 : Nat) : Int)
theorem lenT_bd : ∀ x, x < 128 → 0 ≤ lenT.getD x 0 ∧ lenT.getD x 0 ≤ 7 := by decide +kernel
set_option maxRecDepth 100000 in
set_option maxHeartbeats 1000000 in
theorem len64_any (x : Nat) (w : World) (hx : x < 128) : Calls Tryd.prog 59 #[.int .u64 x] w (Says w (.int .i64 (lenT.getD x 0))) := by
  refine calls_of_X (vs := [_]) (M := Hp w (fun _ => False) []) Tryd.func59 rfl Tryd.ntmps59 rfl (Hp.nil _ _) ?_
  repeat first
    | refine XC_region ?_
    | refine X_nil ?_
    | refine XC_seq ?_
    | refine XT_seq ?_
    | refine Y_res (r_move rfl) rfl ?_
    | refine Y_res (r_assign rfl) rfl ?_
    | refine Y_res (r_geq rfl rfl) rfl ?_
  refine XC_condP rfl (fun h => ?_) (fun h => ?_)
  · exact absurd h (by omega)
  repeat first
    | refine XC_region ?_
    | refine X_nil ?_
    | refine XC_seq ?_
    | refine XT_seq ?_
    | refine XC_skip ?_
    | refine Y_res (r_move rfl) rfl ?_
    | refine Y_res (r_geq rfl rfl) rfl ?_
  refine XC_condP rfl (fun h => ?_) (fun h => ?_)
  · exact absurd h (by omega)
  repeat first
    | refine XC_region ?_
    | refine X_nil ?_
    | refine XC_seq ?_
    | refine XT_seq ?_
    | refine XC_skip ?_
    | refine Y_res (r_move rfl) rfl ?_
    | refine Y_res (r_geq rfl rfl) rfl ?_
  refine XC_condP rfl (fun h => ?_) (fun h => ?_)
  · exact absurd h (by omega)
  repeat first
    | refine XC_region ?_
    | refine XC_seq ?_
    | refine XT_seq ?_
    | refine XC_skip ?_
    | refine Y_res (r_move rfl) rfl ?_
    | refine Y_res (r_conv8 rfl) rfl ?_
  refine Y_res (r_indexStr (m := (lenT.getD x 0).toNat) rfl rfl ?_) rfl ?_
  · rw [show x % 256 = x by omega]
    revert x
    decide +kernel
  have hl := lenT_bd x hx
  repeat first
    | refine X_nil ?_
    | refine XT_seq ?_
    | refine XC_ret ?_
    | refine Y_res (r_assign rfl) rfl ?_
    | refine Y_res (r_add64 rfl rfl (by omega)) rfl ?_
    | refine Y_res (r_conv64 rfl (by omega)) rfl ?_
  refine XT_says (.inl rfl) Tryd.results59 rfl (by rw [Int.zero_add]; congr 1; omega)
set_option maxHeartbeats 1000000 in
theorem len_any (x : Nat) (w : World) (hx : x < 128) : Calls Tryd.prog 51 #[.int .u64 x] w (Says w (.int .i64 (lenT.getD x 0))) := by
  refine calls_of_X (vs := [_]) (M := Hp w (fun _ => False) []) Tryd.func51 rfl Tryd.ntmps51 rfl (Hp.nil _ _) ?_
  repeat first
    | refine XC_region ?_
    | refine X_nil ?_
    | refine XC_condF rfl ?_
    | refine XC_seq ?_
    | refine XT_seq ?_
    | refine XC_skip ?_
    | refine XC_ret ?_
    | refine Y_res (r_move rfl) rfl ?_
    | refine Y_res (r_assign rfl) rfl ?_
    | refine Y_says (g := 59) rfl rfl (fun w1 hM => len64_any _ w1 hx) ?_
  exact XT_says (.inl rfl) Tryd.results51 rfl rfl
theorem cut_fact0 : ∀ n, n < 129 → 2 ≤ n → 1 ≤ lenT.getD (n - 1) 0 ∧ lenT.getD (n - 1) 0 ≤ 7 ∧ 2 ^ (lenT.getD (n - 1) 0 - 1).toNat = cutN n := by decide +kernel
theorem cut_fact (n : Nat) (h : 2 ≤ n) (h2 : n ≤ 128) : 1 ≤ lenT.getD (n - 1) 0 ∧ lenT.getD (n - 1) 0 ≤ 7 ∧ 2 ^ (lenT.getD (n - 1) 0 - 1).toNat = cutN n := cut_fact0 n (by omega) h
set_option maxHeartbeats 1000000 in
theorem cut_any (n : Nat) (w : World) (h : 2 ≤ n) (h2 : n ≤ 128) : Calls Tryd.prog 40 #[.int .i64 n] w (Says w (.int .i64 (cutN n))) := by
  refine calls_of_X (vs := [_]) (M := Hp w (fun _ => False) []) Tryd.func40 rfl Tryd.ntmps40 rfl (Hp.nil _ _) ?_
  obtain ⟨c1, c2, c3⟩ := cut_fact n h h2
  obtain ⟨e, he⟩ : ∃ e, e = (lenT.getD (n - 1) 0 - 1).toNat := ⟨_, rfl⟩
  rw [← he] at c3
  have he2 : lenT.getD (n - 1) 0 - 1 = (e : Int) := by omega
  repeat first
    | refine XC_region ?_
    | refine X_nil ?_
    | refine XC_seq ?_
    | refine XT_seq ?_
    | refine Y_res (r_move rfl) rfl ?_
    | refine Y_res (r_assign rfl) rfl ?_
    | refine Y_res (r_sub64 rfl rfl (by omega)) rfl ?_
    | refine Y_res (r_convuN rfl (by omega)) rfl ?_
  refine Y_re (e := 5) (v' := .int .u64 ((n - 1 : Nat) : Int)) rfl (by congr 1; omega) ?_
  repeat first
    | refine Y_res (r_sub64 rfl rfl (by omega)) rfl ?_
    | refine Y_says (g := 51) rfl rfl (fun w1 hM => len_any (n - 1) w1 (by omega)) ?_
  refine Y_res (r_shlV (s := e) rfl rfl he2 (by show e < 64; omega)) rfl ?_
  have hb := cutN_bd h
  have hw : IntKind.i64.wrap (1 * 2 ^ e) = (cutN n : Int) := by
    have e1 : (1 : Int) * 2 ^ e = ((2 ^ e : Nat) : Int) := by rw [Int.one_mul]; exact (Int.natCast_pow 2 e).symm
    rw [e1, c3]
    exact i64_id (by omega) (by omega)
  rw [hw]
  repeat first
    | refine X_nil ?_
    | refine XT_seq ?_
    | refine XC_ret ?_
    | refine Y_res (r_assign rfl) rfl ?_
  exact XT_says (.inl rfl) Tryd.results40 rfl rfl
set_option maxHeartbeats 1000000 in
theorem rcut_any (n : Nat) (w : World) (h : 2 ≤ n) (h2 : n ≤ 128) : Calls Tryd.prog 28 #[.int .i64 n] w (Says w (.int .i64 (cutN n))) := by
  refine calls_of_X (vs := [_]) (M := Hp w (fun _ => False) []) Tryd.func28 rfl Tryd.ntmps28 rfl (Hp.nil _ _) ?_
  repeat first
    | refine XC_region ?_
    | refine X_nil ?_
    | refine XC_seq ?_
    | refine XT_seq ?_
    | refine XC_block ?_
    | refine Y_res (r_assign rfl) rfl ?_
  refine XC_loop (ι := Nat) (fun j => j ≤ 7 ∧ 2 ^ j < n) (fun j => [(0, .int .i64 n), (3, .int .i64 ((2 ^ j : Nat) : Int))]) (fun j => Hp w (fun _ => False) []) (fun j => 10 - j) 0 ⟨Nat.zero_le _, by omega⟩ ⟨rfl, rfl, trivial⟩ (fun _ h => h) ?_
  rintro j ⟨hj, hjn⟩
  have hp := Nat.two_pow_pos j
  have hs : 2 ^ (j + 1) = 2 * 2 ^ j := by rw [Nat.pow_succ]; omega
  obtain ⟨q, hq⟩ : ∃ q, q = 2 ^ j := ⟨_, rfl⟩
  rw [← hq] at hjn hp hs ⊢
  repeat first
    | refine XC_region ?_
    | refine X_nil ?_
    | refine XC_seq ?_
    | refine XT_seq ?_
    | refine Y_res (r_move rfl) rfl ?_
    | refine Y_res (r_sub64 rfl rfl (by omega)) rfl ?_
    | refine Y_res (r_lss rfl rfl) rfl ?_
  refine XC_condP rfl (fun hlt => ?_) (fun hge => ?_)
  · repeat first
      | refine XC_region ?_
      | refine X_nil ?_
      | refine XT_seq ?_
      | refine XC_block ?_
      | refine XT_block_normal ?_
      | refine XC_skip ?_
      | refine Y_res (r_move rfl) rfl ?_
      | refine Y_res (r_assign rfl) rfl ?_
      | refine Y_res (r_mul64 rfl rfl (by omega)) rfl ?_
    have hj6 : j < 7 := by
      rcases Nat.lt_or_ge j 7 with h7 | h7
      · exact h7
      · obtain rfl : j = 7 := by omega
        omega
    refine XT_re (e := 3) (v' := .int .i64 ((2 ^ (j + 1) : Nat) : Int)) rfl (by rw [hs]; congr 1) ?_
    exact XT_round (j + 1) ⟨by omega, by rw [hs]; omega⟩ (by omega) ⟨rfl, rfl, trivial⟩ (fun _ h => h)
  · repeat first
      | refine XC_region ?_
      | refine X_nil ?_
      | refine XC_seq ?_
      | refine XT_seq ?_
      | refine XT_block_same rfl ?_
      | refine XT_then_exit ?_
      | refine XC_exit ?_
      | refine XC_ret ?_
      | refine Y_res (r_move rfl) rfl ?_
      | refine Y_res (r_assign rfl) rfl ?_
    exact XT_says (.inl rfl) Tryd.results28 rfl (by rw [cutN_of (n := n) (k := j) (by rw [← hq]; exact hjn) (by rw [← hq]; omega), ← hq])
/-- Where the table tells of a power of 2. -/
def tzI (z : Nat) : Nat := (285870213051353865 * 2 ^ z % 18446744073709551616) / 288230376151711744
/-- The table by which it is told which power of 2 a number is. -/
def TzAt (w : World) : Prop := ∀ z : Nat, z < 8 → w.cell? ⟨1, tzI z, none⟩ = some (.int .u8 (z : Int))
theorem TzAt.keep {w w' : World} (h : TzAt w) (hc : Chg (fun _ => False) w w') : TzAt w' := fun z hz => cell_chg (h z hz) hc (fun h => h)
theorem tz_fact : ∀ z, z < 8 → tzI z < 64 ∧ bits .and .u64 ((2 ^ z : Nat) : Int) (IntKind.u64.wrap (0 - ((2 ^ z : Nat) : Int))) * 285870213051353865 % 18446744073709551616 / 288230376151711744 = ((tzI z : Nat) : Int) := by decide +kernel
set_option maxHeartbeats 1000000 in
theorem tz64_any (z : Nat) (w : World) (hz : z < 8) (hT : TzAt w) : Calls Tryd.prog 53 #[.int .u64 ((2 ^ z : Nat) : Int)] w (Says w (.int .i64 z)) := by
  have hc := hT z hz
  obtain ⟨f1, f2⟩ := tz_fact z hz
  have hp := Nat.two_pow_pos z
  refine calls_of_X (vs := [_]) (M := Hp w (fun _ => False) []) Tryd.func53 rfl Tryd.ntmps53 rfl (Hp.nil _ _) ?_
  generalize 2 ^ z = p at f2 hp ⊢
  repeat first
    | refine XC_region ?_
    | refine X_nil ?_
    | refine XC_seq ?_
    | refine XT_seq ?_
    | refine Y_res (r_move rfl) rfl ?_
    | refine Y_res (r_assign rfl) rfl ?_
    | refine Y_res (r_eql rfl rfl) rfl ?_
  refine XC_condP rfl (fun h1 => ?_) (fun h1 => ?_)
  · exact absurd h1 (by omega)
  repeat first
    | refine XC_region ?_
    | refine XC_seq ?_
    | refine XT_seq ?_
    | refine XC_skip ?_
    | refine Y_res (r_move rfl) rfl ?_
    | refine Y_res (r_mulu rfl rfl) rfl ?_
    | refine Y_res (r_and rfl rfl) rfl ?_
    | refine Y_res (r_shr rfl rfl rfl) rfl ?_
    | refine Y_res (r_indexA0T rfl rfl (by omega) (by omega)) rfl ?_
    | refine Y_res (r_neg rfl) rfl ?_
  rw [f2]
  repeat first
    | refine X_nil ?_
    | refine XT_seq ?_
    | refine XC_ret ?_
    | refine Y_res (r_assign rfl) rfl ?_
    | refine Y_res (r_conv64 rfl (by omega)) rfl ?_
    | refine Y_res (r_loadO rfl hc (fun h => h)) rfl ?_
  exact XT_says (.inl rfl) Tryd.results53 rfl rfl
set_option maxHeartbeats 1000000 in
theorem tz_any (z : Nat) (w : World) (hz : z < 8) (hT : TzAt w) : Calls Tryd.prog 41 #[.int .u64 ((2 ^ z : Nat) : Int)] w (Says w (.int .i64 z)) := by
  refine calls_of_X (vs := [_]) (M := Hp w (fun _ => False) []) Tryd.func41 rfl Tryd.ntmps41 rfl (Hp.nil _ _) ?_
  repeat first
    | refine XC_region ?_
    | refine X_nil ?_
    | refine XC_condF rfl ?_
    | refine XC_seq ?_
    | refine XT_seq ?_
    | refine XC_skip ?_
    | refine XC_ret ?_
    | refine Y_res (r_move rfl) rfl ?_
    | refine Y_res (r_assign rfl) rfl ?_
    | refine Y_says (g := 53) rfl rfl (fun w1 hM => tz64_any z w1 hz (hT.keep hM.chg)) ?_
  exact XT_says (.inl rfl) Tryd.results41 rfl rfl
end Go.Proofs.YtgnhpkdhicfeiaaDoor.NMk
