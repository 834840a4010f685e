/- A log's numbers: walked; where a log lies. -/
import Derived.Test.YtgfpibojgkleiaaNPl5K
import Derived.Test.YtgfpibojgkleiaaPWal
import Derived.Laws.BitsLemmas
namespace Go.Proofs.Ytgfpibojgkleiaa.NWl
open Go Go.RowKit Go.Proofs.Ytgfpibojgkleiaa.MX Go.Proofs.Ytgfpibojgkleiaa.PWal Go.Proofs.Ytgfpibojgkleiaa.NPl
set_option linter.unusedVariables false
set_option linter.unusedSimpArgs false
set_option linter.unusedVariables false
theorem or_low {x : Nat} {c : Int} (hc : 0 ≤ c ∧ c < 256) (hx : x < 36028797018963968) : bits .or .i64 ((x : Int) * 256) c = ((256 * x + c.toNat : Nat) : Int) := by
  have hw : ∀ n : Int, 0 ≤ n → n < 2 ^ 63 → IntKind.i64.wrap n = n := fun n h₀ h₁ => i64_id (by omega) (by omega)
  have h := bits_join .i64 63 (by decide) hw 8 ((x : Int) * 256) c (by omega) (by omega) (by omega) hc.1 (by omega) (by omega)
  rw [h]
  omega
set_option maxHeartbeats 2000000 in
theorem num_any (xs : List Int) (A : Option Addr) (c : Nat) (w : World) (hr : Rds w A c .u8 xs) (hl : xs.length ≤ 4) (hwf : ∀ x ∈ xs, 0 ≤ x ∧ x < 256) :
    Calls Try.prog 37 #[.slice A xs.length c] w (Says w (.int .i64 (numS xs))) := by
  have hle := hr.le
  refine calls_of_X (vs := [_]) (M := Hp w (fun _ => False) []) Try.func37 rfl Try.ntmps37 rfl (Hp.nil _ _) ?_
  repeat first
    | refine XC_region ?_
    | refine X_nil ?_
    | refine XC_seq ?_
    | refine XT_seq ?_
    | refine XC_block ?_
    | refine Y_res (r_move rfl) rfl ?_
    | refine Y_res (r_assign rfl) rfl ?_
    | refine Y_res (r_len rfl) rfl ?_
  refine XC_loop (ι := Nat) (fun i => i ≤ xs.length) (fun i => [(0, .slice A xs.length c), (3, .int .i64 (numS (xs.take i))), (6, .slice A xs.length c), (7, .int .i64 xs.length), (8, .int .i64 i)]) (fun i => Hp w (fun _ => False) []) (fun i => xs.length - i) 0 (Nat.zero_le _) ⟨rfl, rfl, rfl, rfl, rfl, trivial⟩ (fun _ h => h) ?_
  intro i hi
  repeat first
    | refine XC_region ?_
    | refine X_nil ?_
    | refine XC_seq ?_
    | refine XT_seq ?_
    | refine Y_res (r_lss rfl rfl) rfl ?_
  refine XC_condP rfl (fun hlt => ?_) (fun hge => ?_)
  · have hi2 : i < xs.length := by omega
    have hx := hwf (xs.getD i 0) (by rw [List.getD_eq_getElem?_getD, List.getElem?_eq_getElem hi2]; exact List.getElem_mem _)
    have hn : numS (xs.take i) < 16777216 := by
      have h1 := numS_lt (xs.take i) (fun x hx => hwf x (List.mem_of_mem_take hx))
      have h2 : (xs.take i).length ≤ 3 := by rw [List.length_take]; omega
      exact Nat.lt_of_lt_of_le h1 (Nat.pow_le_pow_right (by decide) h2)
    have hst : numS (xs.take (i + 1)) = 256 * numS (xs.take i) + (xs.getD i 0).toNat := by
      rw [List.take_succ_eq_append_getElem hi2, numS_snoc, List.getD_eq_getElem?_getD, List.getElem?_eq_getElem hi2]
      rfl
    repeat first
      | refine XC_region ?_
      | refine X_nil ?_
      | refine XC_seq ?_
      | refine XT_seq ?_
      | refine XC_block ?_
      | refine XT_block_normal ?_
      | refine XC_skip ?_
      | refine Y_res (r_move rfl) rfl ?_
      | refine Y_res (r_assign rfl) rfl ?_
      | refine Y_res (r_add64 rfl rfl (by omega)) rfl ?_
      | refine Y_res (r_or rfl rfl) rfl ?_
      | refine Y_res (r_shl64 rfl rfl rfl (by omega)) rfl ?_
      | refine Y_res (r_conv64 rfl (by omega)) rfl ?_
      | refine Y_res (r_indexR rfl rfl (by assumption) (by omega) (by omega)) rfl ?_
      | refine Y_res (r_loadR rfl (by assumption) (by first | exact old_false | assumption) (by omega)) rfl ?_
    refine XT_re (e := 3) (v' := .int .i64 (numS (xs.take (i + 1)))) rfl (by rw [hst, ← or_low hx (by omega)]) ?_
    exact XT_round (i + 1) (by omega) (by omega) ⟨rfl, rfl, rfl, rfl, rfl, trivial⟩ (fun _ h => h)
  · obtain rfl : i = xs.length := by omega
    rw [List.take_length]
    repeat first
      | refine XC_region ?_
      | refine X_nil ?_
      | refine XC_seq ?_
      | refine XT_seq ?_
      | refine XT_block_same rfl ?_
      | refine XT_then_exit ?_
      | refine XC_exit ?_
      | refine XC_ret ?_
      | refine Y_res (r_move rfl) rfl ?_
      | refine Y_res (r_assign rfl) rfl ?_
    exact XT_says (.inl rfl) Try.results37 rfl rfl
set_option maxHeartbeats 1000000 in
theorem needs_any (n : Nat) (w : World) (hn : n ≤ 4000000000000000000) : Calls Try.prog 30 #[.int .i64 n] w (Says w (.int .i64 (needs n))) := by
  refine calls_of_X (vs := [_]) (M := Hp w (fun _ => False) []) Try.func30 rfl Try.ntmps30 rfl (Hp.nil _ _) ?_
  repeat first
    | refine XC_region ?_
    | refine X_nil ?_
    | refine XC_seq ?_
    | refine XT_seq ?_
    | refine XC_ret ?_
    | refine Y_res (r_move rfl) rfl ?_
    | refine Y_res (r_assign rfl) rfl ?_
    | refine Y_res (r_add64 rfl rfl (by omega)) rfl ?_
    | refine Y_res (r_sub64 rfl rfl (by omega)) rfl ?_
    | refine Y_res (r_quo rfl rfl (by omega)) rfl ?_
  exact XT_says (.inl rfl) Try.results30 rfl (by congr 1; unfold needs; omega)
set_option maxHeartbeats 2000000 in
/-- A number, written behind what is there. -/
theorem put_any (out : List Int) (A : Option Addr) (c n k : Nat) (w w0 : World) (TS : Nat → Prop) (es : List Ch) (hT : Hp w0 TS (Ch.sl A c 5 .u8 out :: es) w) (hk : 1 ≤ k ∧ k ≤ 4) (hn : n < 256 ^ k) (ho : out.length ≤ 1000) :
    Calls Try.prog 31 #[.slice A out.length c, .int .i64 n, .int .i64 k] w fun e w' => ∃ A' c', e = .returned (.slice A' (out ++ be n k).length c') ∧ Hp w0 TS (Ch.sl A' c' 5 .u8 (out ++ be n k) :: es) w' := by
  have hn2 : n < 4294967296 := Nat.lt_of_lt_of_le hn (Nat.pow_le_pow_right (by decide) hk.2)
  refine calls_of_X (vs := [_, _, _]) (M := Hp w0 TS (Ch.sl A c 5 .u8 out :: es)) Try.func31 rfl Try.ntmps31 rfl hT ?_
  clear hT
  repeat first
    | refine XC_region ?_
    | refine X_nil ?_
    | refine XC_seq ?_
    | refine XT_seq ?_
    | refine XC_block ?_
    | refine Y_res (r_move rfl) rfl ?_
    | refine Y_res (r_assign rfl) rfl ?_
    | refine Y_res (r_sub64 rfl rfl (by omega)) rfl ?_
    | refine Y_res (r_mul64 rfl rfl (by omega)) rfl ?_
  refine XC_re (e := 7) (v' := .int .i64 (8 * ((k : Int) - 1 - ((0 : Nat) : Int)))) rfl (by simp) ?_
  refine XC_re (e := 0) (v' := .slice A (out ++ (be n k).take 0).length c) rfl (by simp) ?_
  refine XC_loop (ι := Nat × Option Addr × Nat) (fun j => j.1 ≤ k) (fun j => [(0, .slice j.2.1 (out ++ (be n k).take j.1).length j.2.2), (1, .int .i64 n), (7, .int .i64 (8 * ((k : Int) - 1 - (j.1 : Nat))))]) (fun j => Hp w0 TS (Ch.sl j.2.1 j.2.2 5 .u8 (out ++ (be n k).take j.1) :: es)) (fun j => k - j.1) (0, A, c) (Nat.zero_le _) ⟨rfl, rfl, rfl, trivial⟩ (fun _ h => by simpa using h) ?_
  rintro ⟨i, A1, c1⟩ hi
  dsimp only at hi ⊢
  repeat first
    | refine XC_region ?_
    | refine X_nil ?_
    | refine XC_seq ?_
    | refine XT_seq ?_
    | refine Y_res (r_move rfl) rfl ?_
    | refine Y_res (r_geq rfl rfl) rfl ?_
  refine XC_condP rfl (fun hlt => ?_) (fun hge => ?_)
  · have hi2 : i < k := by omega
    obtain ⟨m, hm⟩ : ∃ m : Nat, m = 8 * (k - 1 - i) := ⟨_, rfl⟩
    have hml : ((out ++ (be n k).take i)).length ≤ 1004 := by simp [be_len]; omega
    have hst : out ++ (be n k).take (i + 1) = (out ++ (be n k).take i) ++ [((n : Int) / 2 ^ m % 256)] := by
      have hb : (be n k)[i]? = some ((n / 256 ^ (k - 1 - i) % 256 : Nat) : Int) := by
        rw [be, List.getElem?_map, List.getElem?_range hi2]
        rfl
      obtain ⟨h1, h2⟩ := List.getElem?_eq_some_iff.1 hb
      rw [List.take_succ_eq_append_getElem h1, h2, List.append_assoc]
      congr 3
      have e : (2 : Int) ^ m = ((256 ^ (k - 1 - i) : Nat) : Int) := by
        rw [show (256 : Nat) = 2 ^ 8 from rfl, ← Nat.pow_mul, ← hm, Int.natCast_pow]
        rfl
      rw [e]
      rfl
    repeat first
      | refine XC_region ?_
      | refine X_nil ?_
      | refine XC_seq ?_
      | refine XT_seq ?_
      | refine XC_block ?_
      | refine XT_block_normal ?_
      | refine XC_skip ?_
      | refine Y_res (r_move rfl) rfl ?_
      | refine Y_res (r_assign rfl) rfl ?_
      | refine Y_res (r_sub64 rfl rfl (by omega)) rfl ?_
      | refine Y_res (r_conv8 rfl) rfl ?_
      | (refine X_buildS (by rfl) (by rfl) (by simp) rfl ?_; intro _ _)
      | (refine X_append rfl rfl (fun w_ h_ => rds_ints (Hp.head h_) (by simp) (by decide)) (by rfl) (by rfl) (by rfl) (by first | omega | (simp only [List.length_cons, List.length_nil]; omega)) (by first | omega | (simp only [List.length_cons, List.length_nil]; omega)) rfl ?_; intro _ _)
      | refine Y_res (r_shrV (s := m) rfl rfl (by omega) (by show m < 64; omega)) rfl ?_
    rename_i g1 hg1 A2 c2
    rw [← hst]
    refine XT_re (e := 7) (v' := .int .i64 (8 * ((k : Int) - 1 - ((i + 1 : Nat) : Int)))) rfl (by congr 1; omega) ?_
    exact XT_round (i + 1, A2, c2) hi2 (by dsimp only; omega) ⟨by rw [hst]; rfl, rfl, rfl, trivial⟩ (fun _ h => h.tail)
  · obtain rfl : i = k := by omega
    have hb : (be n i).take i = be n i := List.take_of_length_le (by rw [be_len]; omega)
    rw [hb]
    repeat first
      | refine XC_region ?_
      | refine X_nil ?_
      | refine XC_seq ?_
      | refine XT_seq ?_
      | refine XT_block_same rfl ?_
      | refine XT_then_exit ?_
      | refine XC_exit ?_
      | refine XC_ret ?_
      | refine Y_res (r_move rfl) rfl ?_
      | refine Y_res (r_assign rfl) rfl ?_
    exact XT_ret1 (.inl rfl) Try.results31 rfl (fun w' h => ⟨A1, c1, rfl, h⟩)
end Go.Proofs.Ytgfpibojgkleiaa.NWl
