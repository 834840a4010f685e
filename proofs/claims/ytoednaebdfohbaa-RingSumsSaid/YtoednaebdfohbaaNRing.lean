/- The ring's small functions, walked. -/
import Derived.Test.YtoednaebdfohbaaMT
import Derived.Test.YtoednaebdfohbaaMXF
import Derived.Lib.Hide
import Derived.Laws.BitsLemmas
namespace Go.Proofs.Ytoednaebdfohbaa.NRing
open Go Go.RowKit Go.Proofs.Ytoednaebdfohbaa.MX
set_option linter.unusedVariables false
set_option linter.unusedSimpArgs false
set_option linter.unusedVariables false
theorem and_1 (n : Int) : bits .and .i64 n 1 = n % 2 := by
  have h1 : (BitVec.ofInt 64 1).toNat = 2 ^ 1 - 1 := by decide
  have key : (BitVec.ofInt 64 n &&& BitVec.ofInt 64 1).toNat = (n % ((2 ^ 64 : Nat) : Int)).toNat % 2 ^ 1 := by
    rw [BitVec.toNat_and, BitVec.toNat_ofInt, h1, Nat.and_two_pow_sub_one_eq_mod]
  show IntKind.i64.wrap ((BitVec.ofInt 64 n &&& BitVec.ofInt 64 1).toNat : Nat) = n % 2
  rw [key, IntKind.wrap_i64]
  omega
theorem mul_bd {a b : Int} (ha : 0 ≤ a ∧ a < 8380417) (hb : 0 ≤ b ∧ b < 8380417) : 0 ≤ a * b ∧ a * b ≤ 70231372333056 := by
  have h1 := Int.mul_nonneg ha.1 hb.1
  have h2 : a * b ≤ 8380416 * 8380416 := Int.mul_le_mul (by omega) (by omega) hb.1 (by decide)
  omega
/-- The power loop. -/
def pwF : Nat → Int → Int → Int → Int
  | 0, out, _, _ => out
  | f + 1, out, a, e => if 0 < e then pwF f (if e % 2 = 1 then out * a % 8380417 else out) (a * a % 8380417) (e / 2) else out
theorem pwF_0 (f : Nat) (out a : Int) : pwF f out a 0 = out := by cases f <;> rfl
set_option maxHeartbeats 1000000 in
set_option maxRecDepth 100000 in
theorem power_any (f : Nat) (a e : Int) (w : World) (ha : 0 ≤ a ∧ a < 8380417) (he : 0 ≤ e ∧ e < 2 ^ f ∧ e ≤ 9223372036854775807) :
    Calls Try.prog 31 #[.int .i64 a, .int .i64 e] w fun x w' => x = .returned (.int .i64 (pwF f 1 a e)) ∧ Chg (fun _ => False) w w' := by
  refine calls_of_X (vs := [_, _]) (M := Hp w (fun _ => False) []) Try.func31 rfl Try.ntmps31 rfl (Hp.nil _ _) ?_
  repeat first
    | refine XC_region ?_
    | refine X_nil ?_
    | refine XC_seq ?_
    | refine XT_seq ?_
    | refine XC_block ?_
    | refine Y_res (r_assign rfl) rfl ?_
  refine XC_loop (ι := Nat × Int × Int × Int) (fun i => pwF i.1 i.2.1 i.2.2.1 i.2.2.2 = pwF f 1 a e ∧ (0 ≤ i.2.1 ∧ i.2.1 < 8380417) ∧ (0 ≤ i.2.2.1 ∧ i.2.2.1 < 8380417) ∧ 0 ≤ i.2.2.2 ∧ i.2.2.2 < 2 ^ i.1)
    (fun i => [(0, .int .i64 i.2.2.1), (1, .int .i64 i.2.2.2), (5, .int .i64 i.2.1)]) (fun i => Hp w (fun _ => False) []) (fun i => i.1) (f, 1, a, e) ⟨rfl, by dsimp only; omega, ha, he.1, he.2.1⟩ ⟨rfl, rfl, rfl, trivial⟩ (fun _ h => h) ?_
  rintro ⟨f1, o1, a1, e1⟩ ⟨hp, ho, ha1, he1, he2⟩
  dsimp only at hp ho ha1 he1 he2 ⊢
  repeat first
    | refine XC_region ?_
    | refine X_nil ?_
    | refine XC_seq ?_
    | refine XT_seq ?_
    | refine Y_res (r_move rfl) rfl ?_
    | refine Y_res (r_gtr rfl rfl) rfl ?_
  refine XC_condP rfl (fun hlt => ?_) (fun hge => ?_)
  · cases f1 with
    | zero => simp at he2; omega
    | succ f1 =>
      have hlt2 : 0 < e1 := hlt
      simp only [pwF, if_pos hlt2] at hp
      have hb1 := mul_bd ho ha1
      have hb2 := mul_bd ha1 ha1
      have hd : e1 / 2 < 2 ^ f1 := by rw [Int.pow_succ] at he2; omega
      repeat first
        | refine XC_region ?_
        | refine X_nil ?_
        | refine XC_seq ?_
        | refine XT_seq ?_
        | refine XC_block ?_
        | refine XC_skip ?_
        | refine Y_res (r_move rfl) rfl ?_
        | refine Y_res (r_and rfl rfl) rfl ?_
        | refine Y_res (r_eql rfl rfl) rfl ?_
      rw [and_1]
      refine XC_condP rfl (fun h1 => ?_) (fun h1 => ?_)
      · rw [if_pos h1] at hp
        repeat first
          | refine XC_region ?_
          | refine X_nil ?_
          | refine XT_seq ?_
          | refine XT_block_normal ?_
          | refine Y_res (r_move rfl) rfl ?_
          | refine Y_res (r_assign rfl) rfl ?_
          | refine Y_res (r_mul64 rfl rfl (by omega)) rfl ?_
          | refine Y_res (r_rem rfl rfl (by omega)) rfl ?_
          | refine Y_res (r_shr rfl rfl rfl) rfl ?_
        exact XT_round (f1, _, _, _) ⟨hp, by dsimp only; omega, by dsimp only; omega, by dsimp only; omega, hd⟩ (by dsimp only; omega) ⟨rfl, rfl, rfl, trivial⟩ (fun _ h => h)
      · rw [if_neg h1] at hp
        repeat first
          | refine XC_region ?_
          | refine X_nil ?_
          | refine XT_seq ?_
          | refine XT_block_normal ?_
          | refine XC_skip ?_
          | refine Y_res (r_move rfl) rfl ?_
          | refine Y_res (r_assign rfl) rfl ?_
          | refine Y_res (r_mul64 rfl rfl (by omega)) rfl ?_
          | refine Y_res (r_rem rfl rfl (by omega)) rfl ?_
          | refine Y_res (r_shr rfl rfl rfl) rfl ?_
        exact XT_round (f1, _, _, _) ⟨hp, ho, by dsimp only; omega, by dsimp only; omega, hd⟩ (by dsimp only; omega) ⟨rfl, rfl, rfl, trivial⟩ (fun _ h => h)
  · obtain rfl : e1 = 0 := by omega
    rw [pwF_0] at hp
    subst hp
    repeat first
      | refine XC_region ?_
      | refine X_nil ?_
      | refine XC_seq ?_
      | refine XT_seq ?_
      | refine XT_block_same rfl ?_
      | refine XT_then_exit ?_
      | refine XC_exit ?_
      | refine XC_ret ?_
      | refine Y_res (r_move rfl) rfl ?_
      | refine Y_res (r_assign rfl) rfl ?_
    exact XT_ret1 (.inl rfl) Try.results31 rfl (fun w' h => ⟨rfl, h.chg⟩)

def vd (l : List Int) : Bool := decide (l.length = 256) && l.all (fun x => decide (0 ≤ x) && decide (x < 8380417))
theorem vd_iff {l : List Int} : vd l = true ↔ l.length = 256 ∧ ∀ i, i < l.length → 0 ≤ l.getD i 0 ∧ l.getD i 0 < 8380417 := by
  unfold vd
  simp only [Bool.and_eq_true, decide_eq_true_eq, List.all_eq_true]
  refine and_congr_right fun _ => ⟨fun h i hi => h _ ?_, fun h x hx => ?_⟩
  · rw [List.getD_eq_getElem?_getD, List.getElem?_eq_getElem hi]
    exact List.getElem_mem hi
  · obtain ⟨i, hi, rfl⟩ := List.mem_iff_getElem.1 hx
    have := h i hi
    rwa [List.getD_eq_getElem?_getD, List.getElem?_eq_getElem hi] at this
theorem vd_false {l : List Int} (h : ¬ (l.length = 256 ∧ ∀ i, i < l.length → 0 ≤ l.getD i 0 ∧ l.getD i 0 < 8380417)) : vd l = false := by
  cases e : vd l with
  | false => rfl
  | true => exact absurd (vd_iff.1 e) h

set_option maxHeartbeats 1000000 in
set_option maxRecDepth 100000 in
theorem valid_any (l : List Int) (A : Option Addr) (c : Nat) (w : World) (hr : Rds w A c .i64 l) : Calls Try.prog 24 #[.slice A l.length c] w fun e w' => e = .returned (.bool (vd l)) ∧ Chg (fun _ => False) w w' := by
  have hle := hr.le
  have hcap := hr.cap
  refine calls_of_X (vs := [_]) (M := Hp w (fun _ => False) []) Try.func24 rfl Try.ntmps24 rfl (Hp.nil _ _) ?_
  repeat first
    | refine XC_region ?_
    | refine X_nil ?_
    | refine XC_seq ?_
    | refine XT_seq ?_
    | refine Y_res (r_move rfl) rfl ?_
    | refine Y_res (r_assign rfl) rfl ?_
    | refine Y_res (r_neq rfl rfl) rfl ?_
    | refine Y_res (r_len rfl) rfl ?_
  refine XC_condP rfl (fun hne => ?_) (fun heq => ?_)
  · repeat first
      | refine XC_region ?_
      | refine X_nil ?_
      | refine XC_seq ?_
      | refine XT_seq ?_
      | refine XT_then_ret ?_
      | refine XC_ret ?_
      | refine Y_res (r_assign rfl) rfl ?_
    exact XT_ret1 (.inl rfl) Try.results24 rfl (fun w' h => ⟨by rw [vd_false (fun h => hne (by rw [h.1]; rfl))], h.chg⟩)
  · have hl : l.length = 256 := by omega
    repeat first
      | refine XC_region ?_
      | refine X_nil ?_
      | refine XC_seq ?_
      | refine XT_seq ?_
      | refine XC_block ?_
      | refine XC_skip ?_
      | refine Y_res (r_move rfl) rfl ?_
      | refine Y_res (r_len rfl) rfl ?_
    refine XC_loop (ι := Nat) (fun i => i ≤ l.length ∧ ∀ j, j < i → 0 ≤ l.getD j 0 ∧ l.getD j 0 < 8380417) (fun i => [(8, .slice A l.length c), (9, .int .i64 l.length), (10, .int .i64 i)]) (fun i => Hp w (fun _ => False) []) (fun i => l.length - i) 0 ⟨by omega, fun j hj => by omega⟩ ⟨rfl, rfl, rfl, trivial⟩ (fun _ h => h) ?_
    intro i hi
    obtain ⟨hi1, hi2⟩ := hi
    have HI := Lib.hid hi2
    clear hi2
    repeat first
      | refine XC_region ?_
      | refine X_nil ?_
      | refine XC_seq ?_
      | refine XT_seq ?_
      | refine Y_res (r_lss rfl rfl) rfl ?_
    refine XC_condP rfl (fun hlt => ?_) (fun hge => ?_)
    · repeat first
        | refine XC_region ?_
        | refine X_nil ?_
        | refine XC_seq ?_
        | refine XT_seq ?_
        | refine XC_block ?_
        | refine XC_skip ?_
        | refine Y_res (r_move rfl) rfl ?_
        | refine Y_res (r_assign rfl) rfl ?_
        | refine Y_res (r_lss rfl rfl) rfl ?_
        | refine Y_res (r_indexR rfl rfl (by assumption) (by omega) (by omega)) rfl ?_
        | refine Y_res (r_loadR rfl (by assumption) (by first | exact old_false | assumption) (by omega)) rfl ?_
      refine Y_split rfl rfl (fun h1 => ?_) (fun h1 => ?_)
      · repeat first
          | refine XC_region ?_
          | refine X_nil ?_
          | refine XC_condT rfl ?_
          | refine XC_seq ?_
          | refine XT_seq ?_
          | refine XT_block_ret ?_
          | refine XT_then_ret ?_
          | refine XC_ret ?_
          | refine Y_res (r_assign rfl) rfl ?_
          | refine Y_off rfl rfl rfl ?_
          | refine Y_res (r_pickT rfl rfl) rfl ?_
        exact XT_ret1 (.inl rfl) Try.results24 rfl (fun w' h => ⟨by rw [vd_false (fun h => by have := h.2 i (by omega); omega)], h.chg⟩)
      · repeat first
          | refine X_nil ?_
          | refine XT_seq ?_
          | refine Y_res (r_move rfl) rfl ?_
          | refine Y_res (r_geq rfl rfl) rfl ?_
          | refine Y_on rfl rfl ?_
          | refine Y_res (r_pickF rfl rfl) rfl ?_
        refine XC_condP rfl (fun h2 => ?_) (fun h2 => ?_)
        · repeat first
            | refine XC_region ?_
            | refine X_nil ?_
            | refine XC_seq ?_
            | refine XT_seq ?_
            | refine XT_block_ret ?_
            | refine XT_then_ret ?_
            | refine XC_ret ?_
            | refine Y_res (r_assign rfl) rfl ?_
          exact XT_ret1 (.inl rfl) Try.results24 rfl (fun w' h => ⟨by rw [vd_false (fun h => by have := h.2 i (by omega); omega)], h.chg⟩)
        · repeat first
            | refine XC_region ?_
            | refine X_nil ?_
            | refine XT_seq ?_
            | refine XT_block_normal ?_
            | refine XC_skip ?_
            | refine Y_res (r_move rfl) rfl ?_
            | refine Y_res (r_add64 rfl rfl (by omega)) rfl ?_
          refine XT_round (i + 1) ⟨by omega, fun j hj => ?_⟩ (by omega) ⟨rfl, rfl, rfl, trivial⟩ (fun _ h => h)
          rcases Nat.lt_or_ge j i with h | h
          · exact HI.out j h
          · obtain rfl : j = i := by omega
            exact ⟨by omega, by omega⟩
    · repeat first
        | refine XC_region ?_
        | refine X_nil ?_
        | refine XC_seq ?_
        | refine XT_seq ?_
        | refine XT_block_same rfl ?_
        | refine XT_then_exit ?_
        | refine XC_exit ?_
        | refine XC_ret ?_
        | refine Y_res (r_assign rfl) rfl ?_
      exact XT_ret1 (.inl rfl) Try.results24 rfl (fun w' h => ⟨by rw [vd_iff.2 ⟨hl, fun j hj => HI.out j (by omega)⟩], h.chg⟩)
set_option maxHeartbeats 1000000 in
set_option maxRecDepth 100000 in
theorem rvalid_any (l : List Int) (A : Option Addr) (c : Nat) (w : World) (hr : Rds w A c .i64 l) : Calls Try.prog 14 #[.slice A l.length c] w fun e w' => e = .returned (.bool (vd l)) ∧ Chg (fun _ => False) w w' := by
  have hle := hr.le
  have hcap := hr.cap
  refine calls_of_X (vs := [_]) (M := Hp w (fun _ => False) []) Try.func14 rfl Try.ntmps14 rfl (Hp.nil _ _) ?_
  repeat first
    | refine XC_region ?_
    | refine X_nil ?_
    | refine XC_seq ?_
    | refine XT_seq ?_
    | refine Y_res (r_move rfl) rfl ?_
    | refine Y_res (r_assign rfl) rfl ?_
    | refine Y_res (r_neq rfl rfl) rfl ?_
    | refine Y_res (r_len rfl) rfl ?_
  refine XC_condP rfl (fun hne => ?_) (fun heq => ?_)
  · repeat first
      | refine XC_region ?_
      | refine X_nil ?_
      | refine XC_seq ?_
      | refine XT_seq ?_
      | refine XT_then_ret ?_
      | refine XC_ret ?_
      | refine Y_res (r_assign rfl) rfl ?_
    exact XT_ret1 (.inl rfl) Try.results14 rfl (fun w' h => ⟨by rw [vd_false (fun h => hne (by rw [h.1]; rfl))], h.chg⟩)
  · have hl : l.length = 256 := by omega
    repeat first
      | refine XC_region ?_
      | refine X_nil ?_
      | refine XC_seq ?_
      | refine XT_seq ?_
      | refine XC_block ?_
      | refine XC_skip ?_
      | refine Y_res (r_assign rfl) rfl ?_
    refine XC_loop (ι := Nat) (fun i => i ≤ l.length ∧ ∀ j, j < i → 0 ≤ l.getD j 0 ∧ l.getD j 0 < 8380417) (fun i => [(0, .slice A l.length c), (3, .int .i64 i)]) (fun i => Hp w (fun _ => False) []) (fun i => l.length - i) 0 ⟨by omega, fun j hj => by omega⟩ ⟨rfl, rfl, trivial⟩ (fun _ h => h) ?_
    intro i hi
    obtain ⟨hi1, hi2⟩ := hi
    have HI := Lib.hid hi2
    clear hi2
    repeat first
      | refine XC_region ?_
      | refine X_nil ?_
      | refine XC_seq ?_
      | refine XT_seq ?_
      | refine Y_res (r_move rfl) rfl ?_
      | refine Y_res (r_lss rfl rfl) rfl ?_
    refine XC_condP rfl (fun hlt => ?_) (fun hge => ?_)
    · repeat first
        | refine XC_region ?_
        | refine XC_seq ?_
        | refine XT_seq ?_
        | refine XC_block ?_
        | refine XC_skip ?_
        | refine Y_res (r_move rfl) rfl ?_
        | refine Y_res (r_lss rfl rfl) rfl ?_
        | refine Y_res (r_indexR rfl rfl (by assumption) (by omega) (by omega)) rfl ?_
        | refine Y_res (r_loadR rfl (by assumption) (by first | exact old_false | assumption) (by omega)) rfl ?_
      refine Y_split rfl rfl (fun h1 => ?_) (fun h1 => ?_)
      · repeat first
          | refine XC_region ?_
          | refine X_nil ?_
          | refine XC_condT rfl ?_
          | refine XC_seq ?_
          | refine XT_seq ?_
          | refine XT_block_ret ?_
          | refine XT_then_ret ?_
          | refine XC_ret ?_
          | refine Y_res (r_assign rfl) rfl ?_
          | refine Y_off rfl rfl rfl ?_
          | refine Y_res (r_pickT rfl rfl) rfl ?_
        exact XT_ret1 (.inl rfl) Try.results14 rfl (fun w' h => ⟨by rw [vd_false (fun h => by have := h.2 i (by omega); omega)], h.chg⟩)
      · repeat first
          | refine X_nil ?_
          | refine XT_seq ?_
          | refine Y_res (r_move rfl) rfl ?_
          | refine Y_res (r_geq rfl rfl) rfl ?_
          | refine Y_on rfl rfl ?_
          | refine Y_res (r_indexR rfl rfl (by assumption) (by omega) (by omega)) rfl ?_
          | refine Y_res (r_loadR rfl (by assumption) (by first | exact old_false | assumption) (by omega)) rfl ?_
          | refine Y_res (r_pickF rfl rfl) rfl ?_
        refine XC_condP rfl (fun h2 => ?_) (fun h2 => ?_)
        · repeat first
            | refine XC_region ?_
            | refine X_nil ?_
            | refine XC_seq ?_
            | refine XT_seq ?_
            | refine XT_block_ret ?_
            | refine XT_then_ret ?_
            | refine XC_ret ?_
            | refine Y_res (r_assign rfl) rfl ?_
          exact XT_ret1 (.inl rfl) Try.results14 rfl (fun w' h => ⟨by rw [vd_false (fun h => by have := h.2 i (by omega); omega)], h.chg⟩)
        · repeat first
            | refine XC_region ?_
            | refine X_nil ?_
            | refine XT_seq ?_
            | refine XT_block_normal ?_
            | refine XC_skip ?_
            | refine Y_res (r_move rfl) rfl ?_
            | refine Y_res (r_assign rfl) rfl ?_
            | refine Y_res (r_add64 rfl rfl (by omega)) rfl ?_
          refine XT_round (i + 1) ⟨by omega, fun j hj => ?_⟩ (by omega) ⟨rfl, rfl, trivial⟩ (fun _ h => h)
          rcases Nat.lt_or_ge j i with h | h
          · exact HI.out j h
          · obtain rfl : j = i := by omega
            exact ⟨by omega, by omega⟩
    · repeat first
        | refine XC_region ?_
        | refine X_nil ?_
        | refine XC_seq ?_
        | refine XT_seq ?_
        | refine XT_block_same rfl ?_
        | refine XT_then_exit ?_
        | refine XC_exit ?_
        | refine XC_ret ?_
        | refine Y_res (r_assign rfl) rfl ?_
      exact XT_ret1 (.inl rfl) Try.results14 rfl (fun w' h => ⟨by rw [vd_iff.2 ⟨hl, fun j hj => HI.out j (by omega)⟩], h.chg⟩)

set_option maxHeartbeats 1000000 in
set_option maxRecDepth 100000 in
theorem few_any (l : List Int) (A : Option Addr) (c : Nat) (w : World) : Calls Try.prog 11 #[.slice A l.length c] w fun e w' => e = .returned (.bool (decide (l.length ≤ 1000))) ∧ Chg (fun _ => False) w w' := by
  refine calls_of_X (vs := [_]) (M := Hp w (fun _ => False) []) Try.func11 rfl Try.ntmps11 rfl (Hp.nil _ _) ?_
  repeat first
    | refine XC_region ?_
    | refine X_nil ?_
    | refine XC_seq ?_
    | refine XT_seq ?_
    | refine XC_ret ?_
    | refine Y_res (r_move rfl) rfl ?_
    | refine Y_res (r_assign rfl) rfl ?_
    | refine Y_res (r_leq rfl rfl) rfl ?_
    | refine Y_res (r_len rfl) rfl ?_
  exact XT_ret1 (.inl rfl) Try.results11 rfl (fun w' h => ⟨by congr 2; exact decide_eq_decide.2 (by omega), h.chg⟩)
set_option maxHeartbeats 1000000 in
set_option maxRecDepth 100000 in
/-- Whether two lists are one. -/
theorem same_any (a b : List Int) (A B : Option Addr) (ca cb : Nat) (w : World) (ha : Rds w A ca .i64 a) (hb : Rds w B cb .i64 b) :
    Calls Try.prog 15 #[.slice A a.length ca, .slice B b.length cb] w fun e w' => e = .returned (.bool (decide (a = b))) ∧ Chg (fun _ => False) w w' := by
  have hla := ha.le
  have hlb := hb.le
  have hca := ha.cap
  refine calls_of_X (vs := [_, _]) (M := Hp w (fun _ => False) []) Try.func15 rfl Try.ntmps15 rfl (Hp.nil _ _) ?_
  repeat first
    | refine XC_region ?_
    | refine X_nil ?_
    | refine XC_seq ?_
    | refine XT_seq ?_
    | refine Y_res (r_move rfl) rfl ?_
    | refine Y_res (r_assign rfl) rfl ?_
    | refine Y_res (r_neq rfl rfl) rfl ?_
    | refine Y_res (r_len rfl) rfl ?_
  refine XC_condP rfl (fun hne => ?_) (fun heq => ?_)
  · repeat first
      | refine XC_region ?_
      | refine X_nil ?_
      | refine XC_seq ?_
      | refine XT_seq ?_
      | refine XT_then_ret ?_
      | refine XC_ret ?_
      | refine Y_res (r_assign rfl) rfl ?_
    refine XT_ret1 (.inl rfl) Try.results15 rfl (fun w' h => ?_)
    exact ⟨by rw [decide_eq_false (fun e => hne (by rw [e]))], h.chg⟩
  · have hll : a.length = b.length := by omega
    repeat first
      | refine XC_region ?_
      | refine X_nil ?_
      | refine XC_seq ?_
      | refine XT_seq ?_
      | refine XC_block ?_
      | refine XC_skip ?_
      | refine Y_res (r_assign rfl) rfl ?_
    refine XC_loop (ι := Nat) (fun i => i ≤ a.length ∧ ∀ j, j < i → a.getD j 0 = b.getD j 0) (fun i => [(0, .slice A a.length ca), (1, .slice B b.length cb), (5, .int .i64 i)]) (fun i => Hp w (fun _ => False) []) (fun i => a.length - i) 0 ⟨by omega, fun j hj => by omega⟩ ⟨rfl, rfl, rfl, trivial⟩ (fun _ h => h) ?_
    intro i hi
    obtain ⟨hi1, hi2⟩ := hi
    have HI := Lib.hid hi2
    clear hi2
    repeat first
      | refine XC_region ?_
      | refine X_nil ?_
      | refine XC_seq ?_
      | refine XT_seq ?_
      | refine Y_res (r_move rfl) rfl ?_
      | refine Y_res (r_lss rfl rfl) rfl ?_
      | refine Y_res (r_len rfl) rfl ?_
    refine XC_condP rfl (fun hlt => ?_) (fun hge => ?_)
    · repeat first
        | refine XC_quietF rfl (by kernel_rfl) (by kernel_rfl) drw_hp ?_
        | refine XQ_nil ?_
        | refine XC_seq ?_
        | refine XT_seq ?_
        | refine XC_block ?_
        | refine XC_skip ?_
        | refine Y_res (r_move rfl) rfl ?_
        | refine Y_res (r_neq rfl rfl) rfl ?_
        | refine Y_res (r_indexR rfl rfl (by assumption) (by omega) (by omega)) rfl ?_
        | refine Y_res (r_loadR rfl (by assumption) (by first | exact old_false | assumption) (by omega)) rfl ?_
      refine XC_condP rfl (fun hne => ?_) (fun heq2 => ?_)
      · repeat first
          | refine XC_region ?_
          | refine X_nil ?_
          | refine XC_seq ?_
          | refine XT_seq ?_
          | refine XT_block_ret ?_
          | refine XT_then_ret ?_
          | refine XC_ret ?_
          | refine Y_res (r_assign rfl) rfl ?_
        refine XT_ret1 (.inl rfl) Try.results15 rfl (fun w' h => ?_)
        exact ⟨by rw [decide_eq_false (fun e => hne (by rw [e]))], h.chg⟩
      · repeat first
          | refine XC_region ?_
          | refine X_nil ?_
          | refine XT_seq ?_
          | refine XT_block_normal ?_
          | refine XC_skip ?_
          | refine Y_res (r_move rfl) rfl ?_
          | refine Y_res (r_assign rfl) rfl ?_
          | refine Y_res (r_add64 rfl rfl (by omega)) rfl ?_
        refine XT_round (i + 1) ⟨by omega, fun j hj => ?_⟩ (by omega) ⟨rfl, rfl, rfl, trivial⟩ (fun _ h => h)
        rcases Nat.lt_or_ge j i with h | h
        · exact HI.out j h
        · obtain rfl : j = i := by omega
          exact Decidable.not_not.1 heq2
    · repeat first
        | refine XC_region ?_
        | refine X_nil ?_
        | refine XC_seq ?_
        | refine XT_seq ?_
        | refine XT_block_same rfl ?_
        | refine XT_then_exit ?_
        | refine XC_exit ?_
        | refine XC_ret ?_
        | refine Y_res (r_assign rfl) rfl ?_
      refine XT_ret1 (.inl rfl) Try.results15 rfl (fun w' h => ?_)
      refine ⟨?_, h.chg⟩
      rw [decide_eq_true]
      refine List.ext_getElem hll (fun j h1 h2 => ?_)
      have := HI.out j (by omega)
      rw [List.getD_eq_getElem?_getD, List.getD_eq_getElem?_getD, List.getElem?_eq_getElem h1, List.getElem?_eq_getElem h2] at this
      exact this
/-- A slice of one's own that a call has made. -/
def NewSl (w w' : World) (xs : List Int) (v : Value) : Prop :=
  ∃ A cap, v = .slice A xs.length cap ∧ (Ch.sl A cap 3 .i64 xs).P w' ∧ ∀ j, (Ch.sl A cap 3 .i64 xs).fp j → w.heap.size ≤ j
def xk (k : Nat) : List Int := (List.replicate 256 (0 : Int)).set k 1
set_option maxHeartbeats 1000000 in
set_option maxRecDepth 100000 in
theorem lpower_any (k : Nat) (w : World) (hk : k < 256) : Calls Try.prog 18 #[.int .i64 k] w fun e w' => ∃ v, e = .returned v ∧ NewSl w w' (xk k) v ∧ Chg (fun _ => False) w w' := by
  refine calls_of_X (vs := [_]) (M := Hp w (fun _ => False) []) Try.func18 rfl Try.ntmps18 rfl (Hp.nil _ _) ?_
  repeat first
    | refine XC_region ?_
    | refine X_nil ?_
    | refine XC_seq ?_
    | refine XT_seq ?_
    | refine XC_ret ?_
    | refine Y_res (r_move rfl) rfl ?_
    | refine Y_res (r_assign rfl) rfl ?_
    | refine Y_res (r_indexS rfl rfl (by omega) (by first | omega | (simp only [List.length_set, List.length_replicate]; omega))) rfl ?_
    | refine X_storeI rfl rfl (by first | omega | (simp only [List.length_set, List.length_replicate]; omega)) ?_
    | (refine X_make rfl rfl (by omega) (by omega) (by omega) rfl ?_; intro _ _)
  refine XT_ret1 (.inl rfl) Try.results18 rfl (fun w' h => ?_)
  exact ⟨_, rfl, ⟨_, _, by rw [xk, List.length_set, List.length_replicate], h.head, fun j hj => (h.own _ (List.mem_cons_self ..) j hj).resolve_left (fun h => h)⟩, h.chg⟩
/-- A function of two numbers, and what it computes on the ring's numbers. -/
def Fun2 (g : Nat) (f : Int → Int → Int) : Prop := ∀ x y (w : World), 0 ≤ x ∧ x < 8380417 → 0 ≤ y ∧ y < 8380417 → Calls Try.prog g #[.int .i64 x, .int .i64 y] w fun e w' => e = .returned (.int .i64 (f x y)) ∧ Chg (fun _ => False) w w'
def fAdd (x y : Int) : Int := (x + y) % 8380417
def fSub (x y : Int) : Int := (x - y + 8380417) % 8380417
def fMul (x y : Int) : Int := x * y % 8380417
set_option maxHeartbeats 1000000 in
theorem add1_any : Fun2 34 fAdd := fun x y w hx hy => by
  refine calls_of_X (vs := [_, _]) (M := Hp w (fun _ => False) []) Try.func34 rfl Try.ntmps34 rfl (Hp.nil _ _) ?_
  repeat first
    | refine XC_region ?_
    | refine X_nil ?_
    | refine XC_seq ?_
    | refine XT_seq ?_
    | refine XC_ret ?_
    | refine Y_res (r_move rfl) rfl ?_
    | refine Y_res (r_assign rfl) rfl ?_
    | refine Y_res (r_add64 rfl rfl (by omega)) rfl ?_
    | refine Y_res (r_rem rfl rfl (by omega)) rfl ?_
  exact XT_ret1 (.inl rfl) Try.results34 rfl (fun w' h => ⟨rfl, h.chg⟩)
set_option maxHeartbeats 1000000 in
theorem sub1_any : Fun2 36 fSub := fun x y w hx hy => by
  refine calls_of_X (vs := [_, _]) (M := Hp w (fun _ => False) []) Try.func36 rfl Try.ntmps36 rfl (Hp.nil _ _) ?_
  repeat first
    | refine XC_region ?_
    | refine X_nil ?_
    | refine XC_seq ?_
    | refine XT_seq ?_
    | refine XC_ret ?_
    | refine Y_res (r_move rfl) rfl ?_
    | refine Y_res (r_assign rfl) rfl ?_
    | refine Y_res (r_add64 rfl rfl (by omega)) rfl ?_
    | refine Y_res (r_sub64 rfl rfl (by omega)) rfl ?_
    | refine Y_res (r_rem rfl rfl (by omega)) rfl ?_
  exact XT_ret1 (.inl rfl) Try.results36 rfl (fun w' h => ⟨rfl, h.chg⟩)
set_option maxHeartbeats 1000000 in
theorem point1_any : Fun2 35 fMul := fun x y w hx hy => by
  have hb := mul_bd hx hy
  refine calls_of_X (vs := [_, _]) (M := Hp w (fun _ => False) []) Try.func35 rfl Try.ntmps35 rfl (Hp.nil _ _) ?_
  repeat first
    | refine XC_region ?_
    | refine X_nil ?_
    | refine XC_seq ?_
    | refine XT_seq ?_
    | refine XC_ret ?_
    | refine Y_res (r_move rfl) rfl ?_
    | refine Y_res (r_assign rfl) rfl ?_
    | refine Y_res (r_mul64 rfl rfl (by omega)) rfl ?_
    | refine Y_res (r_rem rfl rfl (by omega)) rfl ?_
  exact XT_ret1 (.inl rfl) Try.results35 rfl (fun w' h => ⟨rfl, h.chg⟩)
/-- Two lists, place by place. -/
def zip2 (f : Int → Int → Int) (a b : List Int) : List Int := (List.range 256).map fun i => f (a.getD i 0) (b.getD i 0)
theorem zip2_len (f : Int → Int → Int) (a b : List Int) : (zip2 f a b).length = 256 := by rw [zip2, List.length_map, List.length_range]
theorem zip2_get (f : Int → Int → Int) (a b : List Int) (i : Nat) (h : i < 256) : (zip2 f a b).getD i 0 = f (a.getD i 0) (b.getD i 0) := by
  rw [zip2, List.getD_eq_getElem?_getD, List.getElem?_map, List.getElem?_range h]
  rfl
/-- What is written so far, zeros behind. -/
def part (z : List Int) (i : Nat) : List Int := (List.range 256).map fun j => if j < i then z.getD j 0 else 0
theorem part_len (z : List Int) (i : Nat) : (part z i).length = 256 := by rw [part, List.length_map, List.length_range]
theorem part_get (z : List Int) (i j : Nat) (h : j < 256) : (part z i).getD j 0 = if j < i then z.getD j 0 else 0 := by
  rw [part, List.getD_eq_getElem?_getD, List.getElem?_map, List.getElem?_range h]
  rfl
theorem ext256 {a b : List Int} (ha : a.length = 256) (hb : b.length = 256) (h : ∀ j, j < 256 → a.getD j 0 = b.getD j 0) : a = b := by
  refine List.ext_getElem (by rw [ha, hb]) (fun j h1 h2 => ?_)
  have := h j (by omega)
  rw [List.getD_eq_getElem?_getD, List.getD_eq_getElem?_getD, List.getElem?_eq_getElem h1, List.getElem?_eq_getElem h2] at this
  exact this
theorem getD_set (a : List Int) (i j : Nat) (x : Int) (hi : i < a.length) : (a.set i x).getD j 0 = if j = i then x else a.getD j 0 := by
  rw [List.getD_eq_getElem?_getD, List.getD_eq_getElem?_getD, List.getElem?_set]
  by_cases h : i = j
  · subst h; simp [hi]
  · rw [if_neg h, if_neg (fun e => h e.symm)]
theorem part_0 (z : List Int) : part z 0 = List.replicate 256 0 := ext256 (part_len _ _) List.length_replicate fun j hj => by
  rw [part_get _ _ _ hj, if_neg (by omega), List.getD_eq_getElem?_getD, List.getElem?_replicate, if_pos hj]; rfl
theorem part_set (z : List Int) (i : Nat) (hi : i < 256) : (part z i).set i (z.getD i 0) = part z (i + 1) := ext256 (by rw [List.length_set, part_len]) (part_len _ _) fun j hj => by
  rw [getD_set _ _ _ _ (by rw [part_len]; exact hi), part_get _ _ _ hj, part_get _ _ _ hj]
  by_cases h : j = i
  · subst h; rw [if_pos rfl, if_pos (by omega)]
  · rw [if_neg h]
    by_cases h2 : j < i
    · rw [if_pos h2, if_pos (by omega)]
    · rw [if_neg h2, if_neg (by omega)]
theorem part_256 (z : List Int) (hz : z.length = 256) : part z 256 = z := ext256 (part_len _ _) hz fun j hj => by rw [part_get _ _ _ hj, if_pos hj]
set_option maxHeartbeats 1000000 in
set_option maxRecDepth 100000 in
theorem each_any (a b : List Int) (A B : Option Addr) (ca cb g : Nat) (f : Int → Int → Int) (w : World) (ha : Rds w A ca .i64 a) (hb : Rds w B cb .i64 b) (hf : Fun2 g f) [HasFn Try.prog g] :
    Calls Try.prog 33 #[.slice A a.length ca, .slice B b.length cb, .func (.func g) #[] #[]] w fun e w' => Chg (fun _ => False) w w' ∧
      if vd a = true ∧ vd b = true then ∃ v, e = .returned (.tuple #[v, .bool true]) ∧ NewSl w w' (zip2 f a b) v else e = .returned (.tuple #[.slice none 0 0, .bool false]) := by
  refine calls_of_X (vs := [_, _, _]) (M := Hp w (fun _ => False) []) Try.func33 rfl Try.ntmps33 rfl (Hp.nil _ _) ?_
  repeat first
    | refine XC_region ?_
    | refine X_nil ?_
    | refine XC_seq ?_
    | refine XT_seq ?_
    | refine Y_res (r_move rfl) rfl ?_
    | refine Y_res (r_assign rfl) rfl ?_
    | refine Y_res (r_notB rfl) rfl ?_
    | refine Y_call (g := 24) rfl rfl (fun w1 hM => (valid_any a A ca w1 (ha.old hM old_false)).mono fun e w2 h => ⟨h.1, hM.keep h.2⟩) ?_
  refine Y_splitB rfl rfl (fun h1 => ?_) (fun h1 => ?_)
  · have hva : vd a = false := by simpa using h1
    repeat first
      | refine XC_region ?_
      | refine X_nil ?_
      | refine XC_condT rfl ?_
      | refine XC_seq ?_
      | refine XT_seq ?_
      | refine XT_then_ret ?_
      | refine XC_ret ?_
      | refine Y_res (r_assign rfl) rfl ?_
      | refine Y_off rfl rfl rfl ?_
      | refine Y_res (r_pickT rfl rfl) rfl ?_
    exact XT_ret2 (.inl rfl) Try.results33 rfl rfl (fun w' h => ⟨h.chg, by rw [if_neg (by rw [hva]; simp)]⟩)
  have hva : vd a = true := by simpa using h1
  repeat first
    | refine X_nil ?_
    | refine XT_seq ?_
    | refine Y_res (r_move rfl) rfl ?_
    | refine Y_on rfl rfl ?_
    | refine Y_res (r_notB rfl) rfl ?_
    | refine Y_res (r_pickF rfl rfl) rfl ?_
    | refine Y_call (g := 24) rfl rfl (fun w1 hM => (valid_any b B cb w1 (hb.old hM old_false)).mono fun e w2 h => ⟨h.1, hM.keep h.2⟩) ?_
  refine XC_condN rfl (fun hvb => ?_) (fun hvb => ?_)
  · repeat first
      | refine XC_region ?_
      | refine X_nil ?_
      | refine XC_seq ?_
      | refine XT_seq ?_
      | refine XT_then_ret ?_
      | refine XC_ret ?_
      | refine Y_res (r_assign rfl) rfl ?_
    exact XT_ret2 (.inl rfl) Try.results33 rfl rfl (fun w' h => ⟨h.chg, by rw [if_neg (by rw [hvb]; simp)]⟩)
  obtain ⟨hla, hra⟩ := vd_iff.1 hva
  obtain ⟨hlb, hrb⟩ := vd_iff.1 hvb
  have hca := ha.le
  have hcb := hb.le
  rw [hla] at hra
  rw [hlb] at hrb
  obtain ⟨z, hz⟩ : ∃ z, z = zip2 f a b := ⟨_, rfl⟩
  have hzl : z.length = 256 := by rw [hz, zip2_len]
  repeat first
    | refine XC_region ?_
    | refine X_nil ?_
    | refine XC_seq ?_
    | refine XT_seq ?_
    | refine XC_block ?_
    | refine XC_skip ?_
    | refine Y_res (r_move rfl) rfl ?_
    | refine Y_res (r_assign rfl) rfl ?_
    | refine Y_res (r_len rfl) rfl ?_
    | (refine X_make rfl rfl (by omega) (by omega) (by omega) rfl ?_; intro _ _)
  rename_i go hgo
  refine XC_loop (ι := Nat) (fun i => i ≤ 256) (fun i => [(0, .slice A a.length ca), (1, .slice B b.length cb), (2, .func (.func g) #[] #[]), (8, .slice (some ⟨go, 0, none⟩) 256 256), (20, .int .i64 256), (21, .int .i64 i)])
    (fun i => Hp w (fun _ => False) [Ch.sl (some ⟨go, 0, none⟩) 256 3 .i64 (part z i)]) (fun i => 256 - i) 0 (by omega) ⟨rfl, rfl, rfl, rfl, rfl, rfl, trivial⟩ (fun _ h => by rw [part_0]; exact h) ?_
  intro i hi
  have hpl := part_len z i
  repeat first
    | refine XC_region ?_
    | refine X_nil ?_
    | refine XC_seq ?_
    | refine XT_seq ?_
    | refine Y_res (r_lss rfl rfl) rfl ?_
  refine XC_condP rfl (fun hlt => ?_) (fun hge => ?_)
  · have hi2 : i < 256 := by omega
    repeat first
      | refine XC_region ?_
      | refine XC_tailF (by kernel_rfl) (by kernel_rfl) drw_hp ?_
      | refine X_nil ?_
      | refine XQ_nilX ?_
      | refine XC_seq ?_
      | refine XT_seq ?_
      | refine XC_block ?_
      | refine XT_block_normal ?_
      | refine XC_skip ?_
      | refine Y_res (r_move rfl) rfl ?_
      | refine Y_res (r_assign rfl) rfl ?_
      | refine Y_res (r_add64 rfl rfl (by omega)) rfl ?_
      | refine Y_res (r_indexS rfl rfl (by omega) (by first | omega | (simp only [List.length_set, List.length_replicate]; omega))) rfl ?_
      | refine Y_res (r_indexR rfl rfl (by assumption) (by omega) (by omega)) rfl ?_
      | refine Y_res (r_loadR rfl (by assumption) (by first | exact old_false | assumption) (by omega)) rfl ?_
      | refine X_storeI rfl rfl (by first | omega | (simp only [List.length_set, List.length_replicate]; omega)) ?_
      | refine Y_callV (g := g) (vs := [.int .i64 (a.getD i 0), .int .i64 (b.getD i 0)]) (cs := []) (v := .int .i64 (f (a.getD i 0) (b.getD i 0))) rfl rfl rfl (fun w1 hM => (hf _ _ w1 (hra i hi2) (hrb i hi2)).mono fun e w2 h => ⟨h.1, hM.keep h.2⟩) ?_
    refine XT_round (i + 1) (by omega) (by omega) ⟨rfl, rfl, rfl, rfl, rfl, rfl, trivial⟩ (fun w3 h3 => ?_)
    rw [← part_set z i hi2, hz, zip2_get _ _ _ _ hi2]
    rw [hz] at h3
    exact h3
  · obtain rfl : i = 256 := by omega
    rw [part_256 z hzl]
    repeat first
      | refine XC_region ?_
      | refine X_nil ?_
      | refine XC_seq ?_
      | refine XT_seq ?_
      | refine XT_block_same rfl ?_
      | refine XT_then_exit ?_
      | refine XC_exit ?_
      | refine XC_ret ?_
      | refine Y_res (r_move rfl) rfl ?_
      | refine Y_res (r_assign rfl) rfl ?_
    refine XT_ret2 (.inl rfl) Try.results33 rfl rfl (fun w' h => ⟨h.chg, ?_⟩)
    rw [if_pos ⟨hva, hvb⟩, ← hz]
    exact ⟨_, rfl, ⟨_, _, by rw [hzl], h.head, fun j hj => (h.own _ (List.mem_cons_self ..) j hj).resolve_left (fun h => h)⟩⟩
/-- What a function of two lists tells. -/
def Told (w w' : World) (e : Ending) (p : Prop) [Decidable p] (z : List Int) : Prop := Chg (fun _ => False) w w' ∧ if p then ∃ v, e = .returned (.tuple #[v, .bool true]) ∧ NewSl w w' z v else e = .returned (.tuple #[.slice none 0 0, .bool false])
set_option maxHeartbeats 1000000 in
theorem add_any (a b : List Int) (A B : Option Addr) (ca cb : Nat) (w : World) (ha : Rds w A ca .i64 a) (hb : Rds w B cb .i64 b) :
    Calls Try.prog 19 #[.slice A a.length ca, .slice B b.length cb] w fun e w' => Told w w' e (vd a = true ∧ vd b = true) (zip2 fAdd a b) := by
  refine calls_of_X (vs := [_, _]) (M := fun w1 => w1 = w) Try.func19 rfl Try.ntmps19 rfl rfl ?_
  repeat first
    | refine XC_region ?_
    | refine X_nil ?_
    | refine XC_seq ?_
    | refine XT_seq ?_
    | refine Y_res (r_move rfl) rfl ?_
    | refine Y_res (r_assign rfl) rfl ?_
  refine X_call (g := 33) rfl rfl (fun w1 h1 => (each_any a b A B ca cb 34 fAdd w1 (by rw [show w1 = w from h1]; exact ha) (by rw [show w1 = w from h1]; exact hb) add1_any).mono ?_)
  rintro e w2 ⟨hc, hif⟩
  obtain rfl : w1 = w := h1
  by_cases hv : vd a = true ∧ vd b = true
  · rw [if_pos hv] at hif
    obtain ⟨v, rfl, hn⟩ := hif
    refine ⟨_, rfl, fun w3 => w3 = w2, rfl, ?_⟩
    repeat first
      | refine X_nil ?_
      | refine XT_seq ?_
      | refine XC_ret ?_
      | refine Y_res (r_assign rfl) rfl ?_
      | refine Y_res (r_extract rfl rfl) rfl ?_
    exact XT_ret2 (.inl rfl) Try.results19 rfl rfl (fun w' h => ⟨by rw [show w' = w2 from h]; exact hc, by rw [if_pos hv, show w' = w2 from h]; exact ⟨v, rfl, hn⟩⟩)
  · rw [if_neg hv] at hif
    subst hif
    refine ⟨_, rfl, fun w3 => w3 = w2, rfl, ?_⟩
    repeat first
      | refine X_nil ?_
      | refine XT_seq ?_
      | refine XC_ret ?_
      | refine Y_res (r_assign rfl) rfl ?_
      | refine Y_res (r_extract rfl rfl) rfl ?_
    exact XT_ret2 (.inl rfl) Try.results19 rfl rfl (fun w' h => ⟨by rw [show w' = w2 from h]; exact hc, by rw [if_neg hv]⟩)
set_option maxHeartbeats 1000000 in
theorem sub_any (a b : List Int) (A B : Option Addr) (ca cb : Nat) (w : World) (ha : Rds w A ca .i64 a) (hb : Rds w B cb .i64 b) :
    Calls Try.prog 23 #[.slice A a.length ca, .slice B b.length cb] w fun e w' => Told w w' e (vd a = true ∧ vd b = true) (zip2 fSub a b) := by
  refine calls_of_X (vs := [_, _]) (M := fun w1 => w1 = w) Try.func23 rfl Try.ntmps23 rfl rfl ?_
  repeat first
    | refine XC_region ?_
    | refine X_nil ?_
    | refine XC_seq ?_
    | refine XT_seq ?_
    | refine Y_res (r_move rfl) rfl ?_
    | refine Y_res (r_assign rfl) rfl ?_
  refine X_call (g := 33) rfl rfl (fun w1 h1 => (each_any a b A B ca cb 36 fSub w1 (by rw [show w1 = w from h1]; exact ha) (by rw [show w1 = w from h1]; exact hb) sub1_any).mono ?_)
  rintro e w2 ⟨hc, hif⟩
  obtain rfl : w1 = w := h1
  by_cases hv : vd a = true ∧ vd b = true
  · rw [if_pos hv] at hif
    obtain ⟨v, rfl, hn⟩ := hif
    refine ⟨_, rfl, fun w3 => w3 = w2, rfl, ?_⟩
    repeat first
      | refine X_nil ?_
      | refine XT_seq ?_
      | refine XC_ret ?_
      | refine Y_res (r_assign rfl) rfl ?_
      | refine Y_res (r_extract rfl rfl) rfl ?_
    exact XT_ret2 (.inl rfl) Try.results23 rfl rfl (fun w' h => ⟨by rw [show w' = w2 from h]; exact hc, by rw [if_pos hv, show w' = w2 from h]; exact ⟨v, rfl, hn⟩⟩)
  · rw [if_neg hv] at hif
    subst hif
    refine ⟨_, rfl, fun w3 => w3 = w2, rfl, ?_⟩
    repeat first
      | refine X_nil ?_
      | refine XT_seq ?_
      | refine XC_ret ?_
      | refine Y_res (r_assign rfl) rfl ?_
      | refine Y_res (r_extract rfl rfl) rfl ?_
    exact XT_ret2 (.inl rfl) Try.results23 rfl rfl (fun w' h => ⟨by rw [show w' = w2 from h]; exact hc, by rw [if_neg hv]⟩)
set_option maxHeartbeats 1000000 in
theorem point_any (a b : List Int) (A B : Option Addr) (ca cb : Nat) (w : World) (ha : Rds w A ca .i64 a) (hb : Rds w B cb .i64 b) :
    Calls Try.prog 20 #[.slice A a.length ca, .slice B b.length cb] w fun e w' => Told w w' e (vd a = true ∧ vd b = true) (zip2 fMul a b) := by
  refine calls_of_X (vs := [_, _]) (M := fun w1 => w1 = w) Try.func20 rfl Try.ntmps20 rfl rfl ?_
  repeat first
    | refine XC_region ?_
    | refine X_nil ?_
    | refine XC_seq ?_
    | refine XT_seq ?_
    | refine Y_res (r_move rfl) rfl ?_
    | refine Y_res (r_assign rfl) rfl ?_
  refine X_call (g := 33) rfl rfl (fun w1 h1 => (each_any a b A B ca cb 35 fMul w1 (by rw [show w1 = w from h1]; exact ha) (by rw [show w1 = w from h1]; exact hb) point1_any).mono ?_)
  rintro e w2 ⟨hc, hif⟩
  obtain rfl : w1 = w := h1
  by_cases hv : vd a = true ∧ vd b = true
  · rw [if_pos hv] at hif
    obtain ⟨v, rfl, hn⟩ := hif
    refine ⟨_, rfl, fun w3 => w3 = w2, rfl, ?_⟩
    repeat first
      | refine X_nil ?_
      | refine XT_seq ?_
      | refine XC_ret ?_
      | refine Y_res (r_assign rfl) rfl ?_
      | refine Y_res (r_extract rfl rfl) rfl ?_
    exact XT_ret2 (.inl rfl) Try.results20 rfl rfl (fun w' h => ⟨by rw [show w' = w2 from h]; exact hc, by rw [if_pos hv, show w' = w2 from h]; exact ⟨v, rfl, hn⟩⟩)
  · rw [if_neg hv] at hif
    subst hif
    refine ⟨_, rfl, fun w3 => w3 = w2, rfl, ?_⟩
    repeat first
      | refine X_nil ?_
      | refine XT_seq ?_
      | refine XC_ret ?_
      | refine Y_res (r_assign rfl) rfl ?_
      | refine Y_res (r_extract rfl rfl) rfl ?_
    exact XT_ret2 (.inl rfl) Try.results20 rfl rfl (fun w' h => ⟨by rw [show w' = w2 from h]; exact hc, by rw [if_neg hv]⟩)
end Go.Proofs.Ytoednaebdfohbaa.NRing
