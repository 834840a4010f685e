/- chanceryref01.Same: whether two lists of bytes are one, walked. -/
import Derived.Test.YtgfpibojgkleiaaMT
import Derived.Test.YtgfpibojgkleiaaMXL
import Derived.Lib.Hide
namespace Go.Proofs.Ytgfpibojgkleiaa.NSame
open Go Go.RowKit Go.Proofs.Ytgfpibojgkleiaa.MX
set_option linter.unusedVariables false
set_option linter.unusedSimpArgs false
set_option maxHeartbeats 2000000 in
/-- Whether two lists are one. -/
theorem same_any (a b : List Int) (A B : Option Addr) (ca cb : Nat) (w : World) (ha : Rds w A ca .u8 a) (hb : Rds w B cb .u8 b) :
    Calls Try.prog 15 #[.slice A a.length ca, .slice B b.length cb] w (Says w (.bool (decide (a = b)))) := by
  have hla := ha.le
  have hlb := hb.le
  have hca := ha.cap
  refine calls_of_X (vs := [_, _]) (M := Hp w (fun _ => False) []) Try.func15 rfl Try.ntmps15 rfl (Hp.nil _ _) ?_
  repeat first
    | refine XC_region ?_
    | refine X_nil ?_
    | refine XC_seq ?_
    | refine XT_seq ?_
    | refine Y_res (r_move rfl) rfl ?_
    | refine Y_res (r_assign rfl) rfl ?_
    | refine Y_res (r_neq rfl rfl) rfl ?_
    | refine Y_res (r_len rfl) rfl ?_
  refine XC_condP rfl (fun hne => ?_) (fun heq => ?_)
  · repeat first
      | refine XC_region ?_
      | refine X_nil ?_
      | refine XC_seq ?_
      | refine XT_seq ?_
      | refine XT_then_ret ?_
      | refine XC_ret ?_
      | refine Y_res (r_assign rfl) rfl ?_
    refine XT_ret1 (.inl rfl) Try.results15 rfl (fun w' h => ?_)
    exact ⟨by rw [decide_eq_false (fun e => hne (by rw [e]))], h.chg⟩
  · have hll : a.length = b.length := by omega
    repeat first
      | refine XC_region ?_
      | refine X_nil ?_
      | refine XC_seq ?_
      | refine XT_seq ?_
      | refine XC_block ?_
      | refine XC_skip ?_
      | refine Y_res (r_assign rfl) rfl ?_
    refine XC_loop (ι := Nat) (fun i => i ≤ a.length ∧ ∀ j, j < i → a.getD j 0 = b.getD j 0) (fun i => [(0, .slice A a.length ca), (1, .slice B b.length cb), (5, .int .i64 i)]) (fun i => Hp w (fun _ => False) []) (fun i => a.length - i) 0 ⟨by omega, fun j hj => by omega⟩ ⟨rfl, rfl, rfl, trivial⟩ (fun _ h => h) ?_
    intro i hi
    obtain ⟨hi1, hi2⟩ := hi
    have HI := Lib.hid hi2
    clear hi2
    repeat first
      | refine XC_region ?_
      | refine X_nil ?_
      | refine XC_seq ?_
      | refine XT_seq ?_
      | refine Y_res (r_move rfl) rfl ?_
      | refine Y_res (r_lss rfl rfl) rfl ?_
      | refine Y_res (r_len rfl) rfl ?_
    refine XC_condP rfl (fun hlt => ?_) (fun hge => ?_)
    · repeat first
        | refine XC_quietF rfl (by kernel_rfl) (by kernel_rfl) drw_hp ?_
        | refine XQ_nil ?_
        | refine XC_seq ?_
        | refine XT_seq ?_
        | refine XC_block ?_
        | refine XC_skip ?_
        | refine Y_res (r_move rfl) rfl ?_
        | refine Y_res (r_neq rfl rfl) rfl ?_
        | refine Y_res (r_indexR rfl rfl (by assumption) (by omega) (by omega)) rfl ?_
        | refine Y_res (r_loadR rfl (by assumption) (by first | exact old_false | assumption) (by omega)) rfl ?_
      refine XC_condP rfl (fun hne => ?_) (fun heq2 => ?_)
      · repeat first
          | refine XC_region ?_
          | refine X_nil ?_
          | refine XC_seq ?_
          | refine XT_seq ?_
          | refine XT_block_ret ?_
          | refine XT_then_ret ?_
          | refine XC_ret ?_
          | refine Y_res (r_assign rfl) rfl ?_
        refine XT_ret1 (.inl rfl) Try.results15 rfl (fun w' h => ?_)
        exact ⟨by rw [decide_eq_false (fun e => hne (by rw [e]))], h.chg⟩
      · repeat first
          | refine XC_region ?_
          | refine X_nil ?_
          | refine XT_seq ?_
          | refine XT_block_normal ?_
          | refine XC_skip ?_
          | refine Y_res (r_move rfl) rfl ?_
          | refine Y_res (r_assign rfl) rfl ?_
          | refine Y_res (r_add64 rfl rfl (by omega)) rfl ?_
        refine XT_round (i + 1) ⟨by omega, fun j hj => ?_⟩ (by omega) ⟨rfl, rfl, rfl, trivial⟩ (fun _ h => h)
        rcases Nat.lt_or_ge j i with h | h
        · exact HI.out j h
        · obtain rfl : j = i := by omega
          exact Decidable.not_not.1 heq2
    · repeat first
        | refine XC_region ?_
        | refine X_nil ?_
        | refine XC_seq ?_
        | refine XT_seq ?_
        | refine XT_block_same rfl ?_
        | refine XT_then_exit ?_
        | refine XC_exit ?_
        | refine XC_ret ?_
        | refine Y_res (r_assign rfl) rfl ?_
      refine XT_ret1 (.inl rfl) Try.results15 rfl (fun w' h => ?_)
      refine ⟨?_, h.chg⟩
      rw [decide_eq_true]
      refine List.ext_getElem hll (fun j h1 h2 => ?_)
      have := HI.out j (by omega)
      rw [List.getD_eq_getElem?_getD, List.getD_eq_getElem?_getD, List.getElem?_eq_getElem h1, List.getElem?_eq_getElem h2] at this
      exact this
end Go.Proofs.Ytgfpibojgkleiaa.NSame
