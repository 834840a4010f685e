/- Whether lists of truth values are alike, walked. -/
import Derived.Test.YtbkbdnlolfaneaaNRound4
namespace Go.Proofs.Ytbkbdnlolfaneaa.NRound
open Go Go.RowKit Go.Proofs.Ytbkbdnlolfaneaa.MX Go.Proofs.Ytbkbdnlolfaneaa.PRound
set_option linter.unusedVariables false
set_option linter.unusedSimpArgs false
set_option linter.unusedVariables false
theorem take_ne {α : Type} [DecidableEq α] {a b : List α} {i : Nat} {x y : α} (hx : a[i]? = some x) (hy : b[i]? = some y) (h : x ≠ y) : ¬ a = b := fun e => h (by rw [e, hy] at hx; exact (Option.some.inj hx).symm)
theorem take_next {α : Type} {a b : List α} {i : Nat} {x : α} (h : a.take i = b.take i) (hx : a[i]? = some x) (hy : b[i]? = some x) : a.take (i + 1) = b.take (i + 1) := by
  have h1 := (List.getElem?_eq_some_iff.1 hx)
  have h2 := (List.getElem?_eq_some_iff.1 hy)
  obtain ⟨l1, e1⟩ := h1
  obtain ⟨l2, e2⟩ := h2
  rw [List.take_succ_eq_append_getElem l1, List.take_succ_eq_append_getElem l2, h, e1, e2]
set_option maxRecDepth 100000 in
set_option maxHeartbeats 4000000 in
theorem samel_any (La Lb : List (List Bool)) (A B : Option Addr) (ca cb : Nat) (w : World) (ha : BLs w A ca La) (hb : BLs w B cb Lb) :
    Calls Try.prog 32 #[.slice A La.length ca, .slice B Lb.length cb] w (Says w (.bool (decide (La = Lb)))) := by
  have hal := ha.le
  have hbl := hb.le
  have hac := ha.cap
  have hbc := hb.cap
  refine calls_of_X (vs := [_, _]) (M := Hp w (fun _ => False) []) Try.func32 rfl Try.ntmps32 rfl (Hp.nil _ _) ?_
  repeat first
    | refine XC_region ?_
    | refine X_nil ?_
    | refine XC_seq ?_
    | refine XT_seq ?_
    | refine Y_res (r_move rfl) rfl ?_
    | refine Y_res (r_assign rfl) rfl ?_
    | refine Y_res (r_neq rfl rfl) rfl ?_
    | refine Y_res (r_len rfl) rfl ?_
  refine XC_condP rfl (fun h1 => ?_) (fun h1 => ?_)
  · have hne : ¬ La = Lb := fun e => h1 (by rw [e])
    repeat first
      | refine XC_region ?_
      | refine X_nil ?_
      | refine XC_seq ?_
      | refine XT_seq ?_
      | refine XT_then_ret ?_
      | refine XC_ret ?_
      | refine Y_res (r_assign rfl) rfl ?_
    exact XT_says (.inl rfl) Try.results32 rfl (by rw [decide_eq_false hne])
  have hll : La.length = Lb.length := by omega
  repeat first
    | refine XC_region ?_
    | refine X_nil ?_
    | refine XC_seq ?_
    | refine XT_seq ?_
    | refine XC_block ?_
    | refine XC_skip ?_
    | refine Y_res (r_move rfl) rfl ?_
    | refine Y_res (r_len rfl) rfl ?_
  refine XC_loop (ι := Nat) (fun i => i ≤ La.length ∧ La.take i = Lb.take i) (fun i => [(1, .slice B Lb.length cb), (14, .slice A La.length ca), (15, .int .i64 La.length), (16, .int .i64 i)])
    (fun i => Hp w (fun _ => False) []) (fun i => La.length - i) 0 ⟨Nat.zero_le _, by simp⟩ ⟨rfl, rfl, rfl, rfl, trivial⟩ (fun _ h => h) ?_
  rintro i ⟨hi, htk⟩
  repeat first
    | refine XC_region ?_
    | refine X_nil ?_
    | refine XC_seq ?_
    | refine XT_seq ?_
    | refine Y_res (r_lss rfl rfl) rfl ?_
  refine XC_condP rfl (fun hlt => ?_) (fun hge => ?_)
  · have hi2 : i < La.length := by omega
    have hi3 : i < Lb.length := by omega
    have hA := ha.some (by omega)
    have hB := hb.some (by omega)
    obtain ⟨la, hla⟩ : ∃ l, La[i]? = some l := ⟨La[i], List.getElem?_eq_getElem hi2⟩
    obtain ⟨lb, hlb⟩ : ∃ l, Lb[i]? = some l := ⟨Lb[i], List.getElem?_eq_getElem hi3⟩
    obtain ⟨A1, d1, hc1, hr1⟩ := ha.at_ i la hla
    obtain ⟨B1, e1, hc2, hr2⟩ := hb.at_ i lb hlb
    have hr1l := hr1.le
    have hr2l := hr2.le
    have hr1c := hr1.cap
    repeat first
      | refine XC_region ?_
      | refine X_nil ?_
      | refine XC_seq ?_
      | refine XT_seq ?_
      | refine XC_block ?_
      | refine XC_skip ?_
      | refine Y_res (r_move rfl) rfl ?_
      | refine Y_res (r_assign rfl) rfl ?_
      | refine Y_res (r_neq rfl rfl) rfl ?_
      | refine Y_res (r_len rfl) rfl ?_
      | refine Y_res (r_indexO rfl rfl hi2 hA) rfl ?_
      | refine Y_res (r_indexO rfl rfl hi3 hB) rfl ?_
      | refine Y_res (r_loadO rfl hc1 (fun h => h)) rfl ?_
      | refine Y_res (r_loadO rfl hc2 (fun h => h)) rfl ?_
    refine XC_condP rfl (fun h2 => ?_) (fun h2 => ?_)
    · have hne : ¬ La = Lb := take_ne hla hlb (fun e => h2 (by rw [e]))
      repeat first
        | refine XC_region ?_
        | refine X_nil ?_
        | refine XC_seq ?_
        | refine XT_seq ?_
        | refine XT_block_ret ?_
        | refine XT_then_ret ?_
        | refine XC_ret ?_
        | refine Y_res (r_assign rfl) rfl ?_
      exact XT_says (.inl rfl) Try.results32 rfl (by rw [decide_eq_false hne])
    have hl2 : la.length = lb.length := by omega
    repeat first
      | refine XC_region ?_
      | refine X_nil ?_
      | refine XC_seq ?_
      | refine XT_seq ?_
      | refine XC_block ?_
      | refine XC_skip ?_
      | refine Y_res (r_move rfl) rfl ?_
      | refine Y_res (r_len rfl) rfl ?_
    refine XC_loop (ι := Nat) (fun j => j ≤ la.length ∧ la.take j = lb.take j) (fun j => [(1, .slice B Lb.length cb), (5, .int .i64 i), (14, .slice A La.length ca), (15, .int .i64 La.length), (16, .int .i64 i), (29, .slice A1 la.length d1), (30, .int .i64 la.length), (31, .int .i64 j)])
      (fun j => Hp w (fun _ => False) []) (fun j => la.length - j) 0 ⟨Nat.zero_le _, by simp⟩ ⟨rfl, rfl, rfl, rfl, rfl, rfl, rfl, rfl, trivial⟩ (fun _ h => h) ?_
    rintro j ⟨hj, htj⟩
    repeat first
      | refine XC_region ?_
      | refine X_nil ?_
      | refine XC_seq ?_
      | refine XT_seq ?_
      | refine Y_res (r_lss rfl rfl) rfl ?_
    refine XC_condP rfl (fun hlt2 => ?_) (fun hge2 => ?_)
    · have hj2 : j < la.length := by omega
      have hj3 : j < lb.length := by omega
      obtain ⟨x, hx⟩ : ∃ x, la[j]? = some x := ⟨la[j], List.getElem?_eq_getElem hj2⟩
      obtain ⟨y, hy⟩ : ∃ x, lb[j]? = some x := ⟨lb[j], List.getElem?_eq_getElem hj3⟩
      have hxv : (la.map Value.bool)[j]? = some (.bool x) := by rw [List.getElem?_map, hx]; rfl
      have hyv : (lb.map Value.bool)[j]? = some (.bool y) := by rw [List.getElem?_map, hy]; rfl
      repeat first
        | refine XC_region ?_
        | refine X_nil ?_
        | refine XC_seq ?_
        | refine XT_seq ?_
        | refine XC_block ?_
        | refine XC_skip ?_
        | refine Y_res (r_move rfl) rfl ?_
        | refine Y_res (r_assign rfl) rfl ?_
        | refine Y_res (r_neqB rfl rfl) rfl ?_
        | refine Y_res (r_indexRv rfl rfl hr1 hj2 (by omega)) rfl ?_
        | refine Y_res (r_loadRv rfl hr1 (fun _ _ h => h) hxv) rfl ?_
        | refine Y_res (r_indexO rfl rfl hi3 hB) rfl ?_
        | refine Y_res (r_loadO rfl hc2 (fun h => h)) rfl ?_
        | refine Y_res (r_indexRv rfl rfl hr2 hj3 (by omega)) rfl ?_
        | refine Y_res (r_loadRv rfl hr2 (fun _ _ h => h) hyv) rfl ?_
      rcases Classical.em (x = y) with hxy | hxy
      · subst hxy
        refine XC_re (e := 44) (v' := .bool false) rfl (by simp) ?_
        repeat first
          | refine XC_region ?_
          | refine X_nil ?_
          | refine XC_condF rfl ?_
          | refine XT_seq ?_
          | refine XT_block_normal ?_
          | refine XC_skip ?_
          | refine Y_res (r_move rfl) rfl ?_
          | refine Y_res (r_add64 rfl rfl (by omega)) rfl ?_
        exact XT_round (j + 1) ⟨by omega, take_next htj hx hy⟩ (by omega) ⟨rfl, rfl, rfl, rfl, rfl, rfl, rfl, rfl, trivial⟩ (fun _ h => h)
      · have hne2 : ¬ La = Lb := take_ne hla hlb (take_ne hx hy hxy)
        refine XC_re (e := 44) (v' := .bool true) rfl (by simp [hxy]) ?_
        repeat first
          | refine XC_region ?_
          | refine X_nil ?_
          | refine XC_condT rfl ?_
          | refine XC_seq ?_
          | refine XT_seq ?_
          | refine XT_block_ret ?_
          | refine XT_then_ret ?_
          | refine XC_ret ?_
          | refine Y_res (r_assign rfl) rfl ?_
        exact XT_says (.inl rfl) Try.results32 rfl (by rw [decide_eq_false hne2])
    · obtain rfl : j = la.length := by omega
      have hab : la = lb := by rw [List.take_length, hl2, List.take_length] at htj; exact htj
      subst hab
      repeat first
        | refine XC_region ?_
        | refine X_nil ?_
        | refine XT_seq ?_
        | refine XT_block_normal ?_
        | refine XT_block_same rfl ?_
        | refine XT_then_exit ?_
        | refine XC_exit ?_
        | refine Y_res (r_move rfl) rfl ?_
        | refine Y_res (r_add64 rfl rfl (by omega)) rfl ?_
      exact XT_round (i + 1) ⟨by omega, take_next htk hla hlb⟩ (by omega) ⟨rfl, rfl, rfl, rfl, trivial⟩ (fun _ h => h)
  · obtain rfl : i = La.length := by omega
    have hab : La = Lb := by rw [List.take_length, hll, List.take_length] at htk; exact htk
    repeat first
      | refine XC_region ?_
      | refine X_nil ?_
      | refine XC_seq ?_
      | refine XT_seq ?_
      | refine XT_block_same rfl ?_
      | refine XT_then_exit ?_
      | refine XC_exit ?_
      | refine XC_ret ?_
      | refine Y_res (r_assign rfl) rfl ?_
    exact XT_says (.inl rfl) Try.results32 rfl (by rw [decide_eq_true hab])
end Go.Proofs.Ytbkbdnlolfaneaa.NRound
