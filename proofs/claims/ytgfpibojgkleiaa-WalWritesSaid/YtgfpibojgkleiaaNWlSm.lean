/- Lists of lists that come in; whether two lists of lists are the same: walked. -/
import Derived.Test.YtgfpibojgkleiaaNSame
import Derived.Test.YtgfpibojgkleiaaMXO
import Derived.Test.YtgfpibojgkleiaaMXZ
namespace Go.Proofs.Ytgfpibojgkleiaa.NWl
open Go Go.RowKit Go.Proofs.Ytgfpibojgkleiaa.MX Go.Proofs.Ytgfpibojgkleiaa.NSame
set_option linter.unusedVariables false
set_option linter.unusedSimpArgs false
set_option linter.unusedVariables false
set_option maxHeartbeats 2000000 in
theorem samell_any (La Lb : List (List Int)) (A B : Option Addr) (ca cb : Nat) (w : World) (ha : LLs .u8 w A ca La) (hb : LLs .u8 w B cb Lb) :
    Calls Try.prog 20 #[.slice A La.length ca, .slice B Lb.length cb] w (Says w (.bool (decide (La = Lb)))) := by
  have hal := ha.le
  have hbl := hb.le
  have hac := ha.cap
  have hbc := hb.cap
  refine calls_of_X (vs := [_, _]) (M := Hp w (fun _ => False) []) Try.func20 rfl Try.ntmps20 rfl (Hp.nil _ _) ?_
  repeat first
    | refine XC_region ?_
    | refine X_nil ?_
    | refine XC_seq ?_
    | refine XT_seq ?_
    | refine Y_res (r_move rfl) rfl ?_
    | refine Y_res (r_assign rfl) rfl ?_
    | refine Y_res (r_neq rfl rfl) rfl ?_
    | refine Y_res (r_len rfl) rfl ?_
  refine XC_condP rfl (fun h1 => ?_) (fun h1 => ?_)
  · have hne : ¬ La = Lb := fun e => h1 (by rw [e])
    repeat first
      | refine XC_region ?_
      | refine X_nil ?_
      | refine XC_seq ?_
      | refine XT_seq ?_
      | refine XT_then_ret ?_
      | refine XC_ret ?_
      | refine Y_res (r_assign rfl) rfl ?_
    exact XT_says (.inl rfl) Try.results20 rfl (by rw [decide_eq_false hne])
  have hll : La.length = Lb.length := by omega
  repeat first
    | refine XC_region ?_
    | refine X_nil ?_
    | refine XC_seq ?_
    | refine XT_seq ?_
    | refine XC_block ?_
    | refine XC_skip ?_
    | refine Y_res (r_move rfl) rfl ?_
    | refine Y_res (r_len rfl) rfl ?_
  refine XC_loop (ι := Nat) (fun i => i ≤ La.length ∧ La.take i = Lb.take i) (fun i => [(1, .slice B Lb.length cb), (12, .slice A La.length ca), (13, .int .i64 La.length), (14, .int .i64 i)])
    (fun i => Hp w (fun _ => False) []) (fun i => La.length - i) 0 ⟨Nat.zero_le _, by simp⟩ ⟨rfl, rfl, rfl, rfl, trivial⟩ (fun _ h => h) ?_
  rintro i ⟨hi, htk⟩
  repeat first
    | refine XC_region ?_
    | refine X_nil ?_
    | refine XC_seq ?_
    | refine XT_seq ?_
    | refine Y_res (r_lss rfl rfl) rfl ?_
  refine XC_condP rfl (fun hlt => ?_) (fun hge => ?_)
  · have hi2 : i < La.length := by omega
    have hi3 : i < Lb.length := by omega
    have hA := ha.some (by omega)
    have hB := hb.some (by omega)
    obtain ⟨la, hla⟩ : ∃ l, La[i]? = some l := ⟨La[i], List.getElem?_eq_getElem hi2⟩
    obtain ⟨lb, hlb⟩ : ∃ l, Lb[i]? = some l := ⟨Lb[i], List.getElem?_eq_getElem hi3⟩
    obtain ⟨A1, d1, hc1, hr1⟩ := ha.at_ i la hla
    obtain ⟨B1, e1, hc2, hr2⟩ := hb.at_ i lb hlb
    repeat first
      | refine XC_region ?_
      | refine X_nil ?_
      | refine XC_seq ?_
      | refine XT_seq ?_
      | refine XC_block ?_
      | refine XC_skip ?_
      | refine Y_res (r_move rfl) rfl ?_
      | refine Y_res (r_assign rfl) rfl ?_
      | refine Y_res (r_notB rfl) rfl ?_
      | refine Y_res (r_indexO rfl rfl hi2 hA) rfl ?_
      | refine Y_res (r_indexO rfl rfl hi3 hB) rfl ?_
      | refine Y_res (r_loadO rfl hc1 (fun h => h)) rfl ?_
      | refine Y_res (r_loadO rfl hc2 (fun h => h)) rfl ?_
      | refine Y_says (g := 15) rfl rfl (fun w1 hM => NSame.same_any la lb _ _ _ _ w1 (hr1.old hM old_false) (hr2.old hM old_false)) ?_
    rcases Classical.em (la = lb) with hxy | hxy
    · subst hxy
      refine XC_re (e := 25) (v' := .bool false) rfl (by simp) ?_
      repeat first
        | refine XC_region ?_
        | refine X_nil ?_
        | refine XC_condF rfl ?_
        | refine XT_seq ?_
        | refine XT_block_normal ?_
        | refine XC_skip ?_
        | refine Y_res (r_move rfl) rfl ?_
        | refine Y_res (r_add64 rfl rfl (by omega)) rfl ?_
      refine XT_round (i + 1) ⟨hi2, ?_⟩ (by omega) ⟨rfl, rfl, rfl, rfl, trivial⟩ (fun _ h => h)
      have h1 := List.getElem?_eq_some_iff.1 hla
      have h2 := List.getElem?_eq_some_iff.1 hlb
      obtain ⟨l1, e1⟩ := h1
      obtain ⟨l2, e2⟩ := h2
      rw [List.take_succ_eq_append_getElem l1, List.take_succ_eq_append_getElem l2, htk, e1, e2]
    · have hne : ¬ La = Lb := fun e => by
        rw [e, hlb] at hla
        exact hxy (Option.some.inj hla).symm
      refine XC_re (e := 25) (v' := .bool true) rfl (by simp [hxy]) ?_
      repeat first
        | refine XC_region ?_
        | refine X_nil ?_
        | refine XC_condT rfl ?_
        | refine XC_seq ?_
        | refine XT_seq ?_
        | refine XT_block_ret ?_
        | refine XT_then_ret ?_
        | refine XC_ret ?_
        | refine Y_res (r_assign rfl) rfl ?_
      exact XT_says (.inl rfl) Try.results20 rfl (by rw [decide_eq_false hne])
  · have hge : i = La.length := by omega
    subst hge
    have hab : La = Lb := by rw [List.take_length, hll, List.take_length] at htk; exact htk
    repeat first
      | refine XC_region ?_
      | refine X_nil ?_
      | refine XC_seq ?_
      | refine XT_seq ?_
      | refine XT_block_same rfl ?_
      | refine XT_then_exit ?_
      | refine XC_exit ?_
      | refine XC_ret ?_
      | refine Y_res (r_assign rfl) rfl ?_
    exact XT_says (.inl rfl) Try.results20 rfl (by rw [decide_eq_true hab])
def shLL := shSl Try.underlying33 (shSl Try.underlying30 (shInt .u8 Try.underlying5))
abbrev ByD := Option Addr × Nat × List Int
/-- The lists alone. -/
abbrev lss (l : List ByD) : List (List Int) := l.map fun o => o.2.2
theorem lls_at {w : World} {l : List ByD} {A : Option Addr} {c : Nat} (h : shLL.has w [.slice A l.length c] (A, c, l)) :
    LLs .u8 w A c (lss l) ∧ (∀ x ∈ lss l, x.length ≤ 140737488355327) ∧ ∀ x ∈ lss l, ∀ n ∈ x, (Lit.int .u8 n).wf = true := by
  have hc : Try.prog.cellsOf 30 = 1 := by kernel_rfl
  have e1 : Try.prog.bytesOf 5 = 1 := by kernel_rfl
  have hcell := fun (j : Nat) (o : ByD) (hj : l[j]? = some o) => shSl_cell hc h (j := j) (x := o) hj
  have hall : ∀ (j : Nat) (o : ByD), l[j]? = some o → w.cell? ((adOf A).add j) = some (.slice o.1 o.2.2.length o.2.1) ∧ Rds w o.1 o.2.1 .u8 o.2.2 ∧ o.2.1 ≤ 140737488355327 ∧ ∀ n ∈ o.2.2, (Lit.int .u8 n).wf = true := fun j o hj => by
    obtain ⟨v, k1, k2⟩ := hcell j o hj
    have k3 := Nat.le_trans k2.2.2.2.2.1 reach_bd
    rw [e1, Nat.mul_one] at k3
    obtain ⟨r1, r2, r3⟩ := shSl_ints (by kernel_rfl) k2
    obtain rfl := (List.cons.inj r1).1
    exact ⟨k1, r2, k3, r3⟩
  obtain ⟨h1, h2, h3, h4, _, h5⟩ := h
  have hm : maxLen ≤ 9223372036854775807 := by decide
  have hget : ∀ (j : Nat) (x : List Int), (lss l)[j]? = some x → ∃ o : ByD, l[j]? = some o ∧ o.2.2 = x := fun j x hx => by
    rw [List.getElem?_map] at hx
    cases hq : l[j]? with
    | none => rw [hq] at hx; cases hx
    | some o => rw [hq] at hx; exact ⟨o, rfl, Option.some.inj hx⟩
  refine ⟨⟨by rw [List.length_map]; exact h2, Nat.le_trans h3 hm, h4, fun j x hx => ?_⟩, fun x hx => ?_, fun x hx => ?_⟩
  · obtain ⟨o, ho, rfl⟩ := hget j x hx
    obtain ⟨k1, k2, _, _⟩ := hall j o ho
    exact ⟨o.1, o.2.1, k1, k2⟩
  · obtain ⟨j, hj⟩ := List.getElem?_of_mem hx
    obtain ⟨o, ho, rfl⟩ := hget j x hj
    obtain ⟨k1, k2, k3, _⟩ := hall j o ho
    exact Nat.le_trans k2.le k3
  · obtain ⟨j, hj⟩ := List.getElem?_of_mem hx
    obtain ⟨o, ho, rfl⟩ := hget j x hj
    exact (hall j o ho).2.2.2
def shLLL := shSl Try.underlying40 shLL
abbrev LlD := Option Addr × Nat × List ByD
theorem llls_at {w : World} {l : List LlD} {A : Option Addr} {c : Nat} (h : shLLL.has w [.slice A l.length c] (A, c, l)) :
    (0 < l.length → A = some (adOf A)) ∧ l.length ≤ c ∧ c ≤ 9223372036854775807 ∧ ∀ (j : Nat) (o : LlD), l[j]? = some o → w.cell? ((adOf A).add j) = some (.slice o.1 (lss o.2.2).length o.2.1) ∧ LLs .u8 w o.1 o.2.1 (lss o.2.2) ∧ (∀ x ∈ lss o.2.2, x.length ≤ 140737488355327) ∧ ∀ x ∈ lss o.2.2, ∀ n ∈ x, (Lit.int .u8 n).wf = true := by
  have hc : Try.prog.cellsOf 33 = 1 := by kernel_rfl
  have hcell := fun (j : Nat) (o : LlD) (hj : l[j]? = some o) => shSl_cell hc h (j := j) (x := o) hj
  obtain ⟨h1, h2, h3, h4, _, h5⟩ := h
  have hm : maxLen ≤ 9223372036854775807 := by decide
  refine ⟨fun hp => ?_, h2, Nat.le_trans h3 hm, fun j o hj => ?_⟩
  · cases A with
    | none => have := h4 rfl; dsimp only at this h2; omega
    | some a => rfl
  · obtain ⟨v, k1, k2⟩ := hcell j o hj
    have k3 := k2
    have q1 : [v] = [Value.slice o.1 o.2.2.length o.2.1] := k2.1
    obtain rfl := (List.cons.inj q1).1
    have e : o.2.2.length = (lss o.2.2).length := (List.length_map ..).symm
    refine ⟨by rw [← e]; exact k1, ?_⟩
    exact lls_at k3
end Go.Proofs.Ytgfpibojgkleiaa.NWl
