/- What the laws take: lists of bytes. -/
import Derived.Test.YtgnhpkdhicfeiaaDoorNMk8
import Derived.Test.YtgnhpkdhicfeiaaDoorNMkLaid
import Derived.Test.YtgnhpkdhicfeiaaDoorMXO
namespace Go.Proofs.YtgnhpkdhicfeiaaDoor.NMk
open Go Go.RowKit Go.Proofs.YtgnhpkdhicfeiaaDoor.MX Go.Proofs.YtgnhpkdhicfeiaaDoor.PSha Go.Proofs.YtgnhpkdhicfeiaaDoor.NSha Go.Proofs.YtgnhpkdhicfeiaaDoor.PMerkle
set_option linter.unusedVariables false
set_option linter.unusedSimpArgs false
set_option linter.unusedVariables false
def shLL := shSl Tryd.underlying22 (shSl Tryd.underlying34 (shInt .u8 Tryd.underlying5))
abbrev ByD := Option Addr × Nat × List Int
/-- The lists alone. -/
abbrev lss (l : List ByD) : List (List Int) := l.map fun o => o.2.2
theorem lls_at {w : World} {l : List ByD} {A : Option Addr} {c : Nat} (h : shLL.has w [.slice A l.length c] (A, c, l)) :
    LLs .u8 w A c (lss l) ∧ (∀ x ∈ lss l, x.length ≤ 140737488355327) ∧ ∀ x ∈ lss l, ∀ n ∈ x, (Lit.int .u8 n).wf = true := by
  have hc : Tryd.prog.cellsOf 34 = 1 := by kernel_rfl
  have e1 : Tryd.prog.bytesOf 5 = 1 := by kernel_rfl
  have hcell := fun (j : Nat) (o : ByD) (hj : l[j]? = some o) => shSl_cell hc h (j := j) (x := o) hj
  have hall : ∀ (j : Nat) (o : ByD), l[j]? = some o → w.cell? ((adOf A).add j) = some (.slice o.1 o.2.2.length o.2.1) ∧ Rds w o.1 o.2.1 .u8 o.2.2 ∧ o.2.1 ≤ 140737488355327 ∧ ∀ n ∈ o.2.2, (Lit.int .u8 n).wf = true := fun j o hj => by
    obtain ⟨v, k1, k2⟩ := hcell j o hj
    have k3 := Nat.le_trans k2.2.2.2.2.1 reach_bd
    rw [e1, Nat.mul_one] at k3
    obtain ⟨r1, r2, r3⟩ := shSl_ints (by kernel_rfl) k2
    obtain rfl := (List.cons.inj r1).1
    exact ⟨k1, r2, k3, r3⟩
  obtain ⟨h1, h2, h3, h4, _, h5⟩ := h
  have hm : maxLen ≤ 9223372036854775807 := by decide
  have hget : ∀ (j : Nat) (x : List Int), (lss l)[j]? = some x → ∃ o : ByD, l[j]? = some o ∧ o.2.2 = x := fun j x hx => by
    rw [List.getElem?_map] at hx
    cases hq : l[j]? with
    | none => rw [hq] at hx; cases hx
    | some o => rw [hq] at hx; exact ⟨o, rfl, Option.some.inj hx⟩
  refine ⟨⟨by rw [List.length_map]; exact h2, Nat.le_trans h3 hm, h4, fun j x hx => ?_⟩, fun x hx => ?_, fun x hx => ?_⟩
  · obtain ⟨o, ho, rfl⟩ := hget j x hx
    obtain ⟨k1, k2, _, _⟩ := hall j o ho
    exact ⟨o.1, o.2.1, k1, k2⟩
  · obtain ⟨j, hj⟩ := List.getElem?_of_mem hx
    obtain ⟨o, ho, rfl⟩ := hget j x hj
    obtain ⟨k1, k2, k3, _⟩ := hall j o ho
    exact Nat.le_trans k2.le k3
  · obtain ⟨j, hj⟩ := List.getElem?_of_mem hx
    obtain ⟨o, ho, rfl⟩ := hget j x hj
    exact (hall j o ho).2.2.2
theorem list_of_get {p : Nat → Value → Prop} : ∀ (n : Nat), (∀ i, i < n → ∃ v, p i v) → ∃ vs : List Value, vs.length = n ∧ ∀ i v, vs[i]? = some v → p i v
  | 0, _ => ⟨[], rfl, fun i v h => by simp at h⟩
  | n + 1, h => by
    obtain ⟨vs, h1, h2⟩ := list_of_get n (fun i hi => h i (by omega))
    obtain ⟨v, hv⟩ := h n (Nat.lt_succ_self n)
    refine ⟨vs ++ [v], by simp [h1], fun i u hu => ?_⟩
    rcases Nat.lt_or_ge i n with hi | hi
    · rw [List.getElem?_append_left (by omega)] at hu
      exact h2 i u hu
    · have hlt := (List.getElem?_eq_some_iff.1 hu).1
      simp at hlt
      obtain rfl : i = n := by omega
      rw [List.getElem?_append_right (by omega), h1, Nat.sub_self] at hu
      rw [← Option.some.inj hu]
      exact hv
/-- The cells of lists that are read. -/
theorem lls_toV {w : World} {A : Option Addr} {c : Nat} {L : List (List Int)} (h : LLs .u8 w A c L) : ∃ vs, RdV w A c 1 L.length vs ∧ (∀ u ∈ vs, u.oneCell' = true) ∧ ∀ (i : Nat) (l : List Int), L[i]? = some l → ∃ B d, vs[i]? = some (.slice B l.length d) ∧ Rds w B d .u8 l := by
  obtain ⟨vs, h1, h2⟩ := list_of_get (p := fun i v => w.cell? ((adOf A).add i) = some v ∧ ∃ l, L[i]? = some l ∧ ∃ B d, v = .slice B l.length d ∧ Rds w B d .u8 l) L.length (fun i hi => by
    obtain ⟨B, d, k1, k2⟩ := h.at_ i _ (List.getElem?_eq_getElem hi)
    exact ⟨_, k1, _, List.getElem?_eq_getElem hi, B, d, rfl, k2⟩)
  refine ⟨vs, ⟨h.le, h.cap, h.nil, by rw [h1, Nat.mul_one], fun j v hj => (h2 j v hj).1⟩, fun u hu => ?_, fun i l hl => ?_⟩
  · obtain ⟨i, hi⟩ := List.getElem?_of_mem hu
    obtain ⟨_, l, _, B, d, rfl, _⟩ := h2 i u hi
    rfl
  · have hlt := (List.getElem?_eq_some_iff.1 hl).1
    obtain ⟨v, hv⟩ : ∃ v, vs[i]? = some v := ⟨vs[i], List.getElem?_eq_getElem (by omega)⟩
    obtain ⟨_, l', hl', B, d, rfl, hr⟩ := h2 i v hv
    rw [hl] at hl'
    obtain rfl := Option.some.inj hl'
    exact ⟨B, d, hv, hr⟩
theorem lls_sv {w : World} {A : Option Addr} {c n : Nat} {e : TypeId} {vs : List Value} {L : List (List Int)} (h : (Ch.sv A c e 1 n vs).P w) (hl : vs.length = L.length) (hat : ∀ (i : Nat) (l : List Int), L[i]? = some l → ∃ B d, vs[i]? = some (.slice B l.length d) ∧ Rds w B d .u8 l) : LLs .u8 w A c L := by
  have r := rdv_sv h
  have hn := sv_len h
  refine ⟨by have := r.le; omega, r.cap, r.nil, fun i l hi => ?_⟩
  obtain ⟨B, d, h1, h2⟩ := hat i l hi
  exact ⟨B, d, r.at_ i _ h1, h2⟩
theorem wf_i64 {x : Int} (h : -9223372036854775808 ≤ x ∧ x ≤ 9223372036854775807) : (Lit.int .i64 x).wf = true := by
  show (decide (IntKind.i64.min ≤ x) && decide (x ≤ IntKind.i64.max)) = true
  rw [Bool.and_eq_true, decide_eq_true_eq, decide_eq_true_eq]
  have e1 : IntKind.i64.min = -9223372036854775808 := by decide
  have e2 : IntKind.i64.max = 9223372036854775807 := by decide
  omega
theorem few_len {L : List (List Int)} (h : fewS L) : ∀ d ∈ L, d.length ≤ 100000 := fun d hd => by
  obtain ⟨i, hi⟩ := List.getElem?_of_mem hd
  have h1 := flat_step hi
  have h2 := flat_le L (i + 1)
  have h3 := h.2
  omega
end Go.Proofs.YtgnhpkdhicfeiaaDoor.NMk
