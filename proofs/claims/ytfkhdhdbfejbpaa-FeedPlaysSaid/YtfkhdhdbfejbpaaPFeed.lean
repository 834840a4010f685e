/- Readers of news, in plain words: a box with so many places, the first thing goes if it is full. -/
import Derived.Test.YtfkhdhdbfejbpaaMXN
namespace Go.Proofs.Ytfkhdhdbfejbpaa.PFd
open Go
set_option linter.unusedVariables false
set_option linter.unusedSimpArgs false
set_option linter.unusedVariables false
/-- A reader: where it lies, its channel, how many places; sends, receives, how many were lost; what is in the box. -/
structure Rd where
  g : Nat
  c : Nat
  cap : Nat
  s : Nat
  r : Nat
  lost : Nat
  buf : List Value
def Rd.put (x : Rd) (v : Value) : Rd := if x.buf.length < x.cap then { x with buf := x.buf ++ [v], s := x.s + 1 } else { x with buf := x.buf.tail ++ [v], s := x.s + 1, r := x.r + 1, lost := x.lost + 1 }
def rdV : Option Rd → Value
  | none => .pointer none
  | some x => .pointer (some ⟨x.g, 0, none⟩)
theorem rdV_one (x : Option Rd) : (rdV x).oneCell' = true := by cases x <;> rfl
/-- A reader that is right. -/
structure Rd.Ok (x : Rd) : Prop where
  cp : 1 ≤ x.cap
  le : x.buf.length ≤ x.cap
  lo : x.lost ≤ 1000000000
theorem Rd.put_cap (x : Rd) (v : Value) : (x.put v).cap = x.cap := by unfold Rd.put; split <;> rfl
theorem Rd.put_g (x : Rd) (v : Value) : (x.put v).g = x.g := by unfold Rd.put; split <;> rfl
theorem Rd.put_lost (x : Rd) (v : Value) : x.lost ≤ (x.put v).lost ∧ (x.put v).lost ≤ x.lost + 1 := by unfold Rd.put; split <;> dsimp only <;> omega
theorem Rd.put_len {x : Rd} (h : x.Ok) (v : Value) : (x.put v).buf.length ≤ x.cap := by
  have h1 := h.cp
  have h2 := h.le
  unfold Rd.put
  split <;> simp <;> omega
def findO (rs : List (Option Rd)) (i : Int) : Option Rd := if 1 ≤ i ∧ i ≤ rs.length then rs.getD (i - 1).toNat none else none
theorem findO_in {rs : List (Option Rd)} {k : Nat} (h : k < rs.length) : findO rs ((k : Int) + 1) = rs.getD k none := by
  rw [findO, if_pos (by omega), show ((k : Int) + 1 - 1).toNat = k by omega]
theorem findO_some {rs : List (Option Rd)} {i : Int} {x : Rd} (h : findO rs i = some x) : ∃ k : Nat, i = (k : Int) + 1 ∧ rs[k]? = some (some x) := by
  unfold findO at h
  split at h
  · rename_i hi
    refine ⟨(i - 1).toNat, by omega, ?_⟩
    have hlt : (i - 1).toNat < rs.length := by omega
    rw [List.getD_eq_getElem?_getD, List.getElem?_eq_getElem hlt] at h
    rw [List.getElem?_eq_getElem hlt]
    exact congrArg some h
  · cases h
def putO (v : Value) (o : Option Rd) : Option Rd := o.map (·.put v)
theorem rdV_put (v : Value) (o : Option Rd) : rdV (putO v o) = rdV o := by
  cases o with
  | none => rfl
  | some x => simp [putO, rdV, Rd.put_g]
/-- How many are there. -/
def cnt (rs : List (Option Rd)) : Nat := (rs.filter Option.isSome).length
def allOk (rs : List (Option Rd)) : Prop := ∀ x, some x ∈ rs → x.Ok
def takeO (rs : List (Option Rd)) (i : Int) : List (Option Rd) × Option Value :=
  match findO rs i with
  | none => (rs, none)
  | some x => match x.buf with
    | [] => (rs, none)
    | v :: t => (rs.set (i - 1).toNat (some { x with buf := t, r := x.r + 1 }), some v)
theorem takeO_none {rs : List (Option Rd)} {i : Int} (h : findO rs i = none) : takeO rs i = (rs, none) := by rw [takeO, h]
theorem takeO_nil {rs : List (Option Rd)} {i : Int} {x : Rd} (h : findO rs i = some x) (hb : x.buf = []) : takeO rs i = (rs, none) := by simp only [takeO, h, hb]
theorem takeO_cons {rs : List (Option Rd)} {i : Int} {x : Rd} {v : Value} {t : List Value} (h : findO rs i = some x) (hb : x.buf = v :: t) : takeO rs i = (rs.set (i - 1).toNat (some { x with buf := t, r := x.r + 1 }), some v) := by simp only [takeO, h, hb]
theorem set_self {α : Type} {l : List α} {j : Nat} {a : α} (h : l[j]? = some a) : l.set j a = l := by
  apply List.ext_getElem?
  intro i
  rw [List.getElem?_set]
  by_cases hi : j = i
  · subst hi
    rw [if_pos rfl, if_pos (List.getElem?_eq_some_iff.1 h).1, h]
  · rw [if_neg hi]
/-- Told to the first ones. -/
def toldTo (rs : List (Option Rd)) (v : Value) (j : Nat) : List (Option Rd) := (rs.take j).map (putO v) ++ rs.drop j
theorem toldTo_zero (rs : List (Option Rd)) (v : Value) : toldTo rs v 0 = rs := by simp [toldTo]
theorem toldTo_len (rs : List (Option Rd)) (v : Value) (j : Nat) : (toldTo rs v j).length = rs.length := by simp [toldTo]; omega
theorem toldTo_all (rs : List (Option Rd)) (v : Value) : toldTo rs v rs.length = rs.map (putO v) := by simp [toldTo]
theorem toldTo_at {rs : List (Option Rd)} {v : Value} {j : Nat} {o : Option Rd} (h : rs[j]? = some o) : (toldTo rs v j)[j]? = some o ∧ toldTo rs v (j + 1) = (toldTo rs v j).set j (putO v o) := by
  obtain ⟨h1, h2⟩ := List.getElem?_eq_some_iff.1 h
  have hl : ((rs.take j).map (putO v)).length = j := by simp; omega
  constructor
  · rw [toldTo, List.getElem?_append_right (by omega), hl, Nat.sub_self, List.getElem?_drop, Nat.add_zero, h]
  · rw [toldTo, toldTo, List.set_append_right _ _ (by omega), hl, Nat.sub_self, List.drop_eq_getElem_cons h1, h2, List.set_cons_zero, List.take_succ_eq_append_getElem h1, h2, List.map_append, List.append_assoc]
    rfl
theorem toldTo_vals (rs : List (Option Rd)) (v : Value) (j : Nat) : (toldTo rs v j).map rdV = rs.map rdV := by
  rw [toldTo, List.map_append, List.map_map]
  have e : (rdV ∘ putO v) = rdV := funext fun o => rdV_put v o
  rw [e, ← List.map_append, List.take_append_drop]
theorem cnt_succ {rs : List (Option Rd)} {j : Nat} {o : Option Rd} (h : rs[j]? = some o) : cnt (rs.take (j + 1)) = cnt (rs.take j) + (if o.isSome then 1 else 0) := by
  obtain ⟨h1, h2⟩ := List.getElem?_eq_some_iff.1 h
  rw [List.take_succ_eq_append_getElem h1, h2, cnt, cnt, List.filter_append]
  cases o <;> simp
theorem cnt_le (rs : List (Option Rd)) : cnt rs ≤ rs.length := List.length_filter_le _ _
end Go.Proofs.Ytfkhdhdbfejbpaa.PFd
