/- Calls in a row, for the laws. -/
import Derived.Test.YtoednaebdfohbaaNRing9
namespace Go.Proofs.Ytoednaebdfohbaa.NRing
open Go Go.RowKit Go.Proofs.Ytoednaebdfohbaa.MX Go.Proofs.Ytoednaebdfohbaa.PRing
set_option linter.unusedVariables false
set_option linter.unusedSimpArgs false
section
variable {P : Program} {n : Nat} {ops : Array Oper} {Q : Exit → Act → World → Prop} {R : Regs} {rest : List Oper} {ty : TypeId} {w0 : World} {S : Nat → Prop} {cs : List Ch} {d g : Nat} {pos : String} {af : Array Edge} {tys : Array TypeId}
/-- A call that tells a list and true. -/
theorem X_told [hf : HasFn P g] {us : List Operand} {vs : List Value} (ha : R.evl us = some vs) (hd : Nat.blt d n = true) {p : Prop} [Decidable p] (hp : p) {z : List Int}
    (h : ∀ w, Hp w0 S cs w → Calls P g vs.toArray w (fun e w' => Told w w' e p z))
    (q : ∀ A cap x, x = z → X P n ops Q rest ((d, .tuple #[.slice A x.length cap, .bool true]) :: R) (Hp w0 S (Ch.sl A cap 3 .i64 x :: cs))) :
    X P n ops Q (⟨some d, .call { callee := .value (.func g), args := us.toArray, argTypes := tys }, ty, pos, af, none⟩ :: rest) R (Hp w0 S cs) :=
  X_call ha hd fun w hM => (h w hM).mono fun e w' hh => by
    obtain ⟨hc, hif⟩ := hh
    rw [if_pos hp] at hif
    obtain ⟨v, rfl, A, cap, rfl, h1, h2⟩ := hif
    exact ⟨_, rfl, _, hM.add hc h1 h2, q A cap z rfl⟩
/-- A call whose list isn't looked at. -/
theorem X_toldN [hf : HasFn P g] {us : List Operand} {vs : List Value} (ha : R.evl us = some vs) {p : Prop} [Decidable p] {z : List Int}
    (h : ∀ w, Hp w0 S cs w → Calls P g vs.toArray w (fun e w' => Told w w' e p z)) (q : X P n ops Q rest R (Hp w0 S cs)) :
    X P n ops Q (⟨none, .call { callee := .value (.func g), args := us.toArray, argTypes := tys }, ty, pos, af, none⟩ :: rest) R (Hp w0 S cs) :=
  X_callN ha fun w hM => (h w hM).mono fun e w' hh => by
    obtain ⟨hc, hif⟩ := hh
    by_cases hp : p
    · rw [if_pos hp] at hif
      obtain ⟨v, rfl, _⟩ := hif
      exact ⟨_, rfl, _, hM.keep hc, q⟩
    · rw [if_neg hp] at hif
      exact ⟨_, hif, _, hM.keep hc, q⟩
/-- A call that tells nothing and false. -/
theorem X_toldF [hf : HasFn P g] {us : List Operand} {vs : List Value} (ha : R.evl us = some vs) (hd : Nat.blt d n = true) {p : Prop} [Decidable p] (hp : ¬ p) {z : List Int}
    (h : ∀ w, Hp w0 S cs w → Calls P g vs.toArray w (fun e w' => Told w w' e p z))
    (q : X P n ops Q rest ((d, .tuple #[.slice none 0 0, .bool false]) :: R) (Hp w0 S cs)) :
    X P n ops Q (⟨some d, .call { callee := .value (.func g), args := us.toArray, argTypes := tys }, ty, pos, af, none⟩ :: rest) R (Hp w0 S cs) :=
  X_call ha hd fun w hM => (h w hM).mono fun e w' hh => by
    obtain ⟨hc, hif⟩ := hh
    rw [if_neg hp] at hif
    exact ⟨_, hif, _, hM.keep hc, q⟩
/-- A call that tells a list. -/
theorem X_newl [hf : HasFn P g] {us : List Operand} {vs : List Value} (ha : R.evl us = some vs) (hd : Nat.blt d n = true) {z : List Int}
    (h : ∀ w, Hp w0 S cs w → Calls P g vs.toArray w (fun e w' => ∃ v, e = .returned v ∧ NewSl w w' z v ∧ Chg (fun _ => False) w w'))
    (q : ∀ A cap x, x = z → X P n ops Q rest ((d, .slice A x.length cap) :: R) (Hp w0 S (Ch.sl A cap 3 .i64 x :: cs))) :
    X P n ops Q (⟨some d, .call { callee := .value (.func g), args := us.toArray, argTypes := tys }, ty, pos, af, none⟩ :: rest) R (Hp w0 S cs) :=
  X_call ha hd fun w hM => (h w hM).mono fun e w' hh => by
    obtain ⟨v, rfl, ⟨A, cap, rfl, h1, h2⟩, hc⟩ := hh
    exact ⟨_, rfl, _, hM.add hc h1 h2, q A cap z rfl⟩
end
theorem rvalid_is (a : List Int) (A : Option Addr) (c : Nat) (w : World) (hr : Rds w A c .i64 a) {b : Bool} (h : vd a = b) : Calls Try.prog 14 #[.slice A a.length c] w fun e w' => e = .returned (.bool b) ∧ Chg (fun _ => False) w w' := by
  rw [← h]; exact rvalid_any a A c w hr
end Go.Proofs.Ytoednaebdfohbaa.NRing
