/- Function values (closures), max and min. No program in sight. -/
import Derived.Test.YtfkhdhdbfejbpaaMXG
namespace Go.Proofs.Ytfkhdhdbfejbpaa.MX
open Go Go.RowKit
set_option linter.unusedVariables false
set_option linter.unusedSimpArgs false
section
variable {P : Program} {n : Nat} {ops : Array Oper} {md : Md} {Q : Exit → Act → World → Prop} {R : Regs} {M : World → Prop} {rest : List Oper} {ty T T1 T2 : TypeId} {x y z : Operand} {pos : String} {af : Array Edge} {d g : Nat} {tys : Array TypeId} {v : Value} {k k' k2 : IntKind} {a b c : Int} {K : World → Act → Prop}
theorem r_makeFunc {as : List Operand} {vs : List Value} (ha : R.evl as = some vs) : Res P n (.makeFunc (.func g) #[] as.toArray) ty R M (.func (.func g) #[] vs.toArray) := .mk fun a w hR hM => by
  have := hR.evl ha
  simp [execOp, Instr.makeFunc, this]
theorem run_callV [hf : HasFn P g] {xs : List Operand} {vs cs : List Value} {a : Act} (hR : Mod n a R) (hz : R.ev z = some (.func (.func g) #[] cs.toArray)) (ha : R.evl xs = some vs) (w : World) :
    (execOp a.eval ⟨none, .call { callee := .value z, args := xs.toArray, argTypes := tys }, ty, "", #[], none⟩).run P w = .ok (.enter g (vs ++ cs).toArray) w := by
  have := hR.evl ha
  simp [execOp, resolve, Deferred.ofValue, invoke, hR.ev hz, this, hf.eq]
/-- A call of a function value. -/
theorem X_callV [hf : HasFn P g] {as : List Operand} {vs cs : List Value} (hz : R.ev z = some (.func (.func g) #[] cs.toArray)) (ha : R.evl as = some vs) (hd : Nat.blt d n = true)
    (h : ∀ w, M w → Calls P g (vs ++ cs).toArray w (fun e w' => ∃ v, e = .returned v ∧ ∃ M' : World → Prop, M' w' ∧ X P n ops Q rest ((d, v) :: R) M')) :
    X P n ops Q (⟨some d, .call { callee := .value z, args := as.toArray, argTypes := tys }, ty, pos, af, none⟩ :: rest) R M := .x fun a w hR hM =>
  wpList_plain rfl fun _ hK => by
    unfold Oper.wp
    rw [execOp_of, run_callV hR hz ha w]
    refine (h w hM).mono fun e w' hh => ?_
    obtain ⟨v, rfl, M', hm, hx⟩ := hh
    exact hK _ _ (hx.runX _ w' (hR.put hd v) hm)
theorem Y_callV [hf : HasFn P g] {as : List Operand} {vs cs : List Value} (hz : R.ev z = some (.func (.func g) #[] cs.toArray)) (ha : R.evl as = some vs) (hd : Nat.blt d n = true)
    (h : ∀ w, M w → Calls P g (vs ++ cs).toArray w (fun e w' => e = .returned v ∧ M w')) (q : Y P n ops md rest ((d, v) :: R) M) :
    Y P n ops md (⟨some d, .call { callee := .value z, args := as.toArray, argTypes := tys }, ty, pos, af, none⟩ :: rest) R M := by
  cases md with
  | x Q => exact X_callV hz ha hd fun w hM => (h w hM).mono fun e w' hh => ⟨v, hh.1, M, hh.2, q⟩
  | q K =>
    exact .q fun a hR =>
      wpQuiet_step fun K' hK => by
        simp only [Region.wanted, if_true]
        refine ⟨v, fun w hM => ?_, hK _ (q.runQ _ (hR.put hd v))⟩
        unfold Oper.quietAt
        rw [execOp_of, run_callV hR hz ha w]
        exact ⟨rfl, h w hM⟩
/-! ### max, min -/
theorem r_max2 (hx : R.ev x = some (.int k a)) (hy : R.ev y = some (.int k' b)) : Res P n (.call { callee := .builtin .max, args := #[x, y], argTypes := tys }) ty R M (.int k (if b > a then b else a)) := .mk fun a w hR hM => by
  simp [execOp, hR.ev hx, hR.ev hy, resolve, invoke, builtin, Builtin.max_, Builtin.max2]
theorem r_max3 (hx : R.ev x = some (.int k a)) (hy : R.ev y = some (.int k' b)) (hz : R.ev z = some (.int k2 c)) : Res P n (.call { callee := .builtin .max, args := #[x, y, z], argTypes := tys }) ty R M (.int k (if c > (if b > a then b else a) then c else (if b > a then b else a))) := .mk fun a w hR hM => by
  simp [execOp, hR.ev hx, hR.ev hy, hR.ev hz, resolve, invoke, builtin, Builtin.max_, Builtin.max2]
theorem r_min2 (hx : R.ev x = some (.int k a)) (hy : R.ev y = some (.int k' b)) : Res P n (.call { callee := .builtin .min, args := #[x, y], argTypes := tys }) ty R M (.int k (if b < a then b else a)) := .mk fun a w hR hM => by
  simp [execOp, hR.ev hx, hR.ev hy, resolve, invoke, builtin, Builtin.min_, Builtin.min2]
end
end Go.Proofs.Ytfkhdhdbfejbpaa.MX
