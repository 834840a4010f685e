/- A slice of nothing, and what is copied into a new one. No program in sight. -/
import Derived.Test.YtfkhdhdbfejbpaaMXB
namespace Go.Proofs.Ytfkhdhdbfejbpaa.MX
open Go Go.RowKit
set_option linter.unusedVariables false
set_option linter.unusedSimpArgs false
set_option linter.unusedVariables false
section
variable {P : Program} {n : Nat} {ops : Array Oper} {Q : Exit → Act → World → Prop} {R : Regs} {rest : List Oper} {ty E T : TypeId} {w0 : World} {S : Nat → Prop} {cs : List Ch} {d g s : Nat} {pos : String} {af : Array Edge}
theorem X_buildE [hT : HasU P T (.slice E)] {by_ : Nat} [hE : HasI P E s by_] (h0 : 0 < s) (hd : Nat.blt d n = true)
    (q : ∀ g, w0.heap.size ≤ g → X P n ops Q rest ((d, .slice (some ⟨g, 0, none⟩) 0 0) :: R) (Hp w0 S (Ch.sv (some ⟨g, 0, none⟩) 0 E s 0 [] :: cs))) :
    X P n ops Q (⟨some d, .buildSlice T 0 #[], ty, pos, af, none⟩ :: rest) R (Hp w0 S cs) :=
  X_alloc (val := fun g => .slice (some ⟨g, 0, none⟩) 0 0) (new := fun g => Ch.sv (some ⟨g, 0, none⟩) 0 E s 0 []) (fun a w hR hM => ⟨.cells #[] E, by
    have h1 := run_size w hE.size
    have hrun : (Instr.buildSlice T 0 #[]).run P w = .ok (.slice (some ⟨w.heap.size, 0, none⟩) 0 0) (w.alloc (.cells #[] E)) := by
      simp only [Instr.buildSlice, Sem.run_bind, run_underlying hT.eq, Result.andThen_ok, h1, Nat.zero_mul]
      have e0 : ∀ f : Nat → Value, Array.map f (Array.range 0) = #[] := fun f => Array.eq_empty_of_size_eq_zero (by simp)
      simp [Instr.fill, newRow, newObj, Sem.run, e0]
    simp only [execOp]
    rw [Sem.run_bind]
    rw [show (#[] : Array (Nat × Operand)).map (fun (x : Nat × Operand) => (x.1, a.eval x.2)) = #[] from by simp, hrun]
    rfl, sv_blk (heap_alloc_new w _) (by simp) (by decide), fun j hj => by
      have : some w.heap.size = some j := hj
      injection this with this
      exact this.symm⟩) hd q
end
end Go.Proofs.Ytfkhdhdbfejbpaa.MX
