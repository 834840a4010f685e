/- The document's disk read: walked. -/
import Derived.Test.YtipikjikjjmmiaaNPl9
namespace Go.Proofs.Ytipikjikjjmmiaa.NPl
open Go Go.RowKit Go.Proofs.Ytipikjikjjmmiaa.MX
set_option linter.unusedVariables false
set_option linter.unusedSimpArgs false
set_option linter.unusedVariables false
section
variable {P : Program} {n : Nat} {ops : Array Oper} {Q : Exit → Act → World → Prop} {R : Regs} {rest : List Oper} {ty E T T' : TypeId} {w0 : World} {S : Nat → Prop} {cs : List Ch} {d cap : Nat} {pos : String} {af : Array Edge} {x y : Operand} {A : Option Addr} {put : Ch → List Ch} {M : World → Prop}
theorem r_copyN [hT : HasU P T (.slice E)] {s by_ len : Nat} [hE : HasI P E s by_] (hx : R.ev x = some (.slice A len cap)) (hy : R.ev y = some (.slice none 0 0)) :
    Res P n (.call { callee := .builtin .copy, args := #[x, y], argTypes := #[T, T'] }) ty R M (.int .i64 0) := .mk fun a w hR hM => by
  have hs := run_size w hE.size
  cases A <;> simp [execOp, hR.ev hx, hR.ev hy, resolve, invoke, builtin, Builtin.copy_, run_underlying hT.eq, Builtin.lenOf, hs, Builtin.firstCells, storeCells, goInt]
/-- A row of bytes, or of nothing, copied into 64 bytes. -/
theorem X_copyIt [hT : HasU P T (.slice E)] {by_ : Nat} [hE : HasI P E 1 by_] {cap' : Nat} {e' : TypeId} {vs : List Value} {it : It} {s : List Int} (hx : R.ev x = some (.slice A 64 cap)) (hy : R.ev y = some it.val) [h : PkV A cs cap' e' 1 64 vs put]
    (hit : (it = it0 ∧ vs = secC s) ∨ ∃ B d, it = itI .u8 B d s) (hsl : s.length = 64) (hrd : ∀ w, Hp w0 S cs w → it.rd w) (hd : Nat.blt d n = true)
    (q : ∀ m, X P n ops Q rest ((d, .int .i64 m) :: R) (Hp w0 S (put (Ch.sv A cap' e' 1 64 (secC s))))) :
    X P n ops Q (⟨some d, .call { callee := .builtin .copy, args := #[x, y], argTypes := #[T, T'] }, ty, pos, af, none⟩ :: rest) R (Hp w0 S cs) := by
  rcases hit with ⟨rfl, rfl⟩ | ⟨B, c, rfl⟩
  · have q1 := q 0
    exact (X_mem (M' := Hp w0 S cs) (fun _ h => h) (Y_res (r_copyN hx hy) hd (X_mem (fun w hM => h.turn hM (Chg.refl _ _) (h.has hM) (fun j hj => .inl hj)) q1)))
  · have hy2 : R.ev y = some (.slice B 64 c) := by rw [hy, ← hsl]; rfl
    refine X_copyF hx hy2 (ys := secC s) (fun w hM => ?_) (secC_one s) (by decide) hd (q _)
    have := hrd w hM
    have h2 : RdV w B c 1 s.length (secC s) := this
    rwa [hsl] at h2
end
def PNow (p : Pl) : Prop := p.now = revS (fun _ => true) p.loose p.safe p.loose.length
section
variable {g : Nat} {a : Rd} {p : Pl} {w w0 : World} {TS : Nat → Prop} {es : List Ch} {si : List It} {li : List (Nat × It)}
set_option maxHeartbeats 2000000 in
theorem rread_no (i : Int) (hT : Hp w0 TS (RfC g a p si li es) w) (hn : thereP p i ≠ 0) :
    Calls Try.prog 25 #[.pointer (some ⟨g, 0, none⟩), .int .i64 i] w fun e w' => e = .returned (.tuple #[.slice none 0 0, .int .i64 (thereP p i)]) ∧ Hp w0 TS (RfC g a p si li es) w' := by
  refine calls_of_X (vs := [_, _]) (M := Hp w0 TS (RfC g a p si li es)) Try.func25 rfl Try.ntmps25 rfl hT ?_
  unfold RfC
  repeat first
    | refine XC_region ?_
    | refine X_nil ?_
    | refine XC_seq ?_
    | refine XT_seq ?_
    | refine Y_res (r_move rfl) rfl ?_
    | refine Y_res (r_assign rfl) rfl ?_
    | refine Y_res (r_field' rfl) rfl ?_
    | refine Y_res (r_nilCheck rfl) rfl ?_
    | refine Y_res (r_loadB rfl rfl) rfl ?_
  refine XC_cond rfl (fun h1 => ?_) (fun h1 => ?_)
  · have h2 : thereP p i = 50 := by rw [thereP, if_pos h1]
    rw [h2]
    repeat first
      | refine XC_region ?_
      | refine X_nil ?_
      | refine XC_seq ?_
      | refine XT_seq ?_
      | refine XT_then_ret ?_
      | refine XC_ret ?_
      | refine Y_res (r_assign rfl) rfl ?_
    exact XT_ret2 (.inl rfl) Try.results25 rfl rfl (fun w' h => ⟨rfl, h⟩)
  have h51 : i < 0 ∨ (p.n : Int) ≤ i → thereP p i = 51 := fun h3 => by rw [thereP, if_neg (by simp [h1]), if_pos h3]
  repeat first
    | refine XC_region ?_
    | refine XC_seq ?_
    | refine XT_seq ?_
    | refine XC_skip ?_
    | refine Y_res (r_move rfl) rfl ?_
    | refine Y_res (r_lss rfl rfl) rfl ?_
  refine Y_split rfl rfl (fun h2 => ?_) (fun h2 => ?_)
  · rw [h51 (.inl h2)]
    repeat first
      | refine XC_region ?_
      | refine X_nil ?_
      | refine XC_condT rfl ?_
      | refine XC_seq ?_
      | refine XT_seq ?_
      | refine XT_then_ret ?_
      | refine XC_ret ?_
      | refine Y_res (r_assign rfl) rfl ?_
      | refine Y_off rfl rfl rfl ?_
      | refine Y_res (r_pickT rfl rfl) rfl ?_
    exact XT_ret2 (.inl rfl) Try.results25 rfl rfl (fun w' h => ⟨rfl, h⟩)
  repeat first
    | refine X_nil ?_
    | refine XT_seq ?_
    | refine Y_res (r_move rfl) rfl ?_
    | refine Y_res (r_geq rfl rfl) rfl ?_
    | refine Y_on rfl rfl ?_
    | refine Y_res (r_field' rfl) rfl ?_
    | refine Y_res (r_nilCheck rfl) rfl ?_
    | refine Y_res (r_loadB rfl rfl) rfl ?_
    | refine Y_res (r_pickF rfl rfl) rfl ?_
  refine XC_condP rfl (fun h3 => ?_) (fun h3 => ?_)
  · rw [h51 (.inr h3)]
    repeat first
      | refine XC_region ?_
      | refine X_nil ?_
      | refine XC_seq ?_
      | refine XT_seq ?_
      | refine XT_then_ret ?_
      | refine XC_ret ?_
      | refine Y_res (r_assign rfl) rfl ?_
    exact XT_ret2 (.inl rfl) Try.results25 rfl rfl (fun w' h => ⟨rfl, h⟩)
  · exact absurd (by rw [thereP, if_neg (by simp [h1]), if_neg (by omega)]) hn
end
end Go.Proofs.Ytipikjikjjmmiaa.NPl
