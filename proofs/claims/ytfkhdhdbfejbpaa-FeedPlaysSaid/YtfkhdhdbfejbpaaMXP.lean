/- Appends onto what is full, or of nothing; new bytes of whatever value; slices of three bounds; parts of a block that are read. No program in sight. -/
import Derived.Test.YtfkhdhdbfejbpaaMXL
import Derived.Lib.MakeNoZero
import Derived.Laws.Externs
import Derived.Deep.Upon
namespace Go.Proofs.Ytfkhdhdbfejbpaa.MX
open Go Go.RowKit
set_option linter.unusedVariables false
set_option linter.unusedSimpArgs false
section
variable {P : Program} {n : Nat} {ops : Array Oper} {md : Md} {Q : Exit → Act → World → Prop} {R : Regs} {rest : List Oper} {ty E T : TypeId} {w0 : World} {S : Nat → Prop} {cs : List Ch} {d g : Nat} {pos : String} {af : Array Edge} {tys : Array TypeId} {k k' : IntKind} {x y z : Operand} {A A2 : Option Addr} {b : Addr} {len cap l2 c2 : Nat} {xs ys : List Int} {M : World → Prop} {rs : List Value} {T1 : TypeId}
/-- Whole numbers at a block's start, other cells behind: read. -/
theorem rds_hd {go : Nat} {w : World} (h : (Ch.hd go k xs rs T1).P w) (hc : xs.length ≤ cap) (hm : cap ≤ 9223372036854775807) : Rds w (some ⟨go, 0, none⟩) cap k xs :=
  ⟨hc, hm, fun e => (by cases e), fun j hj => by
    have hb : w.heap[go]? = some (.cells (xs.map (Value.int k) ++ rs).toArray T1 (0, 0)) := h
    have e := map_getD (k := k) hj
    show w.cell? ((⟨go, 0, none⟩ : Addr).add j) = _
    rw [add_mk, Nat.zero_add]
    simp only [World.cell?, hb, Option.isSome_none, Bool.false_eq_true, if_false, List.getElem?_toArray]
    rw [List.getElem?_append_left (by simpa using hj)]
    exact e⟩
/-- An element of a slice that lies at a block's start. -/
theorem r_indexB {go i : Nat} [hT : HasU P T (.slice E)] {by_ : Nat} [hE : HasI P E 1 by_] {e : Int} (hx : R.ev x = some (.slice (some ⟨go, 0, none⟩) len cap)) (hy : R.ev y = some (.int k e)) [hi : NatOf e i] (hlt : i < len) :
    Res P n (.indexAddr T x y) ty R M (.pointer (some ⟨go, i, none⟩)) := by
  have := r_index1 (P := P) (n := n) (M := M) (ty := ty) (T := T) hx hy hlt
  rwa [add_mk, Nat.zero_add] at this
/-- x[:h:m]. -/
theorem r_cutHM {i j : Nat} [hT : HasU P T (.slice E)] {s by_ : Nat} [hE : HasI P E s by_] {e f : Int} {go : Nat} (hx : R.ev x = some (.slice (some ⟨go, 0, none⟩) len cap)) (hy : R.ev y = some (.int k e)) (hz : R.ev z = some (.int k' f)) [hi : NatOf e i] [hj : NatOf f j] (h : i ≤ j) (h' : j ≤ cap) :
    Res P n (.slice T x none (some y) (some z)) ty R M (.slice (some ⟨go, 0, none⟩) i j) := .mk fun a w hR hM => by
  have he := hi.eq
  have hf := hj.eq
  subst he
  subst hf
  have hs := run_size (E := E) w hE.size
  have he : P.elem T = E := by simp [Program.elem, hT.eq]
  have hu : P.underlying T = some (.slice (P.elem T)) := by rw [he]; exact hT.eq
  have hrun : (Instr.sliceAt T (.slice (some ⟨go, 0, none⟩) len cap) none (some (.int k i)) (some (.int k' j))).run P w = .ok (.slice (some ⟨go, 0, none⟩) i j) w := by
    rw [run_sliceAt_slice (h := hu), run_slice_hm (ht := hu) (h0 := by omega) (h2 := by omega) (h3 := by omega), he, hs]
    simp [Result.andThen, sliced, add_0]
  simp [execOp, hR.ev hx, hR.ev hy, hR.ev hz, hrun]
/-- An append of nothing. -/
theorem Y_append0 [hT : HasU P T (.slice E)] {by_ : Nat} [hE : HasI P E 1 by_] (hx : R.ev x = some (.slice A len cap)) (hy : R.ev y = some (.slice A2 0 c2)) (hle : len ≤ cap) (hd : Nat.blt d n = true)
    (q : X P n ops Q rest ((d, .slice A len cap) :: R) M) : X P n ops Q (⟨some d, .call { callee := .builtin .append, args := #[x, y], argTypes := #[T, T] }, ty, pos, af, none⟩ :: rest) R M := by
  refine X_res (v := .slice A len cap) ⟨fun a w hR hM => ?_⟩ hd q
  obtain ⟨info, hi, _, _⟩ : ∃ info, P.info? E = some info ∧ info.size = 1 ∧ info.bytes = by_ := by
    have := hE.eq
    cases hq : P.info? E with
    | none => simp [hq] at this
    | some i => simp [hq] at this; exact ⟨i, rfl, this.1, this.2⟩
  have h1 : (Builtin.append_ #[T, T] ty #[.slice A len cap, .slice A2 0 c2]).run P w = .ok (.slice A len cap) w := by
    cases A <;> cases A2 <;> simp [Builtin.append_, run_underlying hT.eq, sizeOf, typeInfo, hi, Builtin.lenOf, hle, Builtin.firstCells, storeCells, loadCells, loadCellsFrom]
  simp only [execOp, resolve, invoke, builtin, Sem.run_bind, Sem.run_pure, Result.andThen_ok, List.map_toArray, List.map_cons, List.map_nil, hR.ev hx, hR.ev hy, h1]
/-- An append for which there is no room: what is told is new. -/
theorem X_appendG [hT : HasU P T (.slice E)] {by_ : Nat} [hE : HasI P E 1 by_] [hz : HasZ P E (.int k 0)] (hx : R.ev x = some (.slice A len cap)) (hy : R.ev y = some (.slice A2 l2 c2)) (h1 : ∀ w, Hp w0 S cs w → Rds w A cap k xs) (h2 : ∀ w, Hp w0 S cs w → Rds w A2 c2 k ys)
    (hl : len = xs.length) (hl2 : l2 = ys.length) (hg : cap < xs.length + ys.length) (hp : 0 < xs.length) (hb : (xs.length + ys.length) * by_ ≤ 140737488355328) (hm : xs.length + ys.length ≤ 9223372036854775807) (hd : Nat.blt d n = true)
    (q : ∀ A' cap', X P n ops Q rest ((d, .slice A' (xs ++ ys).length cap') :: R) (Hp w0 S (Ch.sl A' cap' E k (xs ++ ys) :: cs))) :
    X P n ops Q (⟨some d, .call { callee := .builtin .append, args := #[x, y], argTypes := #[T, T] }, ty, pos, af, none⟩ :: rest) R (Hp w0 S cs) := .x fun a w hR hM =>
  wpList_plain rfl fun _ hK => by
    subst hl
    subst hl2
    obtain ⟨info, hi, hi1, hi2⟩ : ∃ info, P.info? E = some info ∧ info.size = 1 ∧ info.bytes = by_ := by
      have := hE.eq
      cases hq : P.info? E with
      | none => simp [hq] at this
      | some i => simp [hq] at this; exact ⟨i, rfl, this.1, this.2⟩
    have hz' : info.zero = some (.int k 0) := by
      have := hz.eq w
      cases hq : info.zero with
      | none => simp [zeroValue, typeInfo, Sem.run_bind, hi, hq, unsupported] at this
      | some z => simp [zeroValue, typeInfo, Sem.run_bind, hi, hq] at this; rw [this]
    have r1 := h1 w hM
    have r2 := h2 w hM
    have e1 := r1.some (by have := r1.le; omega)
    have hyp : 0 < ys.length := by have := r1.le; omega
    have e2 := r2.some (by have := r2.le; omega)
    have hfit : Builtin.nextslicecap (xs.length + ys.length) cap * info.bytes ≤ 281474976710656 := by
      rw [hi2]
      exact growslice_fits hg hb
    have hrun := run_append_grow (P := P) (w := w) T ty E info (.int k 0) hT.eq hi hz' (adOf A) xs.length cap (xs.map (Value.int k)) (by simp [hi1]) (fun j v hv => by
        have hj : j < xs.length := by have := (List.getElem?_eq_some_iff.1 hv).1; simpa using this
        rw [map_getD hj] at hv
        rw [← hv]; exact r1.at_ j hj) (adOf A2) ys.length c2 (ys.map (Value.int k)) (by simp [hi1]) (fun j v hv => by
        have hj : j < ys.length := by have := (List.getElem?_eq_some_iff.1 hv).1; simpa using this
        rw [map_getD hj] at hv
        rw [← hv]; exact r2.at_ j hj) hg (by omega) hfit
    rw [← e1, ← e2] at hrun
    have hge := grownCap_ge w (xs.length + ys.length) cap E
    have hle := grownCap_le_maxLen w (xs.length + ys.length) cap E (by unfold maxLen; omega)
    unfold Oper.wp
    rw [execOp_of]
    simp only [execOp, resolve, invoke, builtin, Sem.run_bind, Sem.run_pure, Result.andThen_ok, List.map_toArray, List.map_cons, List.map_nil, hR.ev hx, hR.ev hy, hrun]
    have hl3 : (xs ++ ys).length = xs.length + ys.length := List.length_append
    refine hK _ _ ((q (some ⟨w.heap.size, 0, none⟩) (grownCap w (xs.length + ys.length) cap E)).runX _ _ (by rw [hl3]; exact hR.put hd _) ?_)
    refine (hM.drewN 1).add ((Chg.refl _ _).alloc _) ?_ (fun j hj => ?_)
    · refine ⟨by simp, .inr ⟨w.heap.size, grownCap w (xs.length + ys.length) cap E, _, by rw [hl3], Nat.zero_le _, heap_alloc_new _ _, by rw [hl3]; exact hge, hle, ?_, ?_⟩⟩
      · simp [Builtin.zeroCells, Value.cells]
        omega
      · rw [Nat.mul_one, hl3, List.map_append]
        simp only [Array.toList_append]
        rw [List.take_append_of_le_length (by simp), List.take_of_length_le (by simp)]
    · have : some w.heap.size = some j := hj
      injection this with this
      rw [← this]; exact Nat.le_refl _
/-- An append onto what is full, of anything: the sum is read, and what was is there. -/
theorem X_appendE [hT : HasU P T (.slice E)] {by_ : Nat} [hE : HasI P E 1 by_] [hz : HasZ P E (.int k 0)] (hx : R.ev x = some (.slice A len cap)) (hy : R.ev y = some (.slice A2 l2 c2)) (h1 : ∀ w, Hp w0 S cs w → Rds w A cap k xs) (h2 : ∀ w, Hp w0 S cs w → Rds w A2 c2 k ys)
    (hl : len = xs.length) (hl2 : l2 = ys.length) (hg : cap = xs.length) (hp : 0 < xs.length) (hb : (xs.length + ys.length) * by_ ≤ 140737488355328) (hm : xs.length + ys.length ≤ 9223372036854775807) (hd : Nat.blt d n = true)
    (q : ∀ A' cap' cs', (∀ w, Hp w0 S cs' w → Rds w A' cap' k (xs ++ ys)) → (∀ w, Hp w0 S cs' w → Hp w0 S cs w) → X P n ops Q rest ((d, .slice A' (xs ++ ys).length cap') :: R) (Hp w0 S cs')) :
    X P n ops Q (⟨some d, .call { callee := .builtin .append, args := #[x, y], argTypes := #[T, T] }, ty, pos, af, none⟩ :: rest) R (Hp w0 S cs) := by
  by_cases h0 : ys.length = 0
  · obtain rfl := List.eq_nil_of_length_eq_zero h0
    have q0 := q A cap cs (fun w h => by simpa using h1 w h) (fun _ h => h)
    simp only [List.append_nil] at q0
    subst hl
    subst hl2
    exact Y_append0 hx hy (by omega) hd q0
  · exact X_appendG hx hy h1 h2 hl hl2 (by omega) hp hb hm hd (fun A' cap' => q A' cap' _ (fun w h => rds_sl h.head) (fun w h => h.tail))
/-- New bytes of whatever value (an entry of the library). -/
theorem X_mnz {us : List Operand} {m : Nat} (ha : R.evl us = some [.int .i64 m]) (hd : Nat.blt d n = true)
    (h : ∀ w, ∃ c : Array Value, (callFunc g #[.int .i64 m]).run P w = .ok (.value (.slice (some ⟨w.heap.size, 0, none⟩) m c.size)) ((w.alloc (.cells c E)).drewN 2) ∧ m ≤ c.size)
    (q : ∀ go (vs : List Value), w0.heap.size ≤ go → m ≤ vs.length → X P n ops Q rest ((d, .slice (some ⟨go, 0, none⟩) m vs.length) :: R) (Hp w0 S (Ch.blk go vs E :: cs))) :
    X P n ops Q (⟨some d, .call { callee := .value (.func g), args := us.toArray, argTypes := tys }, ty, pos, af, none⟩ :: rest) R (Hp w0 S cs) := .x fun a w hR hM =>
  wpList_plain rfl fun _ hK => by
    obtain ⟨c, h1, h2⟩ := h w
    have h0 := hR.evl ha
    have hrun : (execOp a.eval ⟨none, .call { callee := .value (.func g), args := us.toArray, argTypes := tys }, ty, "", #[], none⟩).run P w = .ok (.value (.slice (some ⟨w.heap.size, 0, none⟩) m c.size)) ((w.alloc (.cells c E)).drewN 2) := by
      simp [execOp, resolve, Deferred.ofValue, Act.eval, invoke, h0, h1]
    unfold Oper.wp
    rw [execOp_of, hrun]
    refine hK _ _ ((q w.heap.size c.toList hM.chg.size (by simpa using h2)).runX _ _ (by simpa using hR.put hd _) ?_)
    exact (hM.add ((Chg.refl _ _).alloc _) (d := Ch.blk w.heap.size c.toList E) (by show (w.alloc (.cells c E)).heap[w.heap.size]? = _; rw [heap_alloc_new]) (fun j hj => by rw [show j = w.heap.size from hj]; exact Nat.le_refl _)).drewN 2
/-- Whole numbers at a block's start, read, whatever is behind. -/
theorem rds_blk {go : Nat} {w : World} {vs : List Value} (h : (Ch.blk go vs T1).P w) (hx : ∃ r, vs = xs.map (Value.int k) ++ r) (hc : xs.length ≤ cap) (hm : cap ≤ 9223372036854775807) : Rds w (some ⟨go, 0, none⟩) cap k xs := by
  obtain ⟨r, rfl⟩ := hx
  exact rds_hd (T1 := T1) (rs := r) h hc hm
theorem Mod.re {a : Act} {e : Nat} {v v' : Value} (hR : Mod n a R) (hv : R.get e = some v) (hvv : v = v') : Mod n a ((e, v') :: R) := by
  subst hvv
  exact ⟨hR.size, hR.defers, fun t u hu => by
    simp only [Regs.get] at hu
    cases hb : Nat.beq e t with
    | true => rw [hb] at hu; have := Nat.eq_of_beq_eq_true hb; subst this; exact hR.get _ _ (by rw [hv]; exact hu)
    | false => rw [hb] at hu; exact hR.get _ _ hu⟩
/-- A slot told in other words, at an end or ahead of code. -/
theorem XT_re {e : Nat} {ex : Exit} {v v' : Value} (hv : R.get e = some v) (hvv : v = v') (h : XT n Q ex ((e, v') :: R) M) : XT n Q ex R M := ⟨fun a w hR hM => h.run a w (hR.re hv hvv) hM⟩
theorem XC_re {e : Nat} {c : Code} {v v' : Value} (hv : R.get e = some v) (hvv : v = v') (h : XC P n c Q ((e, v') :: R) M) : XC P n c Q R M := ⟨fun a w hR hM => h.run a w (hR.re hv hvv) hM⟩
end
end Go.Proofs.Ytfkhdhdbfejbpaa.MX
