/- Guarded operations, and tests on pointers, slices and bools. No program in sight. -/
import Derived.Test.YtfkhdhdbfejbpaaMXS
import Derived.Test.YtfkhdhdbfejbpaaMXT
namespace Go.Proofs.Ytfkhdhdbfejbpaa.MX
open Go Go.RowKit
set_option linter.unusedVariables false
set_option linter.unusedSimpArgs false
set_option linter.unusedVariables false
section
variable {P : Program} {n : Nat} {ops : Array Oper} {md : Md} {R : Regs} {M : World → Prop} {rest : List Oper} {op : Op} {ty T T' E : TypeId} {x y : Operand} {v : Value} {pos : String} {af : Array Edge} {d e g : Nat} {t : Bool} {o : Oper} {dst : Option Nat} {A : Option Addr} {len cap : Nat} {ad : Addr}
theorem yielded_of {a : Act} (hg : (ops[g]?).bind (·.dst) = some e) (hR : Mod n a R) (hv : R.get e = some (.bool t)) : yielded ops a.tmps g = some t := by
  have h1 := hR.get e _ hv
  unfold yielded
  rw [hg]
  simp only [Option.bind_some]
  rw [Array.getD_eq_getD_getElem?] at h1
  cases h2 : a.tmps[e]? with
  | none => rw [h2] at h1; cases h1
  | some u => rw [h2] at h1; simp only [Option.getD_some] at h1; simp [h1]
theorem Y_on (hg : (ops[g]?).bind (·.dst) = some e) (hv : R.get e = some (.bool t)) (h : Y P n ops md (⟨dst, op, ty, pos, af, none⟩ :: rest) R M) : Y P n ops md (⟨dst, op, ty, pos, af, some (g, t)⟩ :: rest) R M := by
  cases md with
  | x Q => exact X_on hg hv h
  | q K =>
    refine .q fun a hR => ?_
    have hy := yielded_of hg hR hv
    have h0 := h.runQ a hR
    unfold wpQuiet at h0 ⊢
    simp only [Region.wanted, if_true, hy, beq_self_eq_true] at h0 ⊢
    obtain ⟨v, h1, h2⟩ := h0
    refine ⟨v, fun w hw => ?_, h2⟩
    have := h1 w hw
    unfold Oper.quietAt at this ⊢
    rw [execOp_of] at this ⊢
    exact this
theorem Y_off (hg : (ops[g]?).bind (·.dst) = some e) (hv : R.get e = some (.bool (!t))) (hd : Nat.blt d n = true) (h : Y P n ops md rest ((d, undef) :: R) M) : Y P n ops md (⟨some d, op, ty, pos, af, some (g, t)⟩ :: rest) R M := by
  cases md with
  | x Q => exact X_off hg hv hd h
  | q K =>
    refine .q fun a hR => ?_
    have hy := yielded_of hg hR hv
    have h0 := h.runQ _ (hR.put hd undef)
    unfold wpQuiet
    have hw : Region.wanted ⟨some d, op, ty, pos, af, some (g, t)⟩ (yielded ops a.tmps) = false := by simp [Region.wanted, hy]
    rw [hw]
    exact h0
theorem Y_re {v' : Value} (hv : R.get e = some v) (hvv : v = v') (h : Y P n ops md rest ((e, v') :: R) M) : Y P n ops md rest R M := by
  subst hvv
  cases md with
  | x Q => exact .x fun a w hR hM => h.runX a w ⟨hR.size, hR.defers, fun t u hu => by
        simp only [Regs.get] at hu
        cases hb : Nat.beq e t with
        | true => rw [hb] at hu; have := Nat.eq_of_beq_eq_true hb; subst this; exact hR.get _ _ (by rw [hv]; exact hu)
        | false => rw [hb] at hu; exact hR.get _ _ hu⟩ hM
  | q K => exact .q fun a hR => h.runQ a ⟨hR.size, hR.defers, fun t u hu => by
        simp only [Regs.get] at hu
        cases hb : Nat.beq e t with
        | true => rw [hb] at hu; have := Nat.eq_of_beq_eq_true hb; subst this; exact hR.get _ _ (by rw [hv]; exact hu)
        | false => rw [hb] at hu; exact hR.get _ _ hu⟩
/-- The test that an operation hangs on is decided. -/
theorem Y_split {p : Prop} [Decidable p] (hg : (ops[g]?).bind (·.dst) = some e) (hv : R.get e = some (.bool (decide p))) (h1 : p → Y P n ops md (⟨dst, op, ty, pos, af, some (g, t)⟩ :: rest) ((e, .bool true) :: R) M) (h2 : ¬ p → Y P n ops md (⟨dst, op, ty, pos, af, some (g, t)⟩ :: rest) ((e, .bool false) :: R) M) :
    Y P n ops md (⟨dst, op, ty, pos, af, some (g, t)⟩ :: rest) R M := by
  by_cases hp : p
  · exact Y_re hv (by simp [hp]) (h1 hp)
  · exact Y_re hv (by simp [hp]) (h2 hp)
theorem Y_splitT {p : Prop} [Decidable p] (hg : (ops[g]?).bind (·.dst) = some e) (hv : R.get e = some (.bool (decide p))) (hp : p) (h1 : Y P n ops md (⟨dst, op, ty, pos, af, some (g, t)⟩ :: rest) ((e, .bool true) :: R) M) :
    Y P n ops md (⟨dst, op, ty, pos, af, some (g, t)⟩ :: rest) R M := Y_re hv (by simp [hp]) h1
theorem Y_splitF {p : Prop} [Decidable p] (hg : (ops[g]?).bind (·.dst) = some e) (hv : R.get e = some (.bool (decide p))) (hp : ¬ p) (h1 : Y P n ops md (⟨dst, op, ty, pos, af, some (g, t)⟩ :: rest) ((e, .bool false) :: R) M) :
    Y P n ops md (⟨dst, op, ty, pos, af, some (g, t)⟩ :: rest) R M := Y_re hv (by simp [hp]) h1
theorem Y_splitB {b : Bool} (hg : (ops[g]?).bind (·.dst) = some e) (hv : R.get e = some (.bool b)) (h1 : b = true → Y P n ops md (⟨dst, op, ty, pos, af, some (g, t)⟩ :: rest) ((e, .bool true) :: R) M) (h2 : b = false → Y P n ops md (⟨dst, op, ty, pos, af, some (g, t)⟩ :: rest) ((e, .bool false) :: R) M) :
    Y P n ops md (⟨dst, op, ty, pos, af, some (g, t)⟩ :: rest) R M := by
  cases b
  · exact Y_re hv rfl (h2 rfl)
  · exact Y_re hv rfl (h1 rfl)

/-! ### Tests -/
theorem eq_ptr [hT : HasU P T (.pointer E)] (p : Option Addr) (w : World) : (Op.equal T (.pointer p) (.pointer none)).run P w = .ok p.isNone w := by
  obtain ⟨d, hd⟩ : ∃ d, Op.maxDepth = d + 1 := ⟨9999, rfl⟩
  unfold Op.equal
  rw [hd]
  cases p <;> simp only [Op.equalIn, Sem.run_bind, run_underlying hT.eq, Result.andThen_ok] <;> rfl
theorem eq_bool [hT : HasU P T .bool] (p q : Bool) (w : World) : (Op.equal T (.bool p) (.bool q)).run P w = .ok (p == q) w := by
  obtain ⟨d, hd⟩ : ∃ d, Op.maxDepth = d + 1 := ⟨9999, rfl⟩
  unfold Op.equal
  rw [hd]
  simp only [Op.equalIn, Sem.run_bind, run_underlying hT.eq, Result.andThen_ok, Sem.run_pure]
theorem eq_sl [hT : HasU P T (.slice E)] (p : Option Addr) (a b : Nat) (w : World) : (Op.equal T (.slice p a b) (.slice none 0 0)).run P w = .ok p.isNone w := by
  obtain ⟨d, hd⟩ : ∃ d, Op.maxDepth = d + 1 := ⟨9999, rfl⟩
  unfold Op.equal
  rw [hd]
  cases p <;> simp only [Op.equalIn, Sem.run_bind, run_underlying hT.eq, Result.andThen_ok] <;> rfl
theorem eqGuard_sl (op : BinOp) (w : World) {p q : Option Addr} {a b c d : Nat} : (eqGuard op T x y (.slice p a b) (.slice q c d)).run P w = .ok () w := by cases op <;> rfl
theorem r_eqlP [hT : HasU P T (.pointer E)] {p : Option Addr} (hx : R.ev x = some (.pointer p)) (hy : R.ev y = some (.pointer none)) : Res P n (.binOp .eql T x y T') ty R M (.bool p.isNone) :=
  ⟨fun a w hR hM => by simp only [execOp, hR.ev hx, hR.ev hy, Sem.run_bind, eqGuard_ptr, Result.andThen_ok, binOp, eq_ptr, Sem.run_pure]⟩
theorem r_neqP [hT : HasU P T (.pointer E)] {p : Option Addr} (hx : R.ev x = some (.pointer p)) (hy : R.ev y = some (.pointer none)) : Res P n (.binOp .neq T x y T') ty R M (.bool (!p.isNone)) :=
  ⟨fun a w hR hM => by simp only [execOp, hR.ev hx, hR.ev hy, Sem.run_bind, eqGuard_ptr, Result.andThen_ok, binOp, eq_ptr, Sem.run_pure]⟩
theorem r_eqlNil [hT : HasU P T (.pointer E)] (hx : R.ev x = some (.pointer (some ad))) (hy : R.ev y = some (.pointer none)) : Res P n (.binOp .eql T x y T') ty R M (.bool false) := r_eqlP hx hy
theorem r_neqNil [hT : HasU P T (.pointer E)] (hx : R.ev x = some (.pointer (some ad))) (hy : R.ev y = some (.pointer none)) : Res P n (.binOp .neq T x y T') ty R M (.bool true) := r_neqP hx hy
theorem r_eqlNil2 [hT : HasU P T (.pointer E)] (hx : R.ev x = some (.pointer none)) (hy : R.ev y = some (.pointer none)) : Res P n (.binOp .eql T x y T') ty R M (.bool true) := r_eqlP hx hy
theorem r_neqNil2 [hT : HasU P T (.pointer E)] (hx : R.ev x = some (.pointer none)) (hy : R.ev y = some (.pointer none)) : Res P n (.binOp .neq T x y T') ty R M (.bool false) := r_neqP hx hy
theorem r_eqlS [hT : HasU P T (.slice E)] (hx : R.ev x = some (.slice A len cap)) (hy : R.ev y = some (.slice none 0 0)) : Res P n (.binOp .eql T x y T') ty R M (.bool A.isNone) :=
  ⟨fun a w hR hM => by simp only [execOp, hR.ev hx, hR.ev hy, Sem.run_bind, eqGuard_sl, Result.andThen_ok, binOp, eq_sl, Sem.run_pure]⟩
theorem r_neqS [hT : HasU P T (.slice E)] (hx : R.ev x = some (.slice A len cap)) (hy : R.ev y = some (.slice none 0 0)) : Res P n (.binOp .neq T x y T') ty R M (.bool (!A.isNone)) :=
  ⟨fun a w hR hM => by simp only [execOp, hR.ev hx, hR.ev hy, Sem.run_bind, eqGuard_sl, Result.andThen_ok, binOp, eq_sl, Sem.run_pure]⟩
theorem r_eqlB [hT : HasU P T .bool] {p q : Bool} (hx : R.ev x = some (.bool p)) (hy : R.ev y = some (.bool q)) : Res P n (.binOp .eql T x y T') ty R M (.bool (p == q)) :=
  ⟨fun a w hR hM => by simp only [execOp, hR.ev hx, hR.ev hy, Sem.run_bind, eqGuard_bool, Result.andThen_ok, binOp, eq_bool, Sem.run_pure]⟩
theorem r_neqB [hT : HasU P T .bool] {p q : Bool} (hx : R.ev x = some (.bool p)) (hy : R.ev y = some (.bool q)) : Res P n (.binOp .neq T x y T') ty R M (.bool (!(p == q))) :=
  ⟨fun a w hR hM => by simp only [execOp, hR.ev hx, hR.ev hy, Sem.run_bind, eqGuard_bool, Result.andThen_ok, binOp, eq_bool, Sem.run_pure]⟩
/-- Whole numbers that may not be written any more. -/
def _root_.Go.Proofs.Ytfkhdhdbfejbpaa.MX.Ch.ro (b : Nat) (k : IntKind) (xs : List Int) (T : TypeId) : Ch :=
  ⟨fun j => j = b, fun w => ∃ fr, w.heap[b]? = some (.cells (xs.map (Value.int k)).toArray T fr), fun w w' h ⟨fr, e⟩ => ⟨fr, (h b rfl).trans e⟩, fun w j ⟨fr, e⟩ hj => by subst hj; exact lt_of_block e⟩
theorem rds_ro {b c : Nat} {k : IntKind} {xs : List Int} {T : TypeId} {w : World} (h : (Ch.ro b k xs T).P w) (hc : xs.length ≤ c) (hm : c ≤ 9223372036854775807) : Rds w (some ⟨b, 0, none⟩) c k xs :=
  ⟨hc, hm, fun e => (by cases e), fun j hj => by
    obtain ⟨fr, h⟩ := h
    have e := map_getD (k := k) hj
    show w.cell? ((⟨b, 0, none⟩ : Addr).add j) = _
    rw [add_mk, Nat.zero_add]
    simp only [World.cell?, h, Option.isSome_none, Bool.false_eq_true, if_false, List.getElem?_toArray]
    exact e⟩
/-- Bytes that a constant string is turned into: they are marked. -/
theorem X_mark {Q : Exit → Act → World → Prop} {w0 : World} {S : Nat → Prop} {cs : List Ch} {b : Nat} {xs : List Int} {put : Ch → List Ch} {T1 : TypeId} [h1 : HasU P T (.slice E)] [h2 : HasU P E (.int .u8)] (hx : R.ev x = some (.slice (some ⟨b, 0, none⟩) len cap)) [h : Pk b cs (Ch.ints b .u8 xs T1) put] (hd : Nat.blt d n = true)
    (q : X P n ops Q rest ((d, .slice (some ⟨b, 0, none⟩) len cap) :: R) (Hp w0 S (put (Ch.ro b .u8 xs T1)))) : X P n ops Q (⟨some d, .convert T T x, ty, pos, af, none⟩ :: rest) R (Hp w0 S cs) := .x fun a w hR hM =>
  wpList_plain rfl fun _ hK => by
    have e : w.heap[b]? = some (.cells (xs.map (Value.int .u8)).toArray T1 (0, 0)) := h.has hM
    obtain ⟨w', hw⟩ : ∃ w', w' = w.freeze ⟨b, (xs.map (Value.int .u8)).toArray.size, none⟩ 1 := ⟨_, rfl⟩
    have hrun : (markStringish ⟨b, 0, none⟩).run P w = .ok () w' := by
      rw [hw]
      simp [markStringish, shape, freeze, Sem.run_bind, Sem.run, World.shape?, e]
    have hheap : w'.heap[b]? = some (.cells (xs.map (Value.int .u8)).toArray T1 ((xs.map (Value.int .u8)).toArray.size, (xs.map (Value.int .u8)).toArray.size + 1)) := by
      rw [hw]
      simp [World.freeze, Array.getElem?_modify, e]
    have hchg : Chg (fun j => j = b) w w' := by
      rw [hw]
      refine ⟨by simp [World.freeze], by simp [World.freeze], by simp [World.freeze], by simp [World.freeze], fun j hj hs => ?_⟩
      simp only [World.freeze]
      rw [if_neg (by decide), Array.getElem?_modify, if_neg (fun e => hs e.symm)]
    have hop : (execOp a.eval ⟨none, .convert T T x, ty, "", #[], none⟩).run P w = .ok (.value (.slice (some ⟨b, 0, none⟩) len cap)) w' := by
      simp only [execOp, hR.ev hx, convert, Sem.run_bind, run_underlying h1.eq, Result.andThen_ok, run_underlying h2.eq, beq_self_eq_true]
      rw [hrun]
      rfl
    unfold Oper.wp
    rw [execOp_of, hop]
    exact hK _ _ (q.runX _ w' (hR.put hd _) (h.turn hM hchg ⟨_, hheap⟩ (fun j hj => .inl hj)))
end
end Go.Proofs.Ytfkhdhdbfejbpaa.MX
