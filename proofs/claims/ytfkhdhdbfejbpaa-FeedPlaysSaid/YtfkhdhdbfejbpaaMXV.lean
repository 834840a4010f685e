/- Rows of whatever elements: slices that are owned or read; what is made, appended, loaded, stored; another base. No program in sight. -/
import Derived.Test.YtfkhdhdbfejbpaaMXP
namespace Go.Proofs.Ytfkhdhdbfejbpaa.MX
open Go Go.RowKit
set_option linter.unusedVariables false
set_option linter.unusedSimpArgs false
set_option linter.unusedVariables false
/-- l elements, s cells each, that are read at a slice's address. -/
structure RdV (w : World) (A : Option Addr) (c s l : Nat) (vs : List Value) : Prop where
  le : l ≤ c
  cap : c ≤ 9223372036854775807
  nil : A = none → c = 0
  len : vs.length = l * s
  at_ : ∀ j v, vs[j]? = some v → w.cell? ((adOf A).add j) = some v
/-- A slice that the call owns: its address, its capacity, its elements' type and cells, how many, and the cells. -/
def Ch.sv (A : Option Addr) (cap : Nat) (e : TypeId) (s l : Nat) (vs : List Value) : Ch := Ch.row 0 e s (.slice A l cap) l vs
section
variable {A : Option Addr} {cap l s b c : Nat} {e : TypeId} {vs us : List Value} {w w' w0 : World} {S S1 : Nat → Prop} {cs ds : List Ch} {put : Ch → List Ch} {d : Ch}
theorem sv_len (h : (Ch.sv A cap e s l vs).P w) : vs.length = l * s := h.1
theorem sv_addr (h : (Ch.sv A cap e s l vs).P w) (hp : 0 < cap) : A = some ⟨blkOf A, 0, none⟩ := by
  obtain ⟨_, h⟩ := h
  rcases h with ⟨h1, _⟩ | ⟨g, cap', cur, h1, _⟩
  · injection h1 with h1 h2 h3
    omega
  · injection h1 with h1 h2 h3
    subst h1
    rfl
theorem sv_cap (h : (Ch.sv A cap e s l vs).P w) : l ≤ cap ∧ cap ≤ 9223372036854775807 := by
  obtain ⟨_, h⟩ := h
  rcases h with ⟨h1, h0⟩ | ⟨g, cap', cur, h1, _, _, h4, h5, _⟩
  · injection h1 with h1 h2 h3
    omega
  · injection h1 with h1 h2 h3
    unfold maxLen at h5
    omega
theorem sv_at (h : (Ch.sv A cap e s l vs).P w) (hp : 0 < cap) : ∃ cur, w.heap[blkOf A]? = some (.cells cur e (0, 0)) ∧ cur.size = cap * s ∧ cur.toList.take (l * s) = vs := by
  obtain ⟨_, h⟩ := h
  rcases h with ⟨h1, _⟩ | ⟨g, cap', cur, h1, _, h3, h4, h5, h6, h7⟩
  · injection h1 with h1 h2 h3
    omega
  · injection h1 with h1 h2 h3
    subst h1
    subst h3
    exact ⟨cur, h3, h6, h7⟩
theorem sv_cell (h : (Ch.sv A cap e s l vs).P w) {j : Nat} {v : Value} (hj : vs[j]? = some v) : w.cell? ⟨blkOf A, j, none⟩ = some v := by
  have hl := sv_len h
  have hlt : j < vs.length := (List.getElem?_eq_some_iff.1 hj).1
  have hc := sv_cap h
  have h0 : 0 < l := by
    rcases Nat.eq_zero_or_pos l with h0 | h0
    · rw [h0, Nat.zero_mul] at hl; omega
    · exact h0
  obtain ⟨cur, h1, h2, h3⟩ := sv_at h (by omega)
  rw [← h3, List.getElem?_take_of_lt (by omega)] at hj
  simp only [World.cell?, h1, Option.isSome_none, Bool.false_eq_true, if_false]
  rw [← Array.getElem?_toList]
  exact hj
theorem rdv_sv (h : (Ch.sv A cap e s l vs).P w) : RdV w A cap s l vs := by
  have hc := sv_cap h
  refine ⟨hc.1, hc.2, fun e1 => ?_, sv_len h, fun j v hj => ?_⟩
  · rcases Nat.eq_zero_or_pos cap with h0 | h0
    · exact h0
    · have := sv_addr h h0
      rw [e1] at this
      cases this
  · have hl := sv_len h
    have hlt : j < vs.length := (List.getElem?_eq_some_iff.1 hj).1
    have h0 : 0 < l := by
      rcases Nat.eq_zero_or_pos l with h0 | h0
      · rw [h0, Nat.zero_mul] at hl; omega
      · exact h0
    have ha := sv_addr h (by omega)
    rw [ha]
    show w.cell? ((⟨blkOf A, 0, none⟩ : Addr).add j) = _
    rw [add_mk, Nat.zero_add]
    exact sv_cell h hj
theorem rdv_blk {g : Nat} {T : TypeId} {r : List Value} (h : (Ch.blk g vs T).P w) (hv : vs = us ++ r) (hl : us.length = l * s) (hc : l ≤ cap) (hm : cap ≤ 9223372036854775807) : RdV w (some ⟨g, 0, none⟩) cap s l us :=
  ⟨hc, hm, fun e => (by cases e), hl, fun j v hj => by
    have hb : w.heap[g]? = some (.cells vs.toArray T (0, 0)) := h
    show w.cell? ((⟨g, 0, none⟩ : Addr).add j) = _
    rw [add_mk, Nat.zero_add]
    simp only [World.cell?, hb, Option.isSome_none, Bool.false_eq_true, if_false, List.getElem?_toArray]
    rw [hv, List.getElem?_append_left (List.getElem?_eq_some_iff.1 hj).1]
    exact hj⟩
theorem RdV.nil_ (w : World) (s : Nat) : RdV w none 0 s 0 [] := ⟨Nat.le_refl _, by decide, fun _ => rfl, by simp, fun j v hj => by simp at hj⟩
theorem RdV.some (h : RdV w A c s l vs) (hc : 0 < c) : A = some (adOf A) := by
  cases A with
  | none => have := h.nil rfl; omega
  | some a => rfl
theorem RdV.keep (h : RdV w0 A c s l vs) (hp : Chg S w0 w) (hs : Old S A) : RdV w A c s l vs :=
  ⟨h.le, h.cap, h.nil, h.len, fun j v hj => cell_chg (h.at_ j v hj) hp (by
    have hlt : j < vs.length := (List.getElem?_eq_some_iff.1 hj).1
    have hl := h.len
    have h0 : 0 < l := by
      rcases Nat.eq_zero_or_pos l with h0 | h0
      · rw [h0, Nat.zero_mul] at hl; omega
      · exact h0
    have := h.some (by have := h.le; omega)
    rw [add_block]
    exact hs _ this)⟩
theorem RdV.old (h : RdV w0 A c s l vs) (hp : Hp w0 S cs w) (hs : Old S A) : RdV w A c s l vs := h.keep hp.chg hs
theorem Rds.toV {k : IntKind} {xs : List Int} (h : Rds w A c k xs) : RdV w A c 1 xs.length (xs.map (Value.int k)) :=
  ⟨h.le, h.cap, h.nil, by simp, fun j v hj => by
    have hlt : j < xs.length := by have := (List.getElem?_eq_some_iff.1 hj).1; simpa using this
    rw [map_getD hlt] at hj
    rw [← hj]
    exact h.at_ j hlt⟩
/-- A part of a slice that is read, of elements of one cell. -/
theorem RdV.cut (h : RdV w A c 1 l vs) (i j : Nat) (h1 : i ≤ j) (h2 : j ≤ l) : RdV w (cutA A i c 1) (c - i) 1 (j - i) ((vs.take j).drop i) := by
  have hle := h.le
  have hl := h.len
  have hlen : ((vs.take j).drop i).length = j - i := by simp; omega
  refine ⟨by omega, by have := h.cap; omega, fun e => ?_, by omega, fun q v hq => ?_⟩
  · unfold cutA at e
    split at e
    · omega
    · cases A with
      | none => have := h.nil rfl; omega
      | some a => simp at e
  · have hqlt : q < j - i := by have := (List.getElem?_eq_some_iff.1 hq).1; omega
    rw [List.getElem?_drop, List.getElem?_take_of_lt (by omega)] at hq
    have hA := h.some (by omega)
    have e2 : adOf (cutA A i c 1) = (adOf A).add i := by
      unfold cutA
      rw [if_neg (by omega), hA]
      simp [adOf]
    rw [e2, add_add _ _ _ (.inr trivial)]
    exact h.at_ (i + q) v hq
/-! ### Which part a slice has -/
instance pk_sv {cs : List Ch} : Pk (blkOf A) (Ch.sv A cap e s l vs :: cs) (Ch.sv A cap e s l vs) (fun d => d :: cs) := ⟨cs, .refl _, fun _ => .refl _⟩
class PkV (A : Option Addr) (cs : List Ch) (cap : outParam Nat) (e : outParam TypeId) (s l : outParam Nat) (vs : outParam (List Value)) (put : outParam (Ch → List Ch)) : Prop where
  ok : ∃ rest, cs.Perm (Ch.sv A cap e s l vs :: rest) ∧ ∀ d, (put d).Perm (d :: rest)
instance pkv_sv {cs : List Ch} : PkV A (Ch.sv A cap e s l vs :: cs) cap e s l vs (fun d => d :: cs) := ⟨cs, .refl _, fun _ => .refl _⟩
instance (priority := low) pkv_tail {cs : List Ch} {x : Ch} {put : Ch → List Ch} [h : PkV A cs cap e s l vs put] : PkV A (x :: cs) cap e s l vs (fun d => x :: put d) := by
  obtain ⟨rest, h1, h2⟩ := h.ok
  exact ⟨x :: rest, (h1.cons x).trans (.swap _ _ _), fun d => ((h2 d).cons x).trans (.swap _ _ _)⟩
theorem PkV.has (h : PkV A cs cap e s l vs put) (hp : Hp w0 S cs w) : (Ch.sv A cap e s l vs).P w := by
  obtain ⟨rest, h1, _⟩ := h.ok
  exact (hp.of_perm h1).sat _ (List.mem_cons_self ..)
theorem PkV.turn (h : PkV A cs cap e s l vs put) (hp : Hp w0 S cs w) (hg : Chg (Ch.sv A cap e s l vs).fp w w') (hd : d.P w') (hf : ∀ i, d.fp i → (Ch.sv A cap e s l vs).fp i ∨ w.heap.size ≤ i) : Hp w0 S (put d) w' := by
  obtain ⟨rest, h1, h2⟩ := h.ok
  exact ((hp.of_perm h1).turn hg hd hf).of_perm (h2 d).symm
theorem Hp.nilV (h : Hp w0 S cs w) (e : TypeId) (s : Nat) : Hp w0 S (Ch.sv none 0 e s 0 [] :: cs) w :=
  h.add (Chg.refl _ _) (World.ownsRow_nil w 0 e s) (fun j hj => by cases (show (none : Option Nat) = Option.some j from hj))
/-- A block that is all a slice's. -/
theorem sv_blk {g : Nat} (h : (Ch.blk g vs e).P w) (hl : vs.length = l * s) (hm : l ≤ 9223372036854775807) : (Ch.sv (Option.some ⟨g, 0, none⟩) l e s l vs).P w :=
  ⟨hl, .inr ⟨g, l, vs.toArray, rfl, Nat.zero_le _, h, Nat.le_refl _, by unfold maxLen; omega, by simpa using hl, by rw [← hl]; simp⟩⟩
/-! ### Another base -/
theorem Hp.base (h : Hp w0 S cs w) : Hp w (fun k => ∃ c ∈ cs, c.fp k) cs w := ⟨Chg.refl _ _, h.sat, fun c hc k hk => .inl ⟨c, hc, hk⟩, h.sep⟩
theorem Hp.hd (h : Hp w0 S (d :: cs) w) : Hp w0 S [d] w := ⟨h.chg, fun x hx => h.sat x (by simp at hx; simp [hx]), fun x hx => h.own x (by simp at hx; simp [hx]), List.pairwise_singleton _ _⟩
theorem Hp.none (h : Hp w0 S cs w) : Hp w0 S [] w := ⟨h.chg, by simp, by simp, .nil⟩
end
section
variable {P : Program} {n : Nat} {ops : Array Oper} {md : Md} {Q : Exit → Act → World → Prop} {R : Regs} {rest : List Oper} {ty E T : TypeId} {w0 : World} {S : Nat → Prop} {cs : List Ch} {d g : Nat} {pos : String} {af : Array Edge} {k k' : IntKind} {x y z : Operand} {A A2 : Option Addr} {len cap c2 s l l2 : Nat} {vs ys : List Value} {M : World → Prop} {v : Value} {put : Ch → List Ch} {code : Code} {ex : Exit}
theorem XC_base {S1 : Nat → Prop} (h : ∀ w1, M w1 → XC P n code Q R (Hp w1 S1 [])) : XC P n code Q R M := ⟨fun a w hR hM => (h w hM).run a w hR (Hp.nil w S1)⟩
theorem XC_baseC (h : ∀ w1, Hp w0 S cs w1 → XC P n code Q R (Hp w1 (fun k => ∃ c ∈ cs, c.fp k) cs)) : XC P n code Q R (Hp w0 S cs) := ⟨fun a w hR hM => (h w hM).run a w hR hM.base⟩
theorem X_base {S1 : Nat → Prop} (h : ∀ w1, M w1 → X P n ops Q rest R (Hp w1 S1 [])) : X P n ops Q rest R M := .x fun a w hR hM => (h w hM).runX a w hR (Hp.nil w S1)
theorem X_baseC (h : ∀ w1, Hp w0 S cs w1 → X P n ops Q rest R (Hp w1 (fun k => ∃ c ∈ cs, c.fp k) cs)) : X P n ops Q rest R (Hp w0 S cs) := .x fun a w hR hM => (h w hM).runX a w hR hM.base
theorem info_of {s by_ : Nat} (h : HasI P E s by_) : ∃ info, P.info? E = some info ∧ info.size = s ∧ info.bytes = by_ := by
  have := h.eq
  cases hq : P.info? E with
  | none => simp [hq] at this
  | some i => simp [hq] at this; exact ⟨i, rfl, this.1, this.2⟩
theorem zero_of {z : Value} (h : HasZ P E z) {info : TypeInfo} (hi : P.info? E = some info) : info.zero = some z := by
  have := h.eq default
  cases hq : info.zero with
  | none => simp [zeroValue, typeInfo, Sem.run_bind, hi, hq, unsupported] at this
  | some z => simp [zeroValue, typeInfo, Sem.run_bind, hi, hq] at this; rw [this]
theorem run_appendV [hT : HasU P T (.slice E)] {by_ : Nat} [hE : HasI P E s by_] {zv : Value} [hz : HasZ P E zv] (hzs : zv.cells.size = s) (hs0 : 0 < s) {w : World} (h1 : (Ch.sv A cap E s l vs).P w) (h2 : RdV w A2 c2 s l2 ys) (ho : ∀ u ∈ ys, u.oneCell' = true) (hb : (l + l2) * by_ ≤ 140737488355328) (hm : l + l2 ≤ 9223372036854775807) :
    ∃ A' cap' w', (Builtin.append_ #[T, T] ty #[.slice A l cap, .slice A2 l2 c2]).run P w = .ok (.slice A' (l + l2) cap') w' ∧ (Ch.sv A' cap' E s (l + l2) (vs ++ ys)).P w' ∧ Chg (Ch.sv A cap E s l vs).fp w w' ∧ (∀ j, (Ch.sv A' cap' E s (l + l2) (vs ++ ys)).fp j → (Ch.sv A cap E s l vs).fp j ∨ w.heap.size ≤ j) := by
  obtain ⟨info, hi, hi1, hi2⟩ := info_of hE
  have hz' := zero_of hz hi
  cases A2 with
  | none =>
    have h0 := h2.nil rfl
    have h3 := h2.le
    have h4 := h2.len
    obtain rfl : l2 = 0 := by omega
    obtain rfl : ys = [] := List.eq_nil_of_length_eq_zero (by omega)
    subst h0
    refine ⟨A, cap, w, ?_, by simpa using h1, Chg.refl _ _, fun j hj => .inl (by simpa using hj)⟩
    have := run_append_owned_none (P := P) (w := w) 0 T ty E info s hT.eq hi (.slice A l cap) l vs h1
    simpa using this
  | some ad =>
    obtain ⟨v', w', r1, r2, r3, r4, r5⟩ := run_append_own_at (P := P) w 0 T ty E info zv s by_ hT.eq hi hz' hi1 hi2 hzs hs0 (.slice A l cap) l vs h1 ad l2 c2 ys h2.len (fun j u hu => h2.at_ j u hu) ho (by unfold maxLen; omega) hb (Nat.zero_le _)
    have hv : ∃ A' cap', v' = .slice A' (l + l2) cap' := by
      rcases r2.2 with ⟨e1, e2⟩ | ⟨g, cap', cur, e1, _⟩
      · exact ⟨none, 0, by rw [e1, e2]⟩
      · exact ⟨_, cap', e1⟩
    obtain ⟨A', cap', rfl⟩ := hv
    refine ⟨A', cap', w', r1, r2, ?_, fun j hj => ?_⟩
    · exact ⟨r3.os, r3.tape, r3.output, r3.size, fun j hj hs => r3.block j hj (fun e => hs e.symm)⟩
    · rcases r5 with e | e
      · exact .inl (e.symm.trans hj)
      · have : some w.heap.size = some j := e.symm.trans hj
        exact .inr (by injection this with this; omega)
/-- An append to a row of one's own. -/
theorem X_appendV [hT : HasU P T (.slice E)] {by_ : Nat} [hE : HasI P E s by_] {zv : Value} [hz : HasZ P E zv] (hx : R.ev x = some (.slice A len cap)) (hy : R.ev y = some (.slice A2 l2 c2)) {cap1 : Nat} [h : PkV A cs cap1 E s l vs put]
    (hs : ∀ w, Hp w0 S cs w → RdV w A2 c2 s l2 ys) (ho : ∀ u ∈ ys, u.oneCell' = true) (hzs : zv.cells.size = s) (hs0 : 0 < s) (hl : len = l) (hc : cap = cap1) (hb : (l + l2) * by_ ≤ 140737488355328) (hm : l + l2 ≤ 9223372036854775807) (hd : Nat.blt d n = true)
    (q : ∀ A' cap', X P n ops Q rest ((d, .slice A' (l + l2) cap') :: R) (Hp w0 S (put (Ch.sv A' cap' E s (l + l2) (vs ++ ys))))) :
    X P n ops Q (⟨some d, .call { callee := .builtin .append, args := #[x, y], argTypes := #[T, T] }, ty, pos, af, none⟩ :: rest) R (Hp w0 S cs) := .x fun a w hR hM =>
  wpList_plain rfl fun _ hK => by
    subst hl
    subst hc
    obtain ⟨A', cap', w', r1, r2, r3, r4⟩ := run_appendV (P := P) (T := T) (ty := ty) hzs hs0 (h.has hM) (hs w hM) ho hb hm
    unfold Oper.wp
    rw [execOp_of]
    simp only [execOp, resolve, invoke, builtin, Sem.run_bind, Sem.run_pure, Result.andThen_ok, List.map_toArray, List.map_cons, List.map_nil, hR.ev hx, hR.ev hy, r1]
    exact hK _ _ ((q A' cap').runX _ w' (hR.put hd _) (h.turn hM r3 r2 r4))
/-- An append to nothing. -/
theorem X_appendV0 [hT : HasU P T (.slice E)] {by_ : Nat} [hE : HasI P E s by_] {zv : Value} [hz : HasZ P E zv] (hx : R.ev x = some (.slice none 0 0)) (hy : R.ev y = some (.slice A2 l2 c2))
    (hs : ∀ w, Hp w0 S cs w → RdV w A2 c2 s l2 ys) (ho : ∀ u ∈ ys, u.oneCell' = true) (hzs : zv.cells.size = s) (hs0 : 0 < s) (hb : l2 * by_ ≤ 140737488355328) (hm : l2 ≤ 9223372036854775807) (hd : Nat.blt d n = true)
    (q : ∀ A' cap', X P n ops Q rest ((d, .slice A' l2 cap') :: R) (Hp w0 S (Ch.sv A' cap' E s l2 ys :: cs))) :
    X P n ops Q (⟨some d, .call { callee := .builtin .append, args := #[x, y], argTypes := #[T, T] }, ty, pos, af, none⟩ :: rest) R (Hp w0 S cs) := by
  have hq := X_appendV (P := P) (n := n) (ops := ops) (Q := Q) (rest := rest) (T := T) (E := E) (w0 := w0) (S := S) (cs := Ch.sv none 0 E s 0 [] :: cs) (pos := pos) (af := af) (ty := ty) (ys := ys) hx hy (fun w hw => hs w hw.tail) ho hzs hs0 rfl rfl (by simpa using hb) (by simpa using hm) hd (by simpa using q)
  exact .x fun a w hR hM => hq.runX a w hR (hM.nilV E s)
/-! ### What is written out, or made -/
theorem run_buildSliceV [hT : HasU P T (.slice E)] {by_ : Nat} [hE : HasI P E 1 by_] {zv : Value} [hz : HasZ P E zv] (hz1 : zv.cells.size = 1) (us : List Value) (ho : ∀ u ∈ us, u.oneCell' = true) (hn : us.length ≤ 100000) (w : World) :
    (Instr.buildSlice T us.length (zipFrom 0 us).toArray).run P w = .ok (.slice (some ⟨w.heap.size, 0, none⟩) us.length us.length) (w.alloc (.cells us.toArray E)) := by
  have hs := run_size w hE.size
  by_cases h0 : us.length = 0
  · obtain rfl := List.eq_nil_of_length_eq_zero h0
    simp [Instr.buildSlice, run_underlying hT.eq, hs, zipFrom, Instr.fill, newRow, newObj, Sem.run, Sem.run_bind, Array.range_zero']
  · have hf := fill_zip us 0 ((Array.range (us.length * 1)).map (fun x => zv.cells[x % 1]!)) ho (by simp)
    have hbig : ¬ (16777216 < us.length) := by omega
    simp [Instr.buildSlice, run_underlying hT.eq, hs, hbig, h0, hz.eq w, hz1] at hf ⊢
    rw [hf]
    simp [newRow, newObj, Sem.run, List.drop_eq_nil_of_le]
/-- Values that are written out, in their order. -/
def Regs.evz (R : Regs) : Nat → List (Nat × Operand) → Option (List Value)
  | _, [] => some []
  | i, (j, x) :: r => match Nat.beq i j with
    | false => none
    | true => match R.ev x with
      | some v => match Regs.evz R (i + 1) r with
        | some us => some (v :: us)
        | none => none
      | none => none
theorem evz_evp : ∀ {ps : List (Nat × Operand)} {i : Nat} {us : List Value}, R.evz i ps = some us → R.evp ps = some (zipFrom i us)
  | [], i, us, h => by simp only [Regs.evz, Option.some.injEq] at h; subst h; rfl
  | (j, x) :: r, i, us, h => by
    simp only [Regs.evz] at h
    cases h1 : Nat.beq i j with
    | false => simp [h1] at h
    | true =>
      rw [h1] at h
      have hij := Nat.eq_of_beq_eq_true h1
      subst hij
      cases h2 : R.ev x with
      | none => simp [h2] at h
      | some v =>
        simp only [h2] at h
        cases h3 : R.evz (i + 1) r with
        | none => simp [h3] at h
        | some us2 =>
          simp only [h3, Option.some.injEq] at h
          subst h
          simp only [Regs.evp, h2, evz_evp h3, zipFrom]
theorem X_buildV [hT : HasU P T (.slice E)] {by_ : Nat} [hE : HasI P E 1 by_] {zv : Value} [hz : HasZ P E zv] {ps : List (Nat × Operand)} {us : List Value} (hp0 : R.evz 0 ps = some us) (hl : len = us.length) (ho : ∀ u ∈ us, u.oneCell' = true) (hz1 : zv.cells.size = 1) (hn : us.length ≤ 100000) (hd : Nat.blt d n = true)
    (q : ∀ g, w0.heap.size ≤ g → X P n ops Q rest ((d, .slice (some ⟨g, 0, none⟩) len len) :: R) (Hp w0 S (Ch.blk g us E :: cs))) :
    X P n ops Q (⟨some d, .buildSlice T len ps.toArray, ty, pos, af, none⟩ :: rest) R (Hp w0 S cs) :=
  X_alloc (val := fun g => .slice (some ⟨g, 0, none⟩) len len) (new := fun g => Ch.blk g us E) (fun a w hR hM => ⟨.cells us.toArray E, by
    subst hl
    have e := hR.evp (evz_evp hp0)
    have e2 : ps.toArray.map (fun (x : Nat × Operand) => (x.1, a.eval x.2)) = (zipFrom 0 us).toArray := by rw [List.map_toArray, e]
    simp only [execOp]
    rw [Sem.run_bind, e2, run_buildSliceV hz1 us ho hn w]
    rfl, heap_alloc_new w _, fun k hk => hk⟩) hd q
theorem X_makeV [hT : HasU P T (.slice E)] {by_ : Nat} [hE : HasI P E 1 by_] {zv : Value} [hz : HasZ P E zv] {e f : Int} (hx : R.ev x = some (.int k' e)) {k2 : IntKind} (hy : R.ev y = some (.int k2 f)) [hi : NatOf e len] [hj : NatOf f cap] (hz1 : zv.cells = #[zv]) (hlc : len ≤ cap) (hb : by_ * cap ≤ 281474976710656) (hm : cap ≤ 9223372036854775807) (hd : Nat.blt d n = true)
    (q : ∀ g, w0.heap.size ≤ g → X P n ops Q rest ((d, .slice (some ⟨g, 0, none⟩) len cap) :: R) (Hp w0 S (Ch.sv (some ⟨g, 0, none⟩) cap E 1 len (List.replicate len zv) :: cs))) :
    X P n ops Q (⟨some d, .makeSlice T x y, ty, pos, af, none⟩ :: rest) R (Hp w0 S cs) := by
  have he := hi.eq
  have hf := hj.eq
  subst he
  subst hf
  refine X_alloc (val := fun g => .slice (some ⟨g, 0, none⟩) len cap) (new := fun g => Ch.sv (some ⟨g, 0, none⟩) cap E 1 len (List.replicate len zv)) (fun a w hR hM => ⟨.cells (Array.replicate cap zv) E, ?_, ?_, fun j hj => ?_⟩) hd q
  · obtain ⟨info, h1, h2, h3⟩ := info_of hE
    have hz' := zero_of hz h1
    have hcb : (info.bytes : Int) * (cap : Int) ≤ 281474976710656 := by
      rw [h3, ← Int.natCast_mul]
      omega
    have hr := run_make (P := P) (w := w) T E info zv hT.eq h1 hz' k' k2 (len : Int) (cap : Int) (by omega) (by omega) hcb (by omega)
    simp only [execOp, hR.ev hx, hR.ev hy, Sem.run_bind, hr, Result.andThen_ok, Sem.run_pure]
    simp [h2, hz1, madeCells_one]
  · refine ⟨by simp, .inr ⟨w.heap.size, cap, Array.replicate cap zv, by simp, Nat.zero_le _, heap_alloc_new w _, by simpa using hlc, by unfold maxLen; omega, by simp, ?_⟩⟩
    simp [List.take_replicate, Nat.min_eq_left hlc]
  · have : some w.heap.size = some j := hj
    injection this with this
    exact this.symm
/-! ### Loads and stores -/
theorem r_indexV1 {by_ : Nat} {i : Nat} {cap' : Nat} {e' : TypeId} [hT : HasU P T (.slice E)] [hE : HasI P E s by_] {e : Int} {s' : Nat} (hx : R.ev x = some (.slice A len cap)) (hy : R.ev y = some (.int k e)) [hi : NatOf e i] [h : PkV A cs cap' e' s' l vs put] (hlt : i < len) (hl : len ≤ l) :
    Res P n (.indexAddr T x y) ty R (Hp w0 S cs) (.pointer (some ⟨blkOf A, i * s, none⟩)) := .mk fun a w hR hM => by
  have h1 := h.has hM
  have h2 := sv_cap h1
  have h3 := sv_addr h1 (by omega)
  have := (r_index (P := P) (n := n) (M := Hp w0 S cs) (ty := ty) (T := T) (x := x) (y := y) (R := R) (ad := ⟨blkOf A, 0, none⟩) (by rw [hx]; exact congrArg (fun z => some (Value.slice z len cap)) h3) hy hlt).run a w hR hM
  rwa [add_mk, Nat.zero_add] at this
theorem r_indexV0 {by_ : Nat} {i : Nat} {cap' : Nat} {e' : TypeId} [hT : HasU P T (.slice E)] [hE : HasI P E 1 by_] {e : Int} {s' : Nat} (hx : R.ev x = some (.slice A len cap)) (hy : R.ev y = some (.int k e)) [hi : NatOf e i] [h : PkV A cs cap' e' s' l vs put] (hlt : i < len) (hl : len ≤ l) :
    Res P n (.indexAddr T x y) ty R (Hp w0 S cs) (.pointer (some ⟨blkOf A, i, none⟩)) := by
  have := r_indexV1 (P := P) (n := n) (ty := ty) (T := T) (w0 := w0) (S := S) (cs := cs) (h := h) hx hy hlt hl
  rwa [Nat.mul_one] at this
theorem r_indexV0T {by_ : Nat} {cap' : Nat} {e' : TypeId} [hT : HasU P T (.slice E)] [hE : HasI P E 1 by_] {e : Int} {s' : Nat} (hx : R.ev x = some (.slice A len cap)) (hy : R.ev y = some (.int k e)) [h : PkV A cs cap' e' s' l vs put] (h0 : 0 ≤ e) (hlt : e < (len : Int)) (hl : len ≤ l) :
    Res P n (.indexAddr T x y) ty R (Hp w0 S cs) (.pointer (some ⟨blkOf A, e.toNat, none⟩)) := by
  have := natOf_toNat h0
  exact r_indexV0 hx hy (by omega) hl
theorem r_loadV [hA : IsAgg P T false] {i : Nat} {cap' : Nat} {e' : TypeId} {s' : Nat} (hx : R.ev x = some (.pointer (some ⟨blkOf A, i, none⟩))) [h : PkV A cs cap' e' s' l vs put] (hi : vs[i]? = some v) :
    Res P n (.load T x) ty R (Hp w0 S cs) v := r_load hx (fun w hM => sv_cell (h.has hM) hi)
theorem r_indexRv {i : Nat} [hT : HasU P T (.slice E)] {by_ : Nat} [hE : HasI P E 1 by_] {e : Int} (hx : R.ev x = some (.slice A len cap)) (hy : R.ev y = some (.int k e)) [hi : NatOf e i] {w' : World} {c' : Nat} (hr : RdV w' A c' 1 l vs) (hlt : i < len) (hl : 0 < c') :
    Res P n (.indexAddr T x y) ty R M (.pointer (some ((adOf A).add i))) := r_indexO hx hy hlt (hr.some hl)
/-- A cell of a slice that is read. -/
theorem r_loadRv [hA : IsAgg P T false] {i c' s' : Nat} (hx : R.ev x = some (.pointer (some ((adOf A).add i)))) (hr : RdV w0 A c' s' l vs) (hs : Old S A) (hi : vs[i]? = some v) :
    Res P n (.load T x) ty R (Hp w0 S cs) v := r_load hx (fun w hM => (hr.old hM hs).at_ i v hi)
theorem X_storeV {by_ : Nat} [hI : HasI P T 1 by_] {i : Nat} {cap' : Nat} {e' : TypeId} {s' : Nat} (hx : R.ev x = some (.pointer (some ⟨blkOf A, i, none⟩))) (hy : R.ev y = some v) (h1 : v.oneCell' = true) [h : PkV A cs cap' e' s' l vs put] (hi : i < vs.length)
    (q : X P n ops Q rest R (Hp w0 S (put (Ch.sv A cap' e' s' l (vs.set i v))))) : X P n ops Q (⟨none, .store T x y, ty, pos, af, none⟩ :: rest) R (Hp w0 S cs) :=
  X_step (dst := none) (M' := Hp w0 S (put (Ch.sv A cap' e' s' l (vs.set i v)))) (fun a w hR hM => by
    have h0 := h.has hM
    have hl := sv_len h0
    have hc := sv_cap h0
    have hl0 : 0 < l := by
      rcases Nat.eq_zero_or_pos l with h0 | h0
      · rw [h0, Nat.zero_mul] at hl; omega
      · exact h0
    have ha := sv_addr h0 (by omega)
    obtain ⟨cur, g1, g2, g3⟩ := sv_at h0 (by omega)
    have hcell : w.cell? ⟨blkOf A, i, none⟩ = some vs[i] := sv_cell h0 (List.getElem?_eq_getElem hi)
    refine ⟨w.setCell ⟨blkOf A, i, none⟩ v, ?_, h.turn hM (Chg.set (Chg.refl _ _) (fun _ => ?_) _) ?_ (fun j hj => .inl (by cases A <;> exact hj))⟩
    · simp [execOp, hR.ev hx, hR.ev hy, run_store (P := P) (T := T) (v := v) h1 hcell (by simp [World.frozen?, g1])]
    · show Value.ownBlock _ = _
      rw [ha]
      rfl
    · refine ⟨by rw [List.length_set]; exact hl, .inr ⟨blkOf A, cap', cur.setIfInBounds i v, by rw [← ha], Nat.zero_le _, heap_setCell_same _ _ _ _ _ _ g1, hc.1, by unfold maxLen; omega, by simpa using g2, ?_⟩⟩
      rw [Array.toList_setIfInBounds, List.take_set, g3]) q
end
end Go.Proofs.Ytfkhdhdbfejbpaa.MX
