/- The operations on memory: loads, stores, what is made, appends, copies, calls. No program in sight. -/
import Derived.Test.YtfkhdhdbfejbpaaMXR
import Derived.Maps.AppendAt
import Derived.Laws.CopyOwn
import Derived.Laws.AppendOwnNone
import Derived.Deep.AppendSrc
namespace Go.Proofs.Ytfkhdhdbfejbpaa.MX
open Go Go.RowKit
set_option linter.unusedVariables false
set_option linter.unusedSimpArgs false
set_option linter.unusedVariables false

/-- The block of an address that may be none. -/
def blkOf : Option Addr → Nat
  | some a => a.block
  | none => 0
/-- A slice of whole numbers that the call owns: its address, its capacity, what it holds. -/
def Ch.sl (A : Option Addr) (cap : Nat) (e : TypeId) (k : IntKind) (xs : List Int) : Ch := Ch.row 0 e 1 (.slice A xs.length cap) xs.length (xs.map (Value.int k))
theorem sl_addr {A : Option Addr} {cap : Nat} {e : TypeId} {k : IntKind} {xs : List Int} {w : World} (h : (Ch.sl A cap e k xs).P w) (hp : 0 < cap) : A = some ⟨blkOf A, 0, none⟩ := by
  obtain ⟨_, h⟩ := h
  rcases h with ⟨h1, _⟩ | ⟨g, cap', cur, h1, _⟩
  · injection h1 with h1 h2 h3
    subst h1
    omega
  · injection h1 with h1 h2 h3
    subst h1
    rfl
theorem sl_cap {A : Option Addr} {cap : Nat} {e : TypeId} {k : IntKind} {xs : List Int} {w : World} (h : (Ch.sl A cap e k xs).P w) : xs.length ≤ cap ∧ cap ≤ 9223372036854775807 := by
  obtain ⟨_, h⟩ := h
  rcases h with ⟨h1, h0⟩ | ⟨g, cap', cur, h1, _, _, h4, h5, _⟩
  · injection h1 with h1 h2 h3
    omega
  · injection h1 with h1 h2 h3
    unfold maxLen at h5
    omega
theorem sl_at {A : Option Addr} {cap : Nat} {e : TypeId} {k : IntKind} {xs : List Int} {w : World} (h : (Ch.sl A cap e k xs).P w) (hp : 0 < cap) :
    ∃ cur, w.heap[blkOf A]? = some (.cells cur e (0, 0)) ∧ cur.size = cap ∧ cur.toList.take xs.length = xs.map (Value.int k) := by
  obtain ⟨_, h⟩ := h
  rcases h with ⟨h1, _⟩ | ⟨g, cap', cur, h1, _, h3, h4, h5, h6, h7⟩
  · injection h1 with h1 h2 h3
    omega
  · injection h1 with h1 h2 h3
    subst h1
    subst h3
    exact ⟨cur, h3, by simpa using h6, by simpa using h7⟩

/-! ### Which part has a block -/
class Pk (b : Nat) (cs : List Ch) (c : outParam Ch) (put : outParam (Ch → List Ch)) : Prop where
  ok : ∃ rest, cs.Perm (c :: rest) ∧ ∀ d, (put d).Perm (d :: rest)
instance pk_blk {b : Nat} {xs : List Value} {T : TypeId} {cs : List Ch} : Pk b (Ch.blk b xs T :: cs) (Ch.blk b xs T) (fun d => d :: cs) := ⟨cs, .refl _, fun _ => .refl _⟩
instance pk_ints {b : Nat} {k : IntKind} {xs : List Int} {T : TypeId} {cs : List Ch} : Pk b (Ch.ints b k xs T :: cs) (Ch.ints b k xs T) (fun d => d :: cs) := ⟨cs, .refl _, fun _ => .refl _⟩
instance pk_sl {A : Option Addr} {cap : Nat} {e : TypeId} {k : IntKind} {xs : List Int} {cs : List Ch} : Pk (blkOf A) (Ch.sl A cap e k xs :: cs) (Ch.sl A cap e k xs) (fun d => d :: cs) := ⟨cs, .refl _, fun _ => .refl _⟩
instance (priority := low) pk_tail {b : Nat} {cs : List Ch} {c x : Ch} {put : Ch → List Ch} [h : Pk b cs c put] : Pk b (x :: cs) c (fun d => x :: put d) := by
  obtain ⟨rest, h1, h2⟩ := h.ok
  exact ⟨x :: rest, (h1.cons x).trans (.swap _ _ _), fun d => ((h2 d).cons x).trans (.swap _ _ _)⟩
class PkS (A : Option Addr) (cs : List Ch) (cap : outParam Nat) (e : outParam TypeId) (k : outParam IntKind) (xs : outParam (List Int)) (put : outParam (Ch → List Ch)) : Prop where
  ok : ∃ rest, cs.Perm (Ch.sl A cap e k xs :: rest) ∧ ∀ d, (put d).Perm (d :: rest)
instance pks_sl {A : Option Addr} {cap : Nat} {e : TypeId} {k : IntKind} {xs : List Int} {cs : List Ch} : PkS A (Ch.sl A cap e k xs :: cs) cap e k xs (fun d => d :: cs) := ⟨cs, .refl _, fun _ => .refl _⟩
instance (priority := low) pks_tail {A : Option Addr} {cs : List Ch} {x : Ch} {cap : Nat} {e : TypeId} {k : IntKind} {xs : List Int} {put : Ch → List Ch} [h : PkS A cs cap e k xs put] : PkS A (x :: cs) cap e k xs (fun d => x :: put d) := by
  obtain ⟨rest, h1, h2⟩ := h.ok
  exact ⟨x :: rest, (h1.cons x).trans (.swap _ _ _), fun d => ((h2 d).cons x).trans (.swap _ _ _)⟩
section
variable {w0 w w' : World} {S : Nat → Prop} {cs : List Ch} {b : Nat} {c d : Ch} {put : Ch → List Ch}
theorem Pk.has (h : Pk b cs c put) (hp : Hp w0 S cs w) : c.P w := by
  obtain ⟨rest, h1, _⟩ := h.ok
  exact (hp.of_perm h1).sat _ (List.mem_cons_self ..)
theorem Pk.turn (h : Pk b cs c put) (hp : Hp w0 S cs w) (hg : Chg c.fp w w') (hd : d.P w') (hf : ∀ k, d.fp k → c.fp k ∨ w.heap.size ≤ k) : Hp w0 S (put d) w' := by
  obtain ⟨rest, h1, h2⟩ := h.ok
  exact ((hp.of_perm h1).turn hg hd hf).of_perm (h2 d).symm
theorem PkS.has {A : Option Addr} {cap : Nat} {e : TypeId} {k : IntKind} {xs : List Int} (h : PkS A cs cap e k xs put) (hp : Hp w0 S cs w) : (Ch.sl A cap e k xs).P w := by
  obtain ⟨rest, h1, _⟩ := h.ok
  exact (hp.of_perm h1).sat _ (List.mem_cons_self ..)
theorem PkS.turn {A : Option Addr} {cap : Nat} {e : TypeId} {k : IntKind} {xs : List Int} (h : PkS A cs cap e k xs put) (hp : Hp w0 S cs w) (hg : Chg (Ch.sl A cap e k xs).fp w w') (hd : d.P w') (hf : ∀ i, d.fp i → (Ch.sl A cap e k xs).fp i ∨ w.heap.size ≤ i) : Hp w0 S (put d) w' := by
  obtain ⟨rest, h1, h2⟩ := h.ok
  exact ((hp.of_perm h1).turn hg hd hf).of_perm (h2 d).symm
end
/-- A part whose block b holds whole numbers, from its start. -/
class IntsAt (b : Nat) (c : Ch) (k : outParam IntKind) (xs : outParam (List Int)) (upd : outParam (List Int → Ch)) : Prop where
  rd : ∀ w, c.P w → ∀ i, i < xs.length → w.cell? ⟨b, i, none⟩ = some (.int k (xs.getD i 0))
  fr : ∀ w, c.P w → 0 < xs.length → ∀ i, w.frozen? ⟨b, i, none⟩ = false
  up : ∀ w i n, c.P w → i < xs.length → (upd (xs.set i n)).P (w.setCell ⟨b, i, none⟩ (.int k n)) ∧ (∀ ys, (upd ys).fp = c.fp) ∧ c.fp b
theorem map_getD {k : IntKind} {xs : List Int} {i : Nat} (h : i < xs.length) : (xs.map (Value.int k))[i]? = some (.int k (xs.getD i 0)) := by
  rw [List.getElem?_map, List.getElem?_eq_getElem h, List.getD_eq_getElem?_getD, List.getElem?_eq_getElem h]; rfl
instance ia_ints {b : Nat} {k : IntKind} {xs : List Int} {T : TypeId} : IntsAt b (Ch.ints b k xs T) k xs (fun ys => Ch.ints b k ys T) where
  rd w h i hi := by
    have h : w.heap[b]? = some (.cells (xs.map (Value.int k)).toArray T (0, 0)) := h
    have e := map_getD (k := k) hi
    simp only [World.cell?, h, List.getElem?_toArray, e, Option.isSome_none, Bool.false_eq_true, if_false]
  fr w h _ i := by
    have h : w.heap[b]? = some (.cells (xs.map (Value.int k)).toArray T (0, 0)) := h
    simp [World.frozen?, h]
  up w i n h hi := ⟨by
    have h : w.heap[b]? = some (.cells (xs.map (Value.int k)).toArray T (0, 0)) := h
    show (w.setCell ⟨b, i, none⟩ (.int k n)).heap[b]? = _
    rw [heap_setCell_same _ _ _ _ _ _ h]
    simp [List.map_set], fun _ => rfl, rfl⟩
instance ia_sl {A : Option Addr} {cap : Nat} {e : TypeId} {k : IntKind} {xs : List Int} : IntsAt (blkOf A) (Ch.sl A cap e k xs) k xs (fun ys => Ch.sl A cap e k ys) where
  rd w h i hi := by
    have hc := sl_cap h
    obtain ⟨cur, h1, h2, h3⟩ := sl_at h (by omega)
    have e := map_getD (k := k) hi
    rw [← h3, List.getElem?_take_of_lt hi] at e
    simp only [World.cell?, h1, Option.isSome_none, Bool.false_eq_true, if_false]
    rw [← Array.getElem?_toList]
    exact e
  fr w h hp i := by
    have hc := sl_cap h
    obtain ⟨cur, h1, h2, h3⟩ := sl_at h (by omega)
    simp [World.frozen?, h1]
  up w i n h hi := by
    have hc := sl_cap h
    have ha := sl_addr h (by omega)
    obtain ⟨cur, h1, h2, h3⟩ := sl_at h (by omega)
    refine ⟨⟨by simp, .inr ⟨blkOf A, cap, cur.setIfInBounds i (.int k n), by rw [← ha], Nat.zero_le _, heap_setCell_same _ _ _ _ _ _ h1, by simpa using hc.1, by unfold maxLen; omega, by simpa using h2, ?_⟩⟩, fun ys => by cases A <;> rfl, ?_⟩
    · rw [Array.toList_setIfInBounds, List.length_set, Nat.mul_one, List.take_set, h3, List.map_set]
    · show Value.ownBlock _ = _
      rw [ha]
      rfl

section
variable {P : Program} {n : Nat} {ops : Array Oper} {Q : Exit → Act → World → Prop} {R : Regs} {M : World → Prop} {rest : List Oper} {K : Act → Prop} {ty T T' E : TypeId} {x y z : Operand} {v u : Value} {k k' : IntKind} {m l : Int}
variable {w0 : World} {S : Nat → Prop} {cs : List Ch} {b o i d : Nat} {c : Ch} {put : Ch → List Ch} {pos : String} {af : Array Edge} {A : Option Addr} {ad : Addr} {len cap : Nat}

/-! ### Addresses of elements -/
theorem run_size {s : Nat} (w : World) (h : (P.info? E).map (fun i => i.size) = some s) : (sizeOf E).run P w = .ok s w := by
  cases hq : P.info? E with
  | none => simp [hq] at h
  | some i => simp [hq] at h; simp [sizeOf, typeInfo, Sem.run_bind, hq, h]
theorem HasI.size {s by_ : Nat} (h : HasI P E s by_) : (P.info? E).map (fun i => i.size) = some s := by
  have := h.eq
  cases hq : P.info? E with
  | none => simp [hq] at this
  | some i => simp [hq] at this; simp [this]
theorem add_0 (a : Addr) : a.add 0 = a := by simp [Addr.add]
theorem run_index_slice [hT : HasU P T (.slice E)] {s by_ : Nat} [hE : HasI P E s by_] {e : Int} [hi : NatOf e i] (hlt : i < len) (w : World) :
    (Instr.indexAt T (.slice (some ad) len cap) (.int k e)).run P w = .ok (.pointer (some (ad.add (i * s)))) w := by
  have he := hi.eq
  subst he
  have hs := run_size w hE.size
  simp [Instr.indexAt, asIntOf, run_underlying hT.eq, hs, hlt]
theorem r_index [hT : HasU P T (.slice E)] {s by_ : Nat} [hE : HasI P E s by_] {e : Int} (hx : R.ev x = some (.slice (some ad) len cap)) (hy : R.ev y = some (.int k e)) [hi : NatOf e i] (hlt : i < len) :
    Res P n (.indexAddr T x y) ty R M (.pointer (some (ad.add (i * s)))) := ⟨fun a w hR hM => by simp [execOp, hR.ev hx, hR.ev hy, run_index_slice hlt w]⟩
theorem r_index1 [hT : HasU P T (.slice E)] {by_ : Nat} [hE : HasI P E 1 by_] {e : Int} (hx : R.ev x = some (.slice (some ad) len cap)) (hy : R.ev y = some (.int k e)) [hi : NatOf e i] (hlt : i < len) :
    Res P n (.indexAddr T x y) ty R M (.pointer (some (ad.add i))) := by have := r_index (P := P) (n := n) (M := M) (ty := ty) (T := T) (s := 1) hx hy hlt; rwa [Nat.mul_one] at this
/-- An element of a slice whose address may be none. -/
theorem r_indexO [hT : HasU P T (.slice E)] {by_ : Nat} [hE : HasI P E 1 by_] {e : Int} (hx : R.ev x = some (.slice A len cap)) (hy : R.ev y = some (.int k e)) [hi : NatOf e i] (hlt : i < len) (hA : A = some ad) :
    Res P n (.indexAddr T x y) ty R M (.pointer (some (ad.add i))) := r_index1 (by rw [hx, hA]) hy hlt
/-- An element of a slice of one's own. -/
theorem r_indexS [hT : HasU P T (.slice E)] {by_ e' cap' : Nat} {k1 : IntKind} {xs : List Int} [hE : HasI P E 1 by_] {e : Int} (hx : R.ev x = some (.slice A len cap)) (hy : R.ev y = some (.int k e)) [hi : NatOf e i] [h : PkS A cs cap' e' k1 xs put] (hlt : i < len) (hl : len ≤ xs.length) :
    Res P n (.indexAddr T x y) ty R (Hp w0 S cs) (.pointer (some ⟨blkOf A, i, none⟩)) := .mk fun a w hR hM => by
  have h1 := h.has hM
  have h2 := sl_cap h1
  have h3 := sl_addr h1 (by omega)
  have := r_indexO (P := P) (n := n) (M := Hp w0 S cs) (ty := ty) (T := T) hx hy hlt h3 |>.run a w hR hM
  rwa [add_mk, Nat.zero_add] at this
theorem run_index_array {N : Nat} [hT : HasU P T (.array N E)] {s by_ : Nat} [hE : HasI P E s by_] {e : Int} [hi : NatOf e i] (hlt : i < N) (w : World) :
    (Instr.indexAt T (.pointer (some ad)) (.int k e)).run P w = .ok (.pointer (some (ad.add (i * s)))) w := by
  have he := hi.eq
  subst he
  have hs := run_size w hE.size
  simp [Instr.indexAt, asIntOf, run_underlying hT.eq, hs, hlt, Instr.sureAddr]
theorem r_indexA {N : Nat} [hT : HasU P T (.array N E)] {s by_ : Nat} [hE : HasI P E s by_] {e : Int} (hx : R.ev x = some (.pointer (some ⟨b, o, none⟩))) (hy : R.ev y = some (.int k e)) [hi : NatOf e i] (hlt : i < N) :
    Res P n (.indexAddr T x y) ty R M (.pointer (some ⟨b, o + i * s, none⟩)) := ⟨fun a w hR hM => by simp [execOp, hR.ev hx, hR.ev hy, run_index_array hlt w, add_mk]⟩
theorem r_indexA1 {N : Nat} [hT : HasU P T (.array N E)] {by_ : Nat} [hE : HasI P E 1 by_] {e : Int} (hx : R.ev x = some (.pointer (some ⟨b, o, none⟩))) (hy : R.ev y = some (.int k e)) [hi : NatOf e i] (hlt : i < N) :
    Res P n (.indexAddr T x y) ty R M (.pointer (some ⟨b, o + i, none⟩)) := by have := r_indexA (P := P) (n := n) (M := M) (ty := ty) (T := T) (s := 1) hx hy hlt; rwa [Nat.mul_one] at this
theorem r_indexA0 {N : Nat} [hT : HasU P T (.array N E)] {by_ : Nat} [hE : HasI P E 1 by_] {e : Int} (hx : R.ev x = some (.pointer (some ⟨b, 0, none⟩))) (hy : R.ev y = some (.int k e)) [hi : NatOf e i] (hlt : i < N) :
    Res P n (.indexAddr T x y) ty R M (.pointer (some ⟨b, i, none⟩)) := by have := r_indexA1 (P := P) (n := n) (M := M) (ty := ty) (T := T) hx hy hlt; rwa [Nat.zero_add] at this

theorem fieldAt_of {s : Nat} {fs : Array Field} (f ft off sz : Nat) (hu : P.underlying s = some (.struct fs)) (hf : (fs[f]?).map (fun d => (d.type, d.offset)) = some (ft, off)) (hs : (P.info? ft).map (fun i => i.size) = some sz) (hp : 0 < sz) (a : Addr) (w : World) :
    (Instr.fieldAt s (.pointer (some a)) f).run P w = .ok (.pointer (some (a.add off))) w := by
  cases hq : fs[f]? with
  | none => simp [hq] at hf
  | some fd =>
    simp [hq] at hf
    obtain ⟨rfl, rfl⟩ := hf
    have h1 := run_size w hs
    simp [Instr.fieldAt, run_underlying hu, hq, Instr.sureAddr, fieldPlace, h1, show ¬ sz = 0 by omega]

/-! ### Loads -/
theorem r_load [hA : IsAgg P T false] (hx : R.ev x = some (.pointer (some ad))) (h : ∀ w, M w → w.cell? ad = some v) : Res P n (.load T x) ty R M v := .mk fun a w hR hM => by
  simp [execOp, hR.ev hx, Instr.loadAt, Instr.sureAddr, loadVar, Sem.run_bind, hA.eq w, load, Sem.run, h w hM]
theorem r_loadI [hA : IsAgg P T false] (hx : R.ev x = some (.pointer (some ⟨b, i, none⟩))) {xs : List Int} {upd : List Int → Ch} [h : Pk b cs c put] [h2 : IntsAt b c k xs upd] (hi : i < xs.length) :
    Res P n (.load T x) ty R (Hp w0 S cs) (.int k (xs.getD i 0)) := r_load hx (fun w hM => h2.rd w (h.has hM) i hi)
theorem r_loadB [hA : IsAgg P T false] (hx : R.ev x = some (.pointer (some ⟨b, i, none⟩))) {xs : List Value} {T1 : TypeId} [h : Pk b cs (Ch.blk b xs T1) put] (hi : xs[i]? = some v) :
    Res P n (.load T x) ty R (Hp w0 S cs) v := r_load hx (fun w hM => by
      have e : w.heap[b]? = some (.cells xs.toArray T1 (0, 0)) := h.has hM
      simp [World.cell?, e, hi])
theorem r_loadO [hA : IsAgg P T false] (hx : R.ev x = some (.pointer (some ad))) (hc : w0.cell? ad = some v) (hs : ¬ S ad.block) : Res P n (.load T x) ty R (Hp w0 S cs) v := r_load hx (fun w hM => hM.old hc hs)
theorem run_loadVar_cells (w : World) (A : Addr) (ty : TypeId) [hA : IsAgg P ty true] (cs : List Value) (hc : ∀ j v, cs[j]? = some v → w.cell? (A.add j) = some v)
    (hi : (P.info? ty).map (fun i => i.size) = some cs.length) : (loadVar ty A).run P w = .ok (.agg cs.toArray) w := by
  have hl := run_loadCells_list (P := P) w A cs hc
  have hs := run_size w hi
  simp [loadVar, Sem.run_bind, hA.eq w, hs, hl]
/-- A struct or an array, loaded as a whole. -/
theorem r_loadA [hA : IsAgg P T true] {s by_ : Nat} [hI : HasI P T s by_] {vs : List Value} (hx : R.ev x = some (.pointer (some ad))) (hl : vs.length = s) (h : ∀ w, M w → ∀ j v, vs[j]? = some v → w.cell? (ad.add j) = some v) :
    Res P n (.load T x) ty R M (.agg vs.toArray) := .mk fun a w hR hM => by
  have hs : (P.info? T).map (fun i => i.size) = some vs.length := by rw [hl]; exact hI.size
  simp [execOp, hR.ev hx, Instr.loadAt, Instr.sureAddr, run_loadVar_cells w ad T vs (h w hM) hs]

/-! ### Parts of aggregates, tuples -/
theorem r_extract {vs : List Value} {j : Nat} (hx : R.ev x = some (.tuple vs.toArray)) (hj : vs[j]? = some v) : Res P n (.extract x j) ty R M v := ⟨fun a w hR hM => by simp [execOp, hR.ev hx, Instr.extract, hj]⟩

/-! ### Length, capacity -/
theorem r_len [hT : HasU P T (.slice E)] (hx : R.ev x = some (.slice A len cap)) : Res P n (.call { callee := .builtin .len, args := #[x], argTypes := #[T] }) ty R M (.int .i64 len) := .mk fun a w hR hM => by
  simp [execOp, hR.ev hx, resolve, invoke, builtin, Builtin.len_, run_underlying hT.eq, goInt]

/-! ### Stores -/
theorem run_store {by_ : Nat} [hI : HasI P T 1 by_] (h1 : v.oneCell' = true) {w : World} (hc : w.cell? ad = some u) (hf : w.frozen? ad = false) : (Instr.storeAt T (.pointer (some ad)) v).run P w = .ok () (w.setCell ad v) := by
  have hs := run_size w hI.size
  have hcl : v.cells = #[v] := by cases v <;> simp_all [Value.cells, Value.oneCell']
  have hrun : (store ad v).run P w = .ok () (w.setCell ad v) := by
    unfold store
    cases v <;> simp_all [Sem.run, Value.oneCell']
  simp [Instr.storeAt, Instr.sureAddr, storeVar, hcl, hs, storeCells, add_0, hrun]
theorem X_step {M' : World → Prop} {op : Op} {dst : Option Nat} (h : ∀ a w, Mod n a R → M w → ∃ w', (execOp a.eval ⟨none, op, ty, "", #[], none⟩).run P w = .ok .skip w' ∧ M' w') (k : X P n ops Q rest R M') : X P n ops Q (⟨none, op, ty, pos, af, none⟩ :: rest) R M := .x fun a w hR hM =>
  wpList_plain rfl fun _ hK => by
    obtain ⟨w', h1, h2⟩ := h a w hR hM
    unfold Oper.wp
    rw [execOp_of, h1]
    exact hK _ _ (k.runX _ w' hR h2)
theorem X_storeI {by_ : Nat} [hI : HasI P T 1 by_] (hx : R.ev x = some (.pointer (some ⟨b, i, none⟩))) (hy : R.ev y = some (.int k m)) {xs : List Int} {upd : List Int → Ch} [h : Pk b cs c put] [h2 : IntsAt b c k xs upd] (hi : i < xs.length)
    (q : X P n ops Q rest R (Hp w0 S (put (upd (xs.set i m))))) : X P n ops Q (⟨none, .store T x y, ty, pos, af, none⟩ :: rest) R (Hp w0 S cs) :=
  X_step (dst := none) (M' := Hp w0 S (put (upd (xs.set i m)))) (fun a w hR hM => by
    have hc := h.has hM
    obtain ⟨u1, u2, u3⟩ := h2.up w i m hc hi
    refine ⟨w.setCell ⟨b, i, none⟩ (.int k m), ?_, h.turn hM (Chg.set (Chg.refl _ _) (fun _ => u3) _) u1 (fun j hj => .inl (by rw [u2] at hj; exact hj))⟩
    simp [execOp, hR.ev hx, hR.ev hy, run_store (P := P) (T := T) (v := .int k m) rfl (h2.rd w hc i hi) (h2.fr w hc (by omega) i)]) q
theorem X_storeB {by_ : Nat} [hI : HasI P T 1 by_] (hx : R.ev x = some (.pointer (some ⟨b, i, none⟩))) (hy : R.ev y = some v) (h1 : v.oneCell' = true) {xs : List Value} {T1 : TypeId} [h : Pk b cs (Ch.blk b xs T1) put] (hi : i < xs.length)
    (q : X P n ops Q rest R (Hp w0 S (put (Ch.blk b (xs.set i v) T1)))) : X P n ops Q (⟨none, .store T x y, ty, pos, af, none⟩ :: rest) R (Hp w0 S cs) :=
  X_step (dst := none) (M' := Hp w0 S (put (Ch.blk b (xs.set i v) T1))) (fun a w hR hM => by
    have e : w.heap[b]? = some (.cells xs.toArray T1 (0, 0)) := h.has hM
    have hc : w.cell? ⟨b, i, none⟩ = some xs[i] := by simp [World.cell?, e, List.getElem?_eq_getElem hi]
    refine ⟨w.setCell ⟨b, i, none⟩ v, ?_, h.turn hM (Chg.set (S := fun k => k = b) (a := ⟨b, i, none⟩) (Chg.refl _ _) (fun _ => rfl) _) ((heap_setCell_same _ _ _ _ _ _ e).trans (by simp)) (fun j hj => .inl hj)⟩
    simp [execOp, hR.ev hx, hR.ev hy, run_store (P := P) (T := T) (v := v) h1 hc (by simp [World.frozen?, e])]) q

/-! ### What is made -/
theorem X_alloc {op : Op} {val : Nat → Value} {new : Nat → Ch} (h : ∀ a w, Mod n a R → Hp w0 S cs w → ∃ o, (execOp a.eval ⟨none, op, ty, "", #[], none⟩).run P w = .ok (.value (val w.heap.size)) (w.alloc o) ∧ (new w.heap.size).P (w.alloc o) ∧ ∀ k, (new w.heap.size).fp k → k = w.heap.size) (hd : Nat.blt d n = true)
    (k : ∀ g, w0.heap.size ≤ g → X P n ops Q rest ((d, val g) :: R) (Hp w0 S (new g :: cs))) : X P n ops Q (⟨some d, op, ty, pos, af, none⟩ :: rest) R (Hp w0 S cs) := .x fun a w hR hM =>
  wpList_plain rfl fun _ hK => by
    obtain ⟨o, h1, h2, h3⟩ := h a w hR hM
    unfold Oper.wp
    rw [execOp_of, h1]
    exact hK _ _ ((k _ hM.chg.size).runX _ _ (hR.put hd _) (hM.add ((Chg.refl _ _).alloc _) h2 (fun j hj => by rw [h3 j hj]; exact Nat.le_refl _)))
/-- A type whose zero value is so many noughts of a kind. -/
class HasZI (P : Program) (t : TypeId) (k : outParam IntKind) (N : outParam Nat) : Prop where eq : ∀ w, (zeroValue t).run P w = .ok (.agg ((List.replicate N 0).map (Value.int k)).toArray) w
theorem run_alloc {z : Value} (h : ∀ w, (zeroValue E).run P w = .ok z w) (w : World) : (Instr.alloc E true (.tuple #[])).run P w = .ok (.pointer (some ⟨w.heap.size, 0, none⟩)) (w.alloc (.cells z.cells E)) := by
  simp [Instr.alloc, h w, newVar, newRow, newObj, Sem.run]
theorem X_allocI {N : Nat} [h : HasZI P E k N] (hd : Nat.blt d n = true) (q : ∀ g, w0.heap.size ≤ g → X P n ops Q rest ((d, .pointer (some ⟨g, 0, none⟩)) :: R) (Hp w0 S (Ch.ints g k (List.replicate N 0) E :: cs))) :
    X P n ops Q (⟨some d, .alloc E, ty, pos, af, none⟩ :: rest) R (Hp w0 S cs) :=
  X_alloc (val := fun g => .pointer (some ⟨g, 0, none⟩)) (new := fun g => Ch.ints g k (List.replicate N 0) E) (fun a w hR hM => ⟨_, by simp only [execOp]; rw [Sem.run_bind, run_alloc h.eq w]; rfl, heap_alloc_new w _, fun k hk => hk⟩) hd q
theorem X_allocB {z : Value} {zs : List Value} [h : HasZ P E z] (hz : z.cells = zs.toArray) (hd : Nat.blt d n = true) (q : ∀ g, w0.heap.size ≤ g → X P n ops Q rest ((d, .pointer (some ⟨g, 0, none⟩)) :: R) (Hp w0 S (Ch.blk g zs E :: cs))) :
    X P n ops Q (⟨some d, .alloc E, ty, pos, af, none⟩ :: rest) R (Hp w0 S cs) :=
  X_alloc (val := fun g => .pointer (some ⟨g, 0, none⟩)) (new := fun g => Ch.blk g zs E) (fun a w hR hM => ⟨.cells zs.toArray E, by simp only [execOp]; rw [Sem.run_bind, run_alloc h.eq w, hz]; rfl, heap_alloc_new w _, fun k hk => hk⟩) hd q
end
end Go.Proofs.Ytfkhdhdbfejbpaa.MX
