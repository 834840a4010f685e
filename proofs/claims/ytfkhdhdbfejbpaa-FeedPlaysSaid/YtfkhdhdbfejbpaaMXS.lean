/- Structs and arrays in memory: a head of whole numbers with other cells behind it; aggregates as values; copies. No program in sight. -/
import Derived.Test.YtfkhdhdbfejbpaaMXK
import Derived.Laws.CopyRow
namespace Go.Proofs.Ytfkhdhdbfejbpaa.MX
open Go Go.RowKit
set_option linter.unusedVariables false
set_option linter.unusedSimpArgs false
set_option linter.unusedVariables false

/-- Block b: whole numbers, then other cells. -/
def Ch.hd (b : Nat) (k : IntKind) (xs : List Int) (rest : List Value) (T : TypeId) : Ch := Ch.blk b (xs.map (Value.int k) ++ rest) T
instance pk_hd {b : Nat} {k : IntKind} {xs : List Int} {rest : List Value} {T : TypeId} {cs : List Ch} : Pk b (Ch.hd b k xs rest T :: cs) (Ch.hd b k xs rest T) (fun d => d :: cs) := ⟨cs, .refl _, fun _ => .refl _⟩
instance ia_hd {b : Nat} {k : IntKind} {xs : List Int} {rest : List Value} {T : TypeId} : IntsAt b (Ch.hd b k xs rest T) k xs (fun ys => Ch.hd b k ys rest T) where
  rd w h i hi := by
    have h : w.heap[b]? = some (.cells (xs.map (Value.int k) ++ rest).toArray T (0, 0)) := h
    have e := map_getD (k := k) hi
    rw [← List.getElem?_append_left (l₂ := rest) (by simpa using hi)] at e
    simp only [World.cell?, h, Option.isSome_none, Bool.false_eq_true, if_false, List.getElem?_toArray]
    exact e
  fr w h _ i := by
    have h : w.heap[b]? = some (.cells (xs.map (Value.int k) ++ rest).toArray T (0, 0)) := h
    simp [World.frozen?, h]
  up w i n h hi := ⟨by
    have h : w.heap[b]? = some (.cells (xs.map (Value.int k) ++ rest).toArray T (0, 0)) := h
    show (w.setCell ⟨b, i, none⟩ (.int k n)).heap[b]? = _
    rw [heap_setCell_same _ _ _ _ _ _ h]
    simp [List.map_set, List.set_append_left, hi], fun _ => rfl, rfl⟩
section
variable {P : Program} {n : Nat} {ops : Array Oper} {Q : Exit → Act → World → Prop} {R : Regs} {M : World → Prop} {rest : List Oper} {K : Act → Prop} {ty T T' E : TypeId} {x y z : Operand} {v u : Value} {k k' : IntKind} {m l : Int}
variable {w0 : World} {S : Nat → Prop} {cs : List Ch} {b o i d g : Nat} {c : Ch} {put : Ch → List Ch} {pos : String} {af : Array Edge} {A A2 : Option Addr} {ad : Addr} {len cap c2 l2 : Nat} {xs ys : List Int} {tys : Array TypeId} {vs : List Value}

/-! ### Conversions, each in its form -/
theorem r_conv8 [h1 : HasU P T (.int k)] [h2 : HasU P T' (.int .u8)] (hx : R.ev x = some (.int k m)) : Res P n (.convert T T' x) ty R M (.int .u8 (m % 256)) := by rw [← wrap_u8]; exact r_conv hx
theorem r_conv32 [h1 : HasU P T (.int k)] [h2 : HasU P T' (.int .u32)] (hx : R.ev x = some (.int k m)) : Res P n (.convert T T' x) ty R M (.int .u32 (m % 4294967296)) := by rw [← wrap_u32]; exact r_conv hx
theorem r_convu [h1 : HasU P T (.int k)] [h2 : HasU P T' (.int .u64)] (hx : R.ev x = some (.int k m)) : Res P n (.convert T T' x) ty R M (.int .u64 (m % 18446744073709551616)) := by rw [← wrap_u64]; exact r_conv hx
theorem r_conv64 [h1 : HasU P T (.int k)] [h2 : HasU P T' (.int .i64)] (hx : R.ev x = some (.int k m)) (h : -9223372036854775808 ≤ m ∧ m ≤ 9223372036854775807) : Res P n (.convert T T' x) ty R M (.int .i64 m) :=
  r_conv_id hx (i64_id h.1 h.2)
theorem r_convuN [h1 : HasU P T (.int k)] [h2 : HasU P T' (.int .u64)] (hx : R.ev x = some (.int k m)) (h : 0 ≤ m ∧ m < 18446744073709551616) : Res P n (.convert T T' x) ty R M (.int .u64 m) :=
  r_conv_id hx (by rw [wrap_u64]; omega)

/-! ### A field behind the head -/
theorem r_loadH [hA : IsAgg P T false] (hx : R.ev x = some (.pointer (some ⟨b, o, none⟩))) {rs : List Value} {T1 : TypeId} [h : Pk b cs (Ch.hd b k xs rs T1) put] (j : Nat) (ho : o = xs.length + j) (hj : rs[j]? = some v) :
    Res P n (.load T x) ty R (Hp w0 S cs) v := r_load hx (fun w hM => by
      have e : w.heap[b]? = some (.cells (xs.map (Value.int k) ++ rs).toArray T1 (0, 0)) := h.has hM
      subst ho
      simp [World.cell?, e, List.getElem?_append_right, hj])
theorem X_storeH {by_ : Nat} [hI : HasI P T 1 by_] (hx : R.ev x = some (.pointer (some ⟨b, o, none⟩))) (hy : R.ev y = some v) (h1 : v.oneCell' = true) {rs : List Value} {T1 : TypeId} [h : Pk b cs (Ch.hd b k xs rs T1) put] (j : Nat) (ho : o = xs.length + j) (hj : j < rs.length)
    (q : X P n ops Q rest R (Hp w0 S (put (Ch.hd b k xs (rs.set j v) T1)))) : X P n ops Q (⟨none, .store T x y, ty, pos, af, none⟩ :: rest) R (Hp w0 S cs) :=
  X_step (dst := none) (M' := Hp w0 S (put (Ch.hd b k xs (rs.set j v) T1))) (fun a w hR hM => by
    have e : w.heap[b]? = some (.cells (xs.map (Value.int k) ++ rs).toArray T1 (0, 0)) := h.has hM
    subst ho
    have hc : w.cell? ⟨b, xs.length + j, none⟩ = some rs[j] := by simp [World.cell?, e, List.getElem?_append_right, List.getElem?_eq_getElem hj]
    refine ⟨w.setCell ⟨b, xs.length + j, none⟩ v, ?_, h.turn hM (Chg.set (S := fun k => k = b) (a := ⟨b, xs.length + j, none⟩) (Chg.refl _ _) (fun _ => rfl) _) ((heap_setCell_same _ _ _ _ _ _ e).trans (by simp [List.set_append_right])) (fun j hj => .inl hj)⟩
    simp [execOp, hR.ev hx, hR.ev hy, run_store (P := P) (T := T) (v := v) h1 hc (by simp [World.frozen?, e])]) q

/-! ### Indexes that are differences -/
theorem natOf_toNat {e : Int} (h : 0 ≤ e) : NatOf e e.toNat := ⟨by omega⟩
theorem r_indexA0T {N : Nat} [hT : HasU P T (.array N E)] {by_ : Nat} [hE : HasI P E 1 by_] {e : Int} (hx : R.ev x = some (.pointer (some ⟨b, 0, none⟩))) (hy : R.ev y = some (.int k e)) (h0 : 0 ≤ e) (hlt : e < (N : Int)) :
    Res P n (.indexAddr T x y) ty R M (.pointer (some ⟨b, e.toNat, none⟩)) := by
  have := natOf_toNat h0
  exact r_indexA0 hx hy (by omega)
theorem r_indexA1T {N : Nat} [hT : HasU P T (.array N E)] {by_ : Nat} [hE : HasI P E 1 by_] {e : Int} (hx : R.ev x = some (.pointer (some ⟨b, o, none⟩))) (hy : R.ev y = some (.int k e)) (h0 : 0 ≤ e) (hlt : e < (N : Int)) :
    Res P n (.indexAddr T x y) ty R M (.pointer (some ⟨b, o + e.toNat, none⟩)) := by
  have := natOf_toNat h0
  exact r_indexA1 hx hy (by omega)
theorem r_indexST [hT : HasU P T (.slice E)] {by_ e' cap' : Nat} {k1 : IntKind} [hE : HasI P E 1 by_] {e : Int} (hx : R.ev x = some (.slice A len cap)) (hy : R.ev y = some (.int k e)) [h : PkS A cs cap' e' k1 xs put] (h0 : 0 ≤ e) (hlt : e < (len : Int)) (hl : len ≤ xs.length) :
    Res P n (.indexAddr T x y) ty R (Hp w0 S cs) (.pointer (some ⟨blkOf A, e.toNat, none⟩)) := by
  have := natOf_toNat h0
  exact r_indexS hx hy (by omega) hl
theorem r_indexRT [hT : HasU P T (.slice E)] {by_ : Nat} [hE : HasI P E 1 by_] {e : Int} (hx : R.ev x = some (.slice A len cap)) (hy : R.ev y = some (.int k e)) {w' : World} {c' : Nat} {k1 : IntKind} (hr : Rds w' A c' k1 xs) (h0 : 0 ≤ e) (hlt : e < (len : Int)) (hl : 0 < c') :
    Res P n (.indexAddr T x y) ty R M (.pointer (some ((adOf A).add e.toNat))) := by
  have := natOf_toNat h0
  exact r_indexR hx hy hr (by omega) hl

/-! ### Aggregates -/
/-- A whole block, loaded. -/
theorem r_loadW [hA : IsAgg P T true] {s by_ : Nat} [hI : HasI P T s by_] (hx : R.ev x = some (.pointer (some ⟨b, 0, none⟩))) {T1 : TypeId} [h : Pk b cs (Ch.blk b vs T1) put] (hl : vs.length = s) :
    Res P n (.load T x) ty R (Hp w0 S cs) (.agg vs.toArray) := r_loadA hx hl (fun w hM j u hu => by
      have e : w.heap[b]? = some (.cells vs.toArray T1 (0, 0)) := h.has hM
      rw [add_mk, Nat.zero_add]
      simp [World.cell?, e, hu])
theorem r_loadWI [hA : IsAgg P T true] {s by_ : Nat} [hI : HasI P T s by_] (hx : R.ev x = some (.pointer (some ⟨b, 0, none⟩))) {T1 : TypeId} [h : Pk b cs (Ch.ints b k xs T1) put] (hl : xs.length = s) :
    Res P n (.load T x) ty R (Hp w0 S cs) (.agg (xs.map (Value.int k)).toArray) := r_loadA hx (by simpa using hl) (fun w hM j u hu => by
      have e : w.heap[b]? = some (.cells (xs.map (Value.int k)).toArray T1 (0, 0)) := h.has hM
      rw [add_mk, Nat.zero_add]
      simp only [World.cell?, e, Option.isSome_none, Bool.false_eq_true, if_false, List.getElem?_toArray]
      exact hu)
theorem r_loadWH [hA : IsAgg P T true] {s by_ : Nat} [hI : HasI P T s by_] (hx : R.ev x = some (.pointer (some ⟨b, 0, none⟩))) {rs : List Value} {T1 : TypeId} [h : Pk b cs (Ch.hd b k xs rs T1) put] (hl : xs.length = s) :
    Res P n (.load T x) ty R (Hp w0 S cs) (.agg (xs.map (Value.int k)).toArray) := r_loadA hx (by simpa using hl) (fun w hM j u hu => by
      have e : w.heap[b]? = some (.cells (xs.map (Value.int k) ++ rs).toArray T1 (0, 0)) := h.has hM
      have hj : j < (xs.map (Value.int k)).length := (List.getElem?_eq_some_iff.1 hu).1
      rw [add_mk, Nat.zero_add]
      simp only [World.cell?, e, Option.isSome_none, Bool.false_eq_true, if_false, List.getElem?_toArray]
      rw [List.getElem?_append_left hj]
      exact hu)
theorem setRow_cells (w : World) (b : Nat) (vs us : List Value) (T : TypeId) (h : w.heap[b]? = some (.cells us.toArray T (0, 0))) (hl : vs.length = us.length) (h1 : ∀ v ∈ vs, v.oneCell' = true) :
    ∃ w', (storeCells ⟨b, 0, none⟩ vs 0).run P w = .ok () w' ∧ w'.heap[b]? = some (.cells vs.toArray T (0, 0)) ∧ Chg (fun k => k = b) w w' := by
  have key : ∀ (r p : List Value) (w1 : World) (q : List Value), Chg (fun k => k = b) w w1 → w1.heap[b]? = some (.cells (p ++ q).toArray T (0, 0)) → q.length = r.length → (∀ v ∈ r, v.oneCell' = true) →
      ∃ w', (storeCells ⟨b, 0, none⟩ r p.length).run P w1 = .ok () w' ∧ w'.heap[b]? = some (.cells (p ++ r).toArray T (0, 0)) ∧ Chg (fun k => k = b) w w' := by
    intro r
    induction r with
    | nil =>
      intro p w1 q hc hb hq _
      have : q = [] := List.eq_nil_of_length_eq_zero hq
      subst this
      exact ⟨w1, by simp [storeCells], hb, hc⟩
    | cons v r ih =>
      intro p w1 q hc hb hq h1
      cases q with
      | nil => simp at hq
      | cons u q =>
        have hcell : w1.cell? ((⟨b, 0, none⟩ : Addr).add p.length) = some u := by rw [add_mk, Nat.zero_add]; simp [World.cell?, hb]
        have hfr : w1.frozen? ((⟨b, 0, none⟩ : Addr).add p.length) = false := by rw [add_mk, Nat.zero_add]; simp [World.frozen?, hb]
        have hv := h1 v (List.mem_cons_self ..)
        have hrun : (store ((⟨b, 0, none⟩ : Addr).add p.length) v).run P w1 = .ok () (w1.setCell ((⟨b, 0, none⟩ : Addr).add p.length) v) := by
          unfold store
          cases v <;> simp_all [Sem.run, Value.oneCell']
        have hb2 : (w1.setCell ((⟨b, 0, none⟩ : Addr).add p.length) v).heap[b]? = some (.cells ((p ++ [v]) ++ q).toArray T (0, 0)) := by
          rw [add_mk, Nat.zero_add, heap_setCell_same _ _ _ _ _ _ hb]
          simp [List.set_append_right]
        obtain ⟨w', r1, r2, r3⟩ := ih (p ++ [v]) _ q (hc.set (a := (⟨b, 0, none⟩ : Addr).add p.length) (fun _ => by rw [add_block]) v) hb2 (by simpa using hq) (fun x hx => h1 x (List.mem_cons_of_mem _ hx))
        refine ⟨w', ?_, by simpa using r2, r3⟩
        simp only [storeCells, Sem.run_bind, hrun, Result.andThen_ok]
        simpa using r1
  have := key vs [] w us (Chg.refl _ _) (by simpa using h) hl.symm h1
  simpa using this
theorem run_storeAgg {s by_ : Nat} [hI : HasI P T s by_] (hs : vs.length = s) {w w' : World} (h : (storeCells ad vs 0).run P w = .ok () w') : (Instr.storeAt T (.pointer (some ad)) (.agg vs.toArray)).run P w = .ok () w' := by
  have h1 := run_size w hI.size
  simp [Instr.storeAt, Instr.sureAddr, storeVar, Value.cells, h1, hs, h]
/-- A struct or an array, stored over a whole block. -/
theorem X_storeW {s by_ : Nat} [hI : HasI P T s by_] (hx : R.ev x = some (.pointer (some ⟨b, 0, none⟩))) (hy : R.ev y = some (.agg vs.toArray)) {us : List Value} {T1 : TypeId} [h : Pk b cs (Ch.blk b us T1) put] (hs : vs.length = s) (hl : vs.length = us.length) (h1 : ∀ v ∈ vs, v.oneCell' = true)
    (q : X P n ops Q rest R (Hp w0 S (put (Ch.blk b vs T1)))) : X P n ops Q (⟨none, .store T x y, ty, pos, af, none⟩ :: rest) R (Hp w0 S cs) :=
  X_step (dst := none) (M' := Hp w0 S (put (Ch.blk b vs T1))) (fun a w hR hM => by
    obtain ⟨w', r1, r2, r3⟩ := setRow_cells (P := P) w b vs us T1 (h.has hM) hl h1
    refine ⟨w', ?_, h.turn hM r3 r2 (fun j hj => .inl hj)⟩
    simp [execOp, hR.ev hx, hR.ev hy, run_storeAgg hs r1]) q
theorem X_storeWI {s by_ : Nat} [hI : HasI P T s by_] (hx : R.ev x = some (.pointer (some ⟨b, 0, none⟩))) (hy : R.ev y = some (.agg (ys.map (Value.int k)).toArray)) {T1 : TypeId} [h : Pk b cs (Ch.ints b k xs T1) put] (hs : ys.length = s) (hl : ys.length = xs.length)
    (q : X P n ops Q rest R (Hp w0 S (put (Ch.ints b k ys T1)))) : X P n ops Q (⟨none, .store T x y, ty, pos, af, none⟩ :: rest) R (Hp w0 S cs) :=
  X_step (dst := none) (M' := Hp w0 S (put (Ch.ints b k ys T1))) (fun a w hR hM => by
    obtain ⟨w', r1, r2, r3⟩ := setRow_cells (P := P) w b (ys.map (Value.int k)) (xs.map (Value.int k)) T1 (h.has hM) (by simpa using hl) oneCell_map
    refine ⟨w', ?_, h.turn hM r3 r2 (fun j hj => .inl hj)⟩
    simp [execOp, hR.ev hx, hR.ev hy, run_storeAgg (T := T) (vs := ys.map (Value.int k)) (by simpa using hs) r1]) q
/-- An element of an array that is a value. -/
theorem r_indexV {N : Nat} [hT : HasU P T (.array N E)] {by_ : Nat} [hE : HasI P E 1 by_] [hA : IsAgg P E false] {e : Int} (hx : R.ev x = some (.agg (xs.map (Value.int k)).toArray)) (hy : R.ev y = some (.int k' e)) [hi : NatOf e i] (hlt : i < N) (hl : xs.length = N) :
    Res P n (.index T x y) ty R M (.int k (xs.getD i 0)) := .mk fun a w hR hM => by
  have he := hi.eq
  subst he
  have hs := run_size w hE.size
  have hag := hA.eq w
  have e1 := map_getD (k := k) (xs := xs) (i := i) (by omega)
  have hpart : (part E (xs.map (Value.int k)).toArray i).run P w = .ok (.int k (xs.getD i 0)) w := by
    simp only [part, Sem.run_bind, hag, Result.andThen_ok]
    simp only [List.getElem?_toArray, Bool.false_eq_true, if_false, e1]
    rfl
  simp only [execOp, hR.ev hx, hR.ev hy, Instr.index, asIntOf, Sem.run_bind, Sem.run_pure, Result.andThen_ok, run_underlying hT.eq]
  simp only [show (0 : Int) ≤ (i : Int) ∧ (i : Int) < (N : Int) from ⟨by omega, by omega⟩, if_true, and_self, Sem.run_bind, hs, Result.andThen_ok, Int.toNat_natCast, Nat.mul_one, hpart]
/-- An array that is written out. -/
theorem r_buildI {N : Nat} [hT : HasU P T (.array N E)] {by_ : Nat} [hE : HasI P E 1 by_] [hz : HasZI P T k N] {ps : List (Nat × Operand)} {ns : List Int} (hp0 : R.evn k 0 ps = some ns) (hl : ns.length = N) :
    Res P n (.build T ps.toArray) ty R M (.agg (ns.map (Value.int k)).toArray) := .mk fun a w hR hM => by
  have hs := run_size w hE.size
  have e := hR.evp (evn_evp hp0)
  have e2 : ps.toArray.map (fun (x : Nat × Operand) => (x.1, a.eval x.2)) = (zipFrom 0 (ns.map (Value.int k))).toArray := by rw [List.map_toArray, e]
  have hf := fill_zip (ns.map (Value.int k)) 0 ((List.replicate N 0).map (Value.int k)).toArray oneCell_map (by simp; omega)
  have hf2 : Instr.fill (fun j => some (j * 1, 1)) ((List.replicate N 0).map (Value.int k)).toArray (zipFrom 0 (ns.map (Value.int k))) = some (ns.map (Value.int k)).toArray := by
    rw [hf]
    congr 2
    rw [List.drop_eq_nil_of_le (by simp; omega)]
    simp
  simp only [execOp, Sem.run_bind, e2, Instr.build, hz.eq w, Result.andThen_ok, Value.cells, run_underlying hT.eq, hs, hf2, Sem.run_pure]

/-! ### Parts of arrays, as slices -/
theorem r_cutA {N : Nat} [hT : HasU P T (.array N E)] {by_ : Nat} [hE : HasI P E 1 by_] {e : Int} (hx : R.ev x = some (.pointer (some ⟨b, o, none⟩))) (hy : R.ev y = some (.int k e)) [hi : NatOf e i] (h : i < N) :
    Res P n (.slice T x (some y) none none) ty R M (.slice (some ⟨b, o + i, none⟩) (N - i) (N - i)) := .mk fun a w hR hM => by
  have he := hi.eq
  subst he
  have hs := run_size w hE.size
  simp [execOp, hR.ev hx, hR.ev hy, Instr.sliceAt, run_underlying hT.eq, Instr.sureAddr, Instr.sliceBounds, run_sliceBound, hs, show (0 : Int) ≤ (i : Int) by omega, show (i : Int) ≤ (N : Int) by omega, show ¬ N = i by omega, add_mk]
theorem r_cutAll {N : Nat} [hT : HasU P T (.array N E)] {by_ : Nat} [hE : HasI P E 1 by_] (hx : R.ev x = some (.pointer (some ⟨b, o, none⟩))) :
    Res P n (.slice T x none none none) ty R M (.slice (some ⟨b, o, none⟩) N N) := .mk fun a w hR hM => by
  have hs := run_size w hE.size
  simp [execOp, hR.ev hx, Instr.sliceAt, run_underlying hT.eq, Instr.sureAddr, Instr.sliceBounds, hs, add_mk]
theorem r_cutAH {N : Nat} [hT : HasU P T (.array N E)] {by_ : Nat} [hE : HasI P E 1 by_] {e : Int} (hx : R.ev x = some (.pointer (some ⟨b, o, none⟩))) (hy : R.ev y = some (.int k e)) [hi : NatOf e i] (h : i ≤ N) :
    Res P n (.slice T x none (some y) none) ty R M (.slice (some ⟨b, o, none⟩) i N) := .mk fun a w hR hM => by
  have he := hi.eq
  subst he
  have hs := run_size w hE.size
  simp [execOp, hR.ev hx, hR.ev hy, Instr.sliceAt, run_underlying hT.eq, Instr.sureAddr, Instr.sliceBounds, run_sliceBound, hs, show (0 : Int) ≤ (i : Int) by omega, show (i : Int) ≤ (N : Int) by omega, add_mk]

/-! ### Copies -/
/-- The cells behind a copy. -/
def spl (vs : List Value) (o : Nat) (us : List Value) : List Value := vs.take o ++ (us ++ vs.drop (o + us.length))
theorem X_copy [hT : HasU P T (.slice E)] {by_ : Nat} [hE : HasI P E 1 by_] (hx : R.ev x = some (.slice (some ⟨b, o, none⟩) len cap)) (hy : R.ev y = some (.slice A2 l2 c2)) {T1 : TypeId} [h : Pk b cs (Ch.blk b vs T1) put]
    (hs : ∀ w, Hp w0 S cs w → Rds w A2 c2 k ys) (hn : ys.length = Nat.min l2 len) (hfit : o + ys.length ≤ vs.length) (hd : Nat.blt d n = true)
    (q : X P n ops Q rest ((d, .int .i64 ys.length) :: R) (Hp w0 S (put (Ch.blk b (spl vs o (ys.map (Value.int k))) T1)))) :
    X P n ops Q (⟨some d, .call { callee := .builtin .copy, args := #[x, y], argTypes := #[T, T'] }, ty, pos, af, none⟩ :: rest) R (Hp w0 S cs) := .x fun a w hR hM => by
  have hr := hs w hM
  have hb : w.heap[b]? = some (.cells vs.toArray T1 (0, 0)) := h.has hM
  have hsz : (P.info? E).map (·.size) = some 1 := hE.size
  by_cases h0 : ys.length = 0
  · obtain rfl := List.eq_nil_of_length_eq_zero h0
    refine wpList_copy_nothing rfl x y T T' rfl E hT.eq hsz (some ⟨b, o, none⟩) A2 len cap l2 c2 (hR.ev hx) (hR.ev hy) (by simpa using hn.symm) ?_
    have e : spl vs o ([].map (Value.int k)) = vs := by simp [spl]
    rw [e] at q
    have hback : Hp w0 S (put (Ch.blk b vs T1)) w := h.turn hM (Chg.refl _ _) hb (fun j hj => .inl hj)
    exact q.runX _ w (hR.put hd _) hback
  · have hA := hr.some (by have := hr.le; omega)
    have e1 := hR.ev hy
    rw [hA] at e1
    refine wpList_copy_own rfl x y T T' rfl E hT.eq hsz b o len cap (adOf A2) l2 c2 (hR.ev hx) e1 vs.toArray T1 hb (ys.map (Value.int k)) (by simpa using hn) (fun j u hu => ?_) (by simpa using hfit) oneCell_map ?_
    · have hj : j < ys.length := by
        rcases Nat.lt_or_ge j ys.length with h | h
        · exact h
        · rw [List.getElem?_eq_none (by simpa using h)] at hu; cases hu
      rw [map_getD hj] at hu
      rw [← hu]
      exact hr.at_ j hj
    · have hrow := setRow_heap w b vs.toArray (spl vs o (ys.map (Value.int k))).toArray T1 (0, 0) hb
      have := q.runX (a.put (some d) (.int .i64 ys.length)) (w.setRow b (spl vs o (ys.map (Value.int k))).toArray) (hR.put hd _) (h.turn hM ⟨rfl, rfl, rfl, by simp [World.setRow], fun i hi hs => setRow_other w b i _ (fun e => hs e)⟩ hrow (fun j hj => .inl hj))
      simpa [spl, goInt] using this
end
/-! ### More on memory -/
section
variable {w0 w w' : World} {S : Nat → Prop} {cs : List Ch} {c d : Ch}
theorem Hp.conv (h : Hp w0 S (c :: cs) w) (hd : d.P w) (hf : ∀ k, d.fp k → c.fp k) : Hp w0 S (d :: cs) w := h.turn (Chg.refl _ _) hd (fun k hk => .inl (hf k hk))
theorem Hp.oldblk (h : Hp w0 S cs w) {g : Nat} {o : Obj} (e : w0.heap[g]? = some o) (hs : ¬ S g) : w.heap[g]? = some o := by
  have hlt : g < w0.heap.size := by
    rcases Nat.lt_or_ge g w0.heap.size with h | h
    · exact h
    · rw [Array.getElem?_eq_none h] at e; cases e
  rw [h.chg.block g hlt hs, e]
theorem Hp.ne (h : Hp w0 S (c :: d :: cs) w) {i j : Nat} (hi : c.fp i) (hj : d.fp j) : i ≠ j := fun e => (List.pairwise_cons.1 h.sep).1 d (List.mem_cons_self ..) i hi (by rw [e]; exact hj)
theorem Hp.head (h : Hp w0 S (c :: cs) w) : c.P w := h.sat _ (List.mem_cons_self ..)
theorem Hp.one (h : c.P w) (hs : ∀ k, c.fp k → S k) : Hp w S [c] w :=
  ⟨Chg.refl _ _, fun x hx => by rw [List.mem_singleton.1 hx]; exact h, fun x hx k hk => by rw [List.mem_singleton.1 hx] at hk; exact .inl (hs k hk), .cons (by simp) .nil⟩
theorem old_cut {A : Option Addr} {l m s : Nat} (h : Old S A) : Old S (cutA A l m s) := fun ad e => by
  unfold cutA at e
  split at e
  · exact h ad e
  · cases A with
    | none => cases e
    | some a =>
      injection e with e
      subst e
      rw [add_block]
      exact h a rfl
end
section
variable {P : Program} {n : Nat} {ops : Array Oper} {Q : Exit → Act → World → Prop} {R : Regs} {M M' : World → Prop} {rest : List Oper} {ty T T' E : TypeId} {x y z : Operand} {v u : Value} {k k' : IntKind} {m l : Int} {code : Code} {ex : Exit}
variable {w0 : World} {S : Nat → Prop} {cs : List Ch} {b o i d g : Nat} {c : Ch} {put : Ch → List Ch} {pos : String} {af : Array Edge} {xs ys : List Int} {vs : List Value}
theorem XC_open {ι : Type} (p : ι → Prop) (M' : ι → World → Prop) (h : ∀ w, M w → ∃ i, p i ∧ M' i w) (q : ∀ i, p i → XC P n code Q R (M' i)) : XC P n code Q R M :=
  ⟨fun a w hR hM => let ⟨i, h1, h2⟩ := h w hM; (q i h1).run a w hR h2⟩
theorem X_open {ι : Type} (p : ι → Prop) (M' : ι → World → Prop) (h : ∀ w, M w → ∃ i, p i ∧ M' i w) (q : ∀ i, p i → X P n ops Q rest R (M' i)) : X P n ops Q rest R M :=
  .x fun a w hR hM => let ⟨i, h1, h2⟩ := h w hM; (q i h1).runX a w hR h2
theorem X_mem (hm : ∀ w, M w → M' w) (h : X P n ops Q rest R M') : X P n ops Q rest R M := .x fun a w hR hM => h.runX a w hR (hm w hM)
/-- A result that lies in a variable of its own, an array of whole numbers. -/
theorem XT_retC {fn : Func} {t : Nat} {Rr : Ending → World → Prop} [hA : IsAgg P T true] {s by_ : Nat} [hI : HasI P T s by_] (he : ex = .ret ∨ ex = .normal) (hr : fn.results = #[.cell t T]) (hx : R.get t = some (.pointer (some ⟨b, 0, none⟩))) {T1 : TypeId} [h : Pk b cs (Ch.ints b k xs T1) put] (hl : xs.length = s)
    (q : ∀ w, Hp w0 S cs w → Rr (.returned (.agg (xs.map (Value.int k)).toArray)) w) : XT n (bodyPost P fn Rr) ex R (Hp w0 S cs) := .mk fun a w hR hM => by
  have e : w.heap[b]? = some (.cells (xs.map (Value.int k)).toArray T1 (0, 0)) := h.has hM
  have hs : (P.info? T).map (fun i => i.size) = some (xs.map (Value.int k)).length := by rw [List.length_map, hl]; exact hI.size
  have hrun := run_loadVar_cells (P := P) w ⟨b, 0, none⟩ T (xs.map (Value.int k)) (fun j u hu => by rw [add_mk, Nat.zero_add]; simp only [World.cell?, e, Option.isSome_none, Bool.false_eq_true, if_false, List.getElem?_toArray]; exact hu) hs
  have hres : (results fn a.tmps).run P w = .ok (.agg (xs.map (Value.int k)).toArray) w := by
    have h1 := hR.tmp hx
    simp only [results, hr, Array.mapM_eq_mapM_toList]
    rw [Array.getD_eq_getD_getElem?] at h1
    simp [h1, asAddr, hrun]
  rcases he with rfl | rfl <;> exact ⟨hR.defers, _, hres, q w hM⟩
/-- An aggregate whose parts are known, whatever they are. -/
theorem r_buildX {ps : List (Nat × Operand)} {pv : List (Nat × Value)} (hp : R.evp ps = some pv) (h : ∀ w, (Instr.build T pv.toArray).run P w = .ok v w) : Res P n (.build T ps.toArray) ty R M v := .mk fun a w hR hM => by
  have e := hR.evp hp
  have e2 : ps.toArray.map (fun (x : Nat × Operand) => (x.1, a.eval x.2)) = pv.toArray := by rw [List.map_toArray, e]
  simp only [execOp, Sem.run_bind, e2, h w, Result.andThen_ok, Sem.run_pure]
theorem run_box (v : Value) (w : World) : (Instr.box E v).run P w = .ok (.pointer (some ⟨w.heap.size, 0, none⟩)) (w.alloc (.cells v.cells E)) := by
  simp [Instr.box, newVar, newRow, newObj, Sem.run]
theorem X_boxA (hx : R.ev x = some (.agg vs.toArray)) (hd : Nat.blt d n = true) (q : ∀ g, w0.heap.size ≤ g → X P n ops Q rest ((d, .pointer (some ⟨g, 0, none⟩)) :: R) (Hp w0 S (Ch.blk g vs E :: cs))) :
    X P n ops Q (⟨some d, .box E x, ty, pos, af, none⟩ :: rest) R (Hp w0 S cs) :=
  X_alloc (val := fun g => .pointer (some ⟨g, 0, none⟩)) (new := fun g => Ch.blk g vs E) (fun a w hR hM => ⟨.cells vs.toArray E, by simp only [execOp, hR.ev hx]; rw [Sem.run_bind, run_box]; rfl, heap_alloc_new w _, fun k hk => hk⟩) hd q
theorem X_box1 (hx : R.ev x = some v) (h1 : v.oneCell' = true) (hd : Nat.blt d n = true) (q : ∀ g, w0.heap.size ≤ g → X P n ops Q rest ((d, .pointer (some ⟨g, 0, none⟩)) :: R) (Hp w0 S (Ch.blk g [v] E :: cs))) :
    X P n ops Q (⟨some d, .box E x, ty, pos, af, none⟩ :: rest) R (Hp w0 S cs) :=
  X_alloc (val := fun g => .pointer (some ⟨g, 0, none⟩)) (new := fun g => Ch.blk g [v] E) (fun a w hR hM => ⟨.cells #[v] E, by
    have hc : v.cells = #[v] := by cases v <;> simp_all [Value.cells, Value.oneCell']
    simp only [execOp, hR.ev hx]; rw [Sem.run_bind, run_box, hc]; rfl, heap_alloc_new w _, fun k hk => hk⟩) hd q
theorem madeCells_one (v : Value) (n : Nat) : madeCells #[v] n = Array.replicate n v := by
  apply Array.ext
  · simp [madeCells]
  · intro i h1 h2
    simp [madeCells, Nat.mod_one]
/-- A slice that is made. -/
theorem X_make [hT : HasU P T (.slice E)] {by_ : Nat} [hE : HasI P E 1 by_] [hz : HasZ P E (.int k 0)] {len cap : Nat} {e f : Int} (hx : R.ev x = some (.int k' e)) {k2 : IntKind} (hy : R.ev y = some (.int k2 f)) [hi : NatOf e len] [hj : NatOf f cap] (hlc : len ≤ cap) (hb : by_ * cap ≤ 281474976710656) (hm : cap ≤ 9223372036854775807) (hd : Nat.blt d n = true)
    (q : ∀ g, w0.heap.size ≤ g → X P n ops Q rest ((d, .slice (some ⟨g, 0, none⟩) len cap) :: R) (Hp w0 S (Ch.sl (some ⟨g, 0, none⟩) cap E k (List.replicate len 0) :: cs))) :
    X P n ops Q (⟨some d, .makeSlice T x y, ty, pos, af, none⟩ :: rest) R (Hp w0 S cs) := by
  have he := hi.eq
  have hf := hj.eq
  subst he
  subst hf
  refine X_alloc (val := fun g => .slice (some ⟨g, 0, none⟩) len cap) (new := fun g => Ch.sl (some ⟨g, 0, none⟩) cap E k (List.replicate len 0)) (fun a w hR hM => ⟨.cells (Array.replicate cap (.int k 0)) E, ?_, ?_, fun j hj => ?_⟩) hd q
  · obtain ⟨info, h1, h2, h3⟩ : ∃ info, P.info? E = some info ∧ info.size = 1 ∧ info.bytes = by_ := by
      have := hE.eq
      cases hq : P.info? E with
      | none => simp [hq] at this
      | some i => simp [hq] at this; exact ⟨i, rfl, this.1, this.2⟩
    have hz' : info.zero = some (.int k 0) := by
      have := hz.eq w
      cases hq : info.zero with
      | none => simp [zeroValue, typeInfo, Sem.run_bind, h1, hq, unsupported] at this
      | some z => simp [zeroValue, typeInfo, Sem.run_bind, h1, hq] at this; rw [this]
    have hcb : (info.bytes : Int) * (cap : Int) ≤ 281474976710656 := by
      rw [h3, ← Int.natCast_mul]
      omega
    have hr := run_make (P := P) (w := w) T E info (.int k 0) hT.eq h1 hz' k' k2 (len : Int) (cap : Int) (by omega) (by omega) hcb (by omega)
    simp only [execOp, hR.ev hx, hR.ev hy, Sem.run_bind, hr, Result.andThen_ok, Sem.run_pure]
    simp [h2, Value.cells, madeCells_one]
  · refine ⟨by simp, .inr ⟨w.heap.size, cap, Array.replicate cap (.int k 0), by simp, Nat.zero_le _, heap_alloc_new w _, by simpa using hlc, by unfold maxLen; omega, by simp, ?_⟩⟩
    simp [Nat.min_eq_left hlc]
  · have : some w.heap.size = some j := hj
    injection this with this
    exact this.symm
end
end Go.Proofs.Ytfkhdhdbfejbpaa.MX
