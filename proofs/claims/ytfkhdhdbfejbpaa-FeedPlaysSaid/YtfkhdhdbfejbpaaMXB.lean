/- Elements of several cells: arrays and structs in slices and blocks. No program in sight. -/
import Derived.Test.YtfkhdhdbfejbpaaMXZ
namespace Go.Proofs.Ytfkhdhdbfejbpaa.MX
open Go Go.RowKit
set_option linter.unusedVariables false
set_option linter.unusedSimpArgs false
set_option linter.unusedVariables false
/-- A stretch of cells, stored. -/
theorem storeCells_at {P : Program} {w : World} {b : Nat} {T : TypeId} (vs us pre post : List Value) (h : w.heap[b]? = some (.cells (pre ++ (us ++ post)).toArray T (0, 0))) (hl : vs.length = us.length) (h1 : ∀ v ∈ vs, v.oneCell' = true) :
    ∃ w', (storeCells ⟨b, pre.length, none⟩ vs 0).run P w = .ok () w' ∧ w'.heap[b]? = some (.cells (pre ++ (vs ++ post)).toArray T (0, 0)) ∧ Chg (fun k => k = b) w w' := by
  have key : ∀ (r p : List Value) (w1 : World) (q : List Value), Chg (fun k => k = b) w w1 → w1.heap[b]? = some (.cells (pre ++ (p ++ (q ++ post))).toArray T (0, 0)) → q.length = r.length → (∀ v ∈ r, v.oneCell' = true) →
      ∃ w', (storeCells ⟨b, pre.length, none⟩ r p.length).run P w1 = .ok () w' ∧ w'.heap[b]? = some (.cells (pre ++ (p ++ (r ++ post))).toArray T (0, 0)) ∧ Chg (fun k => k = b) w w' := by
    intro r
    induction r with
    | nil =>
      intro p w1 q hc hb hq _
      have : q = [] := List.eq_nil_of_length_eq_zero hq
      subst this
      exact ⟨w1, by simp [storeCells], hb, hc⟩
    | cons v r ih =>
      intro p w1 q hc hb hq h1
      cases q with
      | nil => simp at hq
      | cons u q =>
        have hcell : w1.cell? ((⟨b, pre.length, none⟩ : Addr).add p.length) = some u := by rw [add_mk]; simp [World.cell?, hb, List.getElem?_append_right]
        have hfr : w1.frozen? ((⟨b, pre.length, none⟩ : Addr).add p.length) = false := by rw [add_mk]; simp [World.frozen?, hb]
        have hv := h1 v (List.mem_cons_self ..)
        have hrun : (store ((⟨b, pre.length, none⟩ : Addr).add p.length) v).run P w1 = .ok () (w1.setCell ((⟨b, pre.length, none⟩ : Addr).add p.length) v) := by
          unfold store
          cases v <;> simp_all [Sem.run, Value.oneCell']
        have hb2 : (w1.setCell ((⟨b, pre.length, none⟩ : Addr).add p.length) v).heap[b]? = some (.cells (pre ++ ((p ++ [v]) ++ (q ++ post))).toArray T (0, 0)) := by
          rw [add_mk, heap_setCell_same _ _ _ _ _ _ hb]
          simp [List.set_append_right]
        obtain ⟨w', r1, r2, r3⟩ := ih (p ++ [v]) _ q (hc.set (a := (⟨b, pre.length, none⟩ : Addr).add p.length) (fun _ => by rw [add_block]) v) hb2 (by simpa using hq) (fun x hx => h1 x (List.mem_cons_of_mem _ hx))
        refine ⟨w', ?_, by simpa using r2, r3⟩
        simp only [storeCells, Sem.run_bind, hrun, Result.andThen_ok]
        simpa using r1
  have := key vs [] w us (Chg.refl _ _) (by simpa using h) hl.symm h1
  simpa using this
/-- Where the i-th element's cells lie. -/
theorem flat_split {L : List (List Value)} {i s : Nat} {us : List Value} (hL : ∀ x ∈ L, x.length = s) (hi : L[i]? = some us) : ∃ pre post, L.flatten = pre ++ (us ++ post) ∧ pre.length = i * s ∧ ∀ vs, (L.set i vs).flatten = pre ++ (vs ++ post) := by
  obtain ⟨h1, h2⟩ := List.getElem?_eq_some_iff.1 hi
  have hsum : ∀ (M : List (List Value)), (∀ x ∈ M, x.length = s) → M.flatten.length = M.length * s := by
    intro M
    induction M with
    | nil => intro _; simp
    | cons x M ih =>
      intro h
      rw [List.flatten_cons, List.length_append, ih (fun y hy => h y (List.mem_cons_of_mem _ hy)), h x (List.mem_cons_self ..), List.length_cons, Nat.add_mul, Nat.one_mul, Nat.add_comm]
  have hL' : L = L.take i ++ us :: L.drop (i + 1) := by rw [← h2, ← List.drop_eq_getElem_cons h1, List.take_append_drop]
  refine ⟨(L.take i).flatten, (L.drop (i + 1)).flatten, ?_, ?_, fun vs => ?_⟩
  · have := congrArg List.flatten hL'
    rw [List.flatten_append, List.flatten_cons] at this
    exact this
  · rw [hsum _ (fun x hx => hL x (List.mem_of_mem_take hx)), List.length_take, Nat.min_eq_left (Nat.le_of_lt h1)]
  · rw [List.set_eq_take_append_cons_drop, if_pos h1, List.flatten_append, List.flatten_cons]
theorem fold_set : ∀ (us : List Value) (off k : Nat) (cells : Array Value), off + k + us.length ≤ cells.size →
    ((us.zipIdx k).foldl (fun cs (x : Value × Nat) => cs.setIfInBounds (off + x.2) x.1) cells).toList = cells.toList.take (off + k) ++ (us ++ cells.toList.drop (off + k + us.length))
  | [], off, k, cells, h => by simp
  | u :: us, off, k, cells, h => by
    rw [List.length_cons] at h
    rw [List.zipIdx_cons, List.foldl_cons, fold_set us off (k + 1) _ (by simp; omega)]
    have hlt : off + k < cells.toList.length := by simp; omega
    have e1 : (cells.toList.set (off + k) u).take (off + (k + 1)) = cells.toList.take (off + k) ++ [u] := by
      rw [show off + (k + 1) = off + k + 1 by omega, List.take_set, List.take_succ_eq_append_getElem hlt, List.set_append_right _ _ (by simp; omega)]
      simp [Nat.min_eq_left (Nat.le_of_lt (show off + k < cells.size by omega))]
    rw [Array.toList_setIfInBounds, e1, List.drop_set_of_lt (by omega)]
    simp [Nat.add_assoc, Nat.add_comm 1, Nat.add_left_comm]
theorem fill_one {place : Nat → Option (Nat × Nat)} {i off : Nat} {v : Value} {us : List Value} {cells : Array Value} {rest : List (Nat × Value)} (hp : place i = some (off, us.length)) (hv : v.cells = us.toArray) (hf : off + us.length ≤ cells.size) :
    Instr.fill place cells ((i, v) :: rest) = Instr.fill place (cells.toList.take off ++ (us ++ cells.toList.drop (off + us.length))).toArray rest := by
  have hc : (us.toArray.size ≠ us.length || off + us.toArray.size > cells.size) = false := by simp; omega
  have hfold : us.toArray.zipIdx.foldl (fun cs (x : Value × Nat) => cs.setIfInBounds (off + x.2) x.1) cells = (cells.toList.take off ++ (us ++ cells.toList.drop (off + us.length))).toArray := by
    have := fold_set us off 0 cells (by omega)
    rw [← Array.toList_inj]
    simpa using this
  simp only [Instr.fill, hp, hv]
  rw [hc]
  simp only [Bool.false_eq_true, if_false]
  rw [← hfold]
section
variable {P : Program} {n : Nat} {ops : Array Oper} {md : Md} {Q : Exit → Act → World → Prop} {R : Regs} {rest : List Oper} {ty E T T' : TypeId} {w0 : World} {S : Nat → Prop} {cs : List Ch} {d g : Nat} {pos : String} {af : Array Edge} {tys : Array TypeId} {k k' : IntKind} {v : Value} {x y : Operand} {A A2 : Option Addr} {len cap i o s l : Nat} {put : Ch → List Ch} {M : World → Prop}
/-- A stretch of an owned row, stored. -/
theorem X_storeP {by_ : Nat} [hI : HasI P T s by_] {cap' : Nat} {e' : TypeId} {s' : Nat} {vs us us' pre post : List Value} (hx : R.ev x = some (.pointer (some ⟨blkOf A, o, none⟩))) (hy : R.ev y = some (.agg us'.toArray)) [h : PkV A cs cap' e' s' l vs put]
    (hs : us'.length = s) (hu : us.length = us'.length) (h1 : ∀ v ∈ us', v.oneCell' = true) (hv : vs = pre ++ (us ++ post)) (ho : pre.length = o) (h0 : 0 < us.length)
    (q : X P n ops Q rest R (Hp w0 S (put (Ch.sv A cap' e' s' l (pre ++ (us' ++ post)))))) : X P n ops Q (⟨none, .store T x y, ty, pos, af, none⟩ :: rest) R (Hp w0 S cs) :=
  X_step (dst := none) (M' := Hp w0 S (put (Ch.sv A cap' e' s' l (pre ++ (us' ++ post))))) (fun a w hR hM => by
    subst hv
    subst ho
    have h0' := h.has hM
    have hl := sv_len h0'
    have hc := sv_cap h0'
    have hl0 : 0 < l := by
      rcases Nat.eq_zero_or_pos l with h2 | h2
      · rw [h2, Nat.zero_mul] at hl
        simp only [List.length_append] at hl
        omega
      · exact h2
    have ha := sv_addr h0' (by omega)
    obtain ⟨cur, g1, g2, g3⟩ := sv_at h0' (by omega)
    obtain ⟨D, hD⟩ : ∃ D, D = cur.toList.drop (l * s') := ⟨_, rfl⟩
    have hcl : cur.toList = pre ++ (us ++ (post ++ D)) := by
      have := List.take_append_drop (l * s') cur.toList
      rw [g3, ← hD] at this
      rw [← this]
      simp
    have hcur : cur = (pre ++ (us ++ (post ++ D))).toArray := by rw [← hcl]
    rw [hcur] at g1
    obtain ⟨w', r1, r2, r3⟩ := storeCells_at (P := P) us' us pre _ g1 hu.symm h1
    refine ⟨w', ?_, h.turn hM ⟨r3.os, r3.tape, r3.output, r3.size, fun j hj hk => r3.block j hj (fun e => hk ?_)⟩ ?_ (fun j hj => .inl (by cases A <;> exact hj))⟩
    · simp [execOp, hR.ev hx, hR.ev hy, run_storeAgg hs r1]
    · show Value.ownBlock _ = _
      rw [ha, e]
      rfl
    · refine ⟨by rw [← hl]; simp [hu], .inr ⟨blkOf A, cap', _, by rw [← ha], Nat.zero_le _, r2, hc.1, by unfold maxLen; omega, ?_, ?_⟩⟩
      · have e1 := congrArg Array.size hcur
        rw [g2] at e1
        rw [e1]
        simp [hu]
      · have e2 : l * s' = (pre ++ (us' ++ post)).length := by rw [← hl]; simp [hu]
        have e3 : pre ++ (us' ++ (post ++ D)) = (pre ++ (us' ++ post)) ++ D := by simp
        rw [e2, e3, List.toList_toArray, List.take_left]) q
/-- A stretch of a block, stored. -/
theorem X_storePB {by_ : Nat} [hI : HasI P T s by_] {vs us us' pre post : List Value} {T1 : TypeId} (hx : R.ev x = some (.pointer (some ⟨g, o, none⟩))) (hy : R.ev y = some (.agg us'.toArray)) [h : Pk g cs (Ch.blk g vs T1) put]
    (hs : us'.length = s) (hu : us.length = us'.length) (h1 : ∀ v ∈ us', v.oneCell' = true) (hv : vs = pre ++ (us ++ post)) (ho : pre.length = o)
    (q : X P n ops Q rest R (Hp w0 S (put (Ch.blk g (pre ++ (us' ++ post)) T1)))) : X P n ops Q (⟨none, .store T x y, ty, pos, af, none⟩ :: rest) R (Hp w0 S cs) :=
  X_step (dst := none) (M' := Hp w0 S (put (Ch.blk g (pre ++ (us' ++ post)) T1))) (fun a w hR hM => by
    subst hv
    subst ho
    obtain ⟨w', r1, r2, r3⟩ := storeCells_at (P := P) us' us pre post (h.has hM) hu.symm h1
    refine ⟨w', ?_, h.turn hM r3 r2 (fun j hj => .inl hj)⟩
    simp [execOp, hR.ev hx, hR.ev hy, run_storeAgg hs r1]) q
theorem mid_get {pre us post : List Value} {j : Nat} {v : Value} (h : us[j]? = some v) : (pre ++ (us ++ post))[pre.length + j]? = some v := by
  have hj := (List.getElem?_eq_some_iff.1 h).1
  rw [List.getElem?_append_right (by omega), Nat.add_sub_cancel_left, List.getElem?_append_left hj, h]
/-- A stretch of an owned row, loaded. -/
theorem r_loadP [hA : IsAgg P T true] {by_ : Nat} [hI : HasI P T s by_] {cap' : Nat} {e' : TypeId} {s' : Nat} {vs us pre post : List Value} (hx : R.ev x = some (.pointer (some ⟨blkOf A, o, none⟩))) [h : PkV A cs cap' e' s' l vs put] (hs : us.length = s) (hv : vs = pre ++ (us ++ post)) (ho : pre.length = o) :
    Res P n (.load T x) ty R (Hp w0 S cs) (.agg us.toArray) := r_loadA hx hs (fun w hM j v hj => by
  subst hv
  subst ho
  rw [add_mk]
  exact sv_cell (h.has hM) (mid_get hj))
theorem r_loadPB [hA : IsAgg P T true] {by_ : Nat} [hI : HasI P T s by_] {vs us pre post : List Value} {T1 : TypeId} (hx : R.ev x = some (.pointer (some ⟨g, o, none⟩))) [h : Pk g cs (Ch.blk g vs T1) put] (hs : us.length = s) (hv : vs = pre ++ (us ++ post)) (ho : pre.length = o) :
    Res P n (.load T x) ty R (Hp w0 S cs) (.agg us.toArray) := r_loadA hx hs (fun w hM j v hj => by
  subst hv
  subst ho
  rw [add_mk]
  have e : w.heap[g]? = some (.cells (pre ++ (us ++ post)).toArray T1 (0, 0)) := h.has hM
  simp only [World.cell?, e]
  have := mid_get (pre := pre) (post := post) hj
  simpa using this)
/-- The i-th element of a row, stored, loaded. -/
theorem X_storeF {by_ : Nat} [hI : HasI P T s by_] {cap' : Nat} {e' : TypeId} {L : List (List Value)} {us us' : List Value} (hx : R.ev x = some (.pointer (some ⟨blkOf A, i * s, none⟩))) (hy : R.ev y = some (.agg us'.toArray)) [h : PkV A cs cap' e' s l L.flatten put]
    (hs : us'.length = s) (h1 : ∀ v ∈ us', v.oneCell' = true) (hL : ∀ x ∈ L, x.length = s) (hi : L[i]? = some us) (h0 : 0 < s)
    (q : X P n ops Q rest R (Hp w0 S (put (Ch.sv A cap' e' s l (L.set i us').flatten)))) : X P n ops Q (⟨none, .store T x y, ty, pos, af, none⟩ :: rest) R (Hp w0 S cs) := by
  obtain ⟨pre, post, e1, e2, e3⟩ := flat_split hL hi
  have hul := hL us (List.mem_of_getElem? hi)
  rw [e3 us'] at q
  exact X_storeP hx hy hs (by omega) h1 e1 e2 (by omega) q
theorem r_loadF [hA : IsAgg P T true] {by_ : Nat} [hI : HasI P T s by_] {cap' : Nat} {e' : TypeId} {L : List (List Value)} {us : List Value} (hx : R.ev x = some (.pointer (some ⟨blkOf A, i * s, none⟩))) [h : PkV A cs cap' e' s l L.flatten put] (hL : ∀ x ∈ L, x.length = s) (hi : L[i]? = some us) :
    Res P n (.load T x) ty R (Hp w0 S cs) (.agg us.toArray) := by
  obtain ⟨pre, post, e1, e2, _⟩ := flat_split hL hi
  exact r_loadP hx (hL us (List.mem_of_getElem? hi)) e1 e2
theorem X_makeF [hT : HasU P T (.slice E)] {by_ : Nat} [hE : HasI P E s by_] {zv u : Value} [hz : HasZ P E zv] {e f : Int} (hx : R.ev x = some (.int k' e)) {k2 : IntKind} (hy : R.ev y = some (.int k2 f)) [hi : NatOf e len] [hj : NatOf f len] (hz1 : zv.cells = (List.replicate s u).toArray) (h0 : 0 < s) (hb : by_ * len ≤ 281474976710656) (hm : len ≤ 9223372036854775807) (hd : Nat.blt d n = true)
    (q : ∀ g, w0.heap.size ≤ g → X P n ops Q rest ((d, .slice (some ⟨g, 0, none⟩) len len) :: R) (Hp w0 S (Ch.sv (some ⟨g, 0, none⟩) len E s len (List.replicate len (List.replicate s u)).flatten :: cs))) :
    X P n ops Q (⟨some d, .makeSlice T x y, ty, pos, af, none⟩ :: rest) R (Hp w0 S cs) := by
  have he := hi.eq
  have hf := hj.eq
  subst he
  subst hf
  have hmc : ∀ m, (madeCells (List.replicate s u).toArray m).toList = List.replicate m u := fun m => by
    have : ∀ j : Nat, (List.replicate s u).toArray[j % (List.replicate s u).toArray.size]! = u := fun j => by
      have hlt : j % s < s := Nat.mod_lt _ h0
      simp [hlt]
    simp only [madeCells, this]
    simp [List.map_const']
  refine X_alloc (val := fun g => .slice (some ⟨g, 0, none⟩) len len) (new := fun g => Ch.sv (some ⟨g, 0, none⟩) len E s len (List.replicate len (List.replicate s u)).flatten) (fun a w hR hM => ⟨.cells (madeCells (List.replicate s u).toArray (len * s)) E, ?_, ?_, fun j hj => ?_⟩) hd q
  · obtain ⟨info, h1, h2, h3⟩ := info_of hE
    have hz' := zero_of hz h1
    have hcb : (info.bytes : Int) * (len : Int) ≤ 281474976710656 := by
      rw [h3, ← Int.natCast_mul]
      omega
    have hr := run_make (P := P) (w := w) T E info zv hT.eq h1 hz' k' k2 (len : Int) (len : Int) (by omega) (by omega) hcb (by omega)
    simp only [execOp, hR.ev hx, hR.ev hy, Sem.run_bind, hr, Result.andThen_ok, Sem.run_pure]
    rw [h2, hz1, Int.toNat_natCast]
  · refine ⟨by simp, .inr ⟨w.heap.size, len, _, rfl, Nat.zero_le _, heap_alloc_new w _, Nat.le_refl _, by unfold maxLen; omega, by rw [size_madeCells], ?_⟩⟩
    rw [hmc, List.flatten_replicate_replicate, List.take_of_length_le (by simp)]
  · have : some w.heap.size = some j := hj
    injection this with this
    exact this.symm
/-- One array or struct, written out as a slice. -/
theorem X_buildF1 [hT : HasU P T (.slice E)] {by_ : Nat} [hE : HasI P E s by_] {zv : Value} [hz : HasZ P E zv] {us : List Value} (hx : R.ev x = some (.agg us.toArray)) (hs : us.length = s) (hzs : zv.cells.size = s) (h0 : 0 < s) (hsb : s ≤ 100000) (hd : Nat.blt d n = true)
    (q : ∀ g, w0.heap.size ≤ g → X P n ops Q rest ((d, .slice (some ⟨g, 0, none⟩) 1 1) :: R) (Hp w0 S (Ch.blk g us E :: cs))) :
    X P n ops Q (⟨some d, .buildSlice T 1 #[(0, x)], ty, pos, af, none⟩ :: rest) R (Hp w0 S cs) :=
  X_alloc (val := fun g => .slice (some ⟨g, 0, none⟩) 1 1) (new := fun g => Ch.blk g us E) (fun a w hR hM => ⟨.cells us.toArray E, by
    have h1 := run_size w hE.size
    have hf := fill_one (place := fun i => some (i * s, s)) (i := 0) (off := 0) (v := .agg us.toArray) (us := us) (cells := (Array.range (1 * s)).map (zv.cells[· % zv.cells.size]!)) (rest := []) (by simp [hs]) rfl (by simp [hs])
    have hbig : ¬ (16777216 < s) := by omega
    have hs0 : s ≠ 0 := by omega
    have hfin : (((Array.range (1 * s)).map (zv.cells[· % zv.cells.size]!)).toList.take 0 ++ (us ++ ((Array.range (1 * s)).map (zv.cells[· % zv.cells.size]!)).toList.drop (0 + us.length))).toArray = us.toArray := by
      rw [List.drop_eq_nil_of_le (by simp [hs])]
      simp
    rw [hfin] at hf
    simp only [Nat.one_mul] at hf
    simp only [execOp]
    rw [Sem.run_bind]
    have hrun : (Instr.buildSlice T 1 #[(0, a.eval x)]).run P w = .ok (.slice (some ⟨w.heap.size, 0, none⟩) 1 1) (w.alloc (.cells us.toArray E)) := by
      rw [hR.ev hx]
      simp only [Instr.buildSlice, Sem.run_bind, run_underlying hT.eq, Result.andThen_ok, h1, Nat.one_mul]
      simp [hbig, hs0, hz.eq w] at hf ⊢
      rw [hf]
      simp [Instr.fill, newRow, newObj, Sem.run]
    rw [show (#[(0, x)] : Array (Nat × Operand)).map (fun (x : Nat × Operand) => (x.1, a.eval x.2)) = #[(0, a.eval x)] from by simp, hrun]
    rfl, heap_alloc_new w _, fun k hk => hk⟩) hd q
theorem run_build {fs : Array Field} {places : Array (Nat × Nat)} {z : Value} [hz : HasZ P T z] (hu : P.underlying T = some (.struct fs)) (hp : ∀ w, (fs.mapM (fun f => do pure (f.offset, ← sizeOf f.type) : Field → Sem (Nat × Nat))).run P w = .ok places w) {parts : Array (Nat × Value)} {cells : Array Value}
    (hf : Instr.fill (places[·]?) z.cells parts.toList = some cells) (w : World) : (Instr.build T parts).run P w = .ok (.agg cells) w := by
  simp only [Instr.build, Sem.run_bind, hz.eq w, Result.andThen_ok, run_underlying hu, hp w, hf, Sem.run_pure]
/-- A struct of two parts, written out. -/
theorem r_build2 {fs : Array Field} {z u1 u2 : Value} {us1 us2 : List Value} [hz : HasZ P T z] (hu : P.underlying T = some (.struct fs)) (hx : R.ev x = some u1) (hy : R.ev y = some u2) (h1 : u1.cells = us1.toArray) (h2 : u2.cells = us2.toArray) {n1 n2 : Nat} (hn1 : us1.length = n1) (hn2 : us2.length = n2)
    (hp : ∀ w, (fs.mapM (fun f => do pure (f.offset, ← sizeOf f.type) : Field → Sem (Nat × Nat))).run P w = .ok #[(0, n1), (n1, n2)] w) (hzs : z.cells.size = n1 + n2) :
    Res P n (.build T #[(0, x), (1, y)]) ty R M (.agg (us1 ++ us2).toArray) := .mk fun a w hR hM => by
  subst hn1
  subst hn2
  have hf : Instr.fill (fun j => (#[(0, us1.length), (us1.length, us2.length)] : Array (Nat × Nat))[j]?) z.cells [(0, u1), (1, u2)] = some (us1 ++ us2).toArray := by
    rw [fill_one (off := 0) (us := us1) rfl h1 (by omega)]
    rw [fill_one (off := us1.length) (us := us2) rfl h2 (by simp; omega)]
    simp only [Instr.fill, List.take_zero, List.nil_append, Nat.zero_add, List.toList_toArray]
    rw [List.take_left, List.drop_eq_nil_of_le (by simp; omega), List.append_nil]
  have hr := run_build (P := P) (T := T) (z := z) hu hp (parts := #[(0, u1), (1, u2)]) hf w
  simp only [execOp, Sem.run_bind]
  rw [show (#[(0, x), (1, y)] : Array (Nat × Operand)).map (fun (x : Nat × Operand) => (x.1, a.eval x.2)) = #[(0, u1), (1, u2)] from by simp [hR.ev hx, hR.ev hy], hr]
  simp
/-- A whole row, copied over another one. -/
theorem X_copyF [hT : HasU P T (.slice E)] {by_ : Nat} [hE : HasI P E s by_] {cap' c2 : Nat} {e' : TypeId} {vs ys : List Value} (hx : R.ev x = some (.slice A l cap)) (hy : R.ev y = some (.slice A2 l c2)) [h : PkV A cs cap' e' s l vs put]
    (hr : ∀ w, Hp w0 S cs w → RdV w A2 c2 s l ys) (h1 : ∀ v ∈ ys, v.oneCell' = true) (h0 : 0 < l) (hd : Nat.blt d n = true)
    (q : X P n ops Q rest ((d, .int .i64 l) :: R) (Hp w0 S (put (Ch.sv A cap' e' s l ys)))) :
    X P n ops Q (⟨some d, .call { callee := .builtin .copy, args := #[x, y], argTypes := #[T, T'] }, ty, pos, af, none⟩ :: rest) R (Hp w0 S cs) := .x fun a w hR hM =>
  wpList_plain rfl fun _ hK => by
    have g0 := h.has hM
    have r0 := hr w hM
    have hc := sv_cap g0
    have hvl := sv_len g0
    have ha := sv_addr g0 (by omega)
    have ha2 := r0.some (by have := r0.le; omega)
    obtain ⟨cur, g1, g2, g3⟩ := sv_at g0 (by omega)
    obtain ⟨D, hD⟩ : ∃ D, D = cur.toList.drop (l * s) := ⟨_, rfl⟩
    have hcl : cur.toList = vs ++ D := by
      have := List.take_append_drop (l * s) cur.toList
      rw [g3, ← hD] at this
      exact this.symm
    have hcur : cur = ([] ++ (vs ++ D)).toArray := by rw [List.nil_append, ← hcl]
    rw [hcur] at g1
    obtain ⟨w', r1, r2, r3⟩ := storeCells_at (P := P) ys vs [] D g1 (by have := r0.len; omega) h1
    have hs := run_size w hE.size
    have hfc := run_firstCells_some (P := P) (w := w) s l (adOf A2) l c2 ys r0.len (fun j v hj => r0.at_ j v hj)
    rw [← ha2] at hfc
    have hrun : (Builtin.copy_ #[T, T'] ty #[.slice A l cap, .slice A2 l c2]).run P w = .ok (.int .i64 l) w' := by
      rw [ha]
      simp [Builtin.copy_, run_underlying hT.eq, Builtin.lenOf, hs, hfc, Nat.min_self]
      have r1' : (storeCells ⟨blkOf A, 0, none⟩ ys 0).run P w = .ok () w' := r1
      simp [r1', goInt]
    unfold Oper.wp
    rw [execOp_of]
    simp only [execOp, resolve, invoke, builtin, Sem.run_bind, Sem.run_pure, Result.andThen_ok, List.map_toArray, List.map_cons, List.map_nil, hR.ev hx, hR.ev hy, hrun]
    refine hK _ _ (q.runX _ w' (hR.put hd _) (h.turn hM ⟨r3.os, r3.tape, r3.output, r3.size, fun j hj hk => r3.block j hj (fun e => hk ?_)⟩ ?_ (fun j hj => .inl (by cases A <;> exact hj))))
    · show Value.ownBlock _ = _
      rw [ha, e]
      rfl
    · refine ⟨r0.len, .inr ⟨blkOf A, cap', _, by rw [← ha], Nat.zero_le _, r2, hc.1, by unfold maxLen; omega, ?_, ?_⟩⟩
      · have e1 := congrArg Array.size hcur
        have := r0.len
        rw [g2] at e1
        rw [e1]
        simp
        omega
      · have e2 : l * s = ys.length := r0.len.symm
        rw [e2, List.nil_append, List.toList_toArray, List.take_left]
/-- A slice as an array's address. -/
theorem r_arrp {N : Nat} [hT : HasU P T (.array N E)] {ad : Addr} (hx : R.ev x = some (.slice (some ad) len cap)) (hl : N ≤ len) : Res P n (.sliceToArrayPointer T x) ty R M (.pointer (some ad)) := .mk fun a w hR hM => by
  simp [execOp, hR.ev hx, Instr.arrayAt, run_underlying hT.eq, show ¬ len < N by omega]
end
end Go.Proofs.Ytfkhdhdbfejbpaa.MX
