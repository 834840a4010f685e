/- Bytes as texts, and texts compared. No program in sight. -/
import Derived.Test.YtfkhdhdbfejbpaaMXZ
import Derived.Test.YtfkhdhdbfejbpaaMXB
import Derived.Laws.BytesString
import Derived.Lib.SlicesS
namespace Go.Proofs.Ytfkhdhdbfejbpaa.MX
open Go Go.RowKit
set_option linter.unusedVariables false
set_option linter.unusedSimpArgs false
set_option linter.unusedVariables false
/-- The text of these bytes. -/
def strOf (xs : List Int) : ByteArray := xs.foldl (fun r n => r.push (UInt8.ofNat n.toNat)) ByteArray.empty
theorem fold_data : ∀ (xs : List Int) (s : ByteArray), (xs.foldl (fun r n => r.push (UInt8.ofNat n.toNat)) s).data = s.data ++ (xs.map (fun n => UInt8.ofNat n.toNat)).toArray
  | [], s => by simp
  | x :: xs, s => by
    rw [List.foldl_cons, fold_data xs]
    simp [ByteArray.push]
theorem strOf_data (xs : List Int) : (strOf xs).data = (xs.map (fun n => UInt8.ofNat n.toNat)).toArray := by
  rw [strOf, fold_data, show ByteArray.empty.data = #[] from rfl]
  simp
theorem strOf_size (xs : List Int) : (strOf xs).size = xs.length := by
  show (strOf xs).data.size = _
  rw [strOf_data]
  simp
theorem byte_inj {x y : Int} (hx : 0 ≤ x ∧ x < 256) (hy : 0 ≤ y ∧ y < 256) (h : UInt8.ofNat x.toNat = UInt8.ofNat y.toNat) : x = y := by
  have h1 := congrArg UInt8.toNat h
  simp only [UInt8.toNat_ofNat'] at h1
  omega
theorem strOf_inj : ∀ {xs ys : List Int}, (∀ x ∈ xs, 0 ≤ x ∧ x < 256) → (∀ y ∈ ys, 0 ≤ y ∧ y < 256) → strOf xs = strOf ys → xs = ys := by
  intro xs ys hx hy h
  have h1 := congrArg ByteArray.data h
  rw [strOf_data, strOf_data] at h1
  have h2 := congrArg Array.toList h1
  simp only at h2
  clear h h1
  induction xs generalizing ys with
  | nil => cases ys with
    | nil => rfl
    | cons y ys => simp at h2
  | cons x xs ih => cases ys with
    | nil => simp at h2
    | cons y ys =>
      simp only [List.map_cons, List.cons.injEq] at h2
      rw [byte_inj (hx x (by simp)) (hy y (by simp)) h2.1, ih (fun z hz => hx z (by simp [hz])) (fun z hz => hy z (by simp [hz])) h2.2]
theorem strOf_dec {xs ys : List Int} (hx : ∀ x ∈ xs, 0 ≤ x ∧ x < 256) (hy : ∀ y ∈ ys, 0 ≤ y ∧ y < 256) : decide (strOf xs = strOf ys) = decide (xs = ys) := by
  by_cases h : xs = ys
  · rw [decide_eq_true h, decide_eq_true (by rw [h])]
  · rw [decide_eq_false h, decide_eq_false (fun e => h (strOf_inj hx hy e))]
theorem beq_decB (x y : ByteArray) : (x.toList == y.toList) = decide (x = y) := by
  by_cases h : x = y
  · rw [decide_eq_true h]; exact (Lib.bytes_beq_iff x y).2 h
  · rw [decide_eq_false h]; exact (Lib.bytes_beq_false_iff x y).2 h
section
variable {P : Program} {n : Nat} {R : Regs} {M : World → Prop} {ty T T' E : TypeId} {x y : Operand} {A : Option Addr} {c : Nat} {xs : List Int}
theorem run_convBS [hT : HasU P T (.slice E)] [hE : HasU P E (.int .u8)] [hT' : HasU P T' .string] {w : World} (h : Rds w A c .u8 xs) : (convert T T' (.slice A xs.length c)).run P w = .ok (.string (strOf xs)) w := by
  rw [run_convert_bytes_string w T T' E A xs.length c hT.eq hE.eq hT'.eq]
  cases A with
  | none =>
    have h0 := h.nil rfl
    have h1 := h.le
    obtain rfl : xs = [] := List.length_eq_zero_iff.1 (by omega)
    rfl
  | some a =>
    refine run_bytesToString w a xs.length c xs ?_
    have hc : ∀ j v, (xs.map (Value.int .u8))[j]? = some v → w.cell? (a.add j) = some v := fun j v hv => h.toV.at_ j v hv
    have hl := run_loadCells_list (P := P) w a (xs.map (Value.int .u8)) hc
    rwa [List.length_map] at hl
/-- Bytes as a text. -/
theorem r_convBS [hT : HasU P T (.slice E)] [hE : HasU P E (.int .u8)] [hT' : HasU P T' .string] (hx : R.ev x = some (.slice A xs.length c)) (h : ∀ w, M w → Rds w A c .u8 xs) : Res P n (.convert T T' x) ty R M (.string (strOf xs)) :=
  .mk fun a w hR hM => by simp [execOp, hR.ev hx, run_convBS (h w hM)]
theorem r_eqlT {p q : ByteArray} (hx : R.ev x = some (.string p)) (hy : R.ev y = some (.string q)) : Res P n (.binOp .eql T x y T') ty R M (.bool (decide (p = q))) :=
  ⟨fun a w hR hM => by simp [execOp, hR.ev hx, hR.ev hy, eqGuard_str, binOp, Op.stringOp, beq_decB]⟩
theorem r_neqT {p q : ByteArray} (hx : R.ev x = some (.string p)) (hy : R.ev y = some (.string q)) : Res P n (.binOp .neq T x y T') ty R M (.bool (decide (p ≠ q))) :=
  ⟨fun a w hR hM => by simp [execOp, hR.ev hx, hR.ev hy, eqGuard_str, binOp, Op.stringOp, beq_decB]⟩
end
section
variable {P : Program} {n : Nat} {ops : Array Oper} {rest : List Oper} {Q : Exit → Act → World → Prop} {R : Regs} {ty T T' E : TypeId} {x y : Operand} {w0 : World} {S : Nat → Prop} {cs : List Ch} {pos : String} {af : Array Edge} {d : Nat} {k' : IntKind}
/-- So many empty elements, appended to nothing. -/
theorem X_appendZV {by_ : Nat} {kn : IntKind} {zv : Value} [hT : HasU P T (.slice E)] [hT' : HasU P T' (.int kn)] [hE : HasI P E 1 by_] [hz : HasZ P E zv] (hz1 : zv.cells = #[zv]) {e : Int} {m : Nat} (hx : R.ev x = some (.slice none 0 0)) (hy : R.ev y = some (.int k' e)) (he : e = (m : Int)) (h0 : 0 < m) (hb : m * by_ ≤ 281474976710656) (hm : m ≤ 9223372036854775807) (hd : Nat.blt d n = true)
    (q : ∀ go cap', X P n ops Q rest ((d, .slice (some ⟨go, 0, none⟩) m cap') :: R) (Hp w0 S (Ch.sv (some ⟨go, 0, none⟩) cap' E 1 m (List.replicate m zv) :: cs))) :
    X P n ops Q (⟨some d, .call { callee := .builtin .append, args := #[x, y], argTypes := #[T, T'] }, ty, pos, af, none⟩ :: rest) R (Hp w0 S cs) := .x fun a w hR hM =>
  wpList_plain rfl fun _ hK => by
    subst he
    obtain ⟨info, hi, hi1, hi2⟩ := info_of hE
    have hz' : info.zero = some zv := zero_of hz hi
    have hrun := Go.Lib.run_append_nil_zeros (P := P) w T T' ty E info zv k' kn hT.eq hT'.eq hi hz' m h0 (by omega) (by omega) (by rw [hi2]; exact hb)
    have hge := grownCap_ge w m 0 E
    have hle := grownCap_le_maxLen w m 0 E (by unfold maxLen; omega)
    unfold Oper.wp
    rw [execOp_of]
    simp only [execOp, resolve, invoke, builtin, Sem.run_bind, Sem.run_pure, Result.andThen_ok, List.map_toArray, List.map_cons, List.map_nil, hR.ev hx, hR.ev hy, hrun]
    have e0 : ∀ m : Nat, (Builtin.zeroCells zv.cells m).toList = List.replicate m zv := fun m => by
      have e2 : ∀ i : Nat, [zv][i % 1]?.getD default = zv := fun i => by rw [Nat.mod_one]; rfl
      simp [Builtin.zeroCells, hz1, e2, List.map_const']
    refine hK _ _ ((q w.heap.size (grownCap w m 0 E)).runX _ _ (hR.put hd _) ?_)
    refine (hM.drewN 1).add ((Chg.refl _ _).alloc _) ?_ (fun j hj => ?_)
    · refine ⟨by simp, .inr ⟨w.heap.size, grownCap w m 0 E, _, rfl, Nat.zero_le _, heap_alloc_new _ _, hge, hle, ?_, ?_⟩⟩
      · have h1 := congrArg List.length (e0 m)
        have h2 := congrArg List.length (e0 (grownCap w m 0 E - m))
        simp only [Array.length_toList, List.length_replicate] at h1 h2
        rw [Array.size_append, h1, h2]
        omega
      · rw [Array.toList_append, e0, e0, Nat.mul_one, List.take_append_of_le_length (by simp), List.take_of_length_le (by simp)]
    · have : some w.heap.size = some j := hj
      injection this with this
      rw [← this]; exact Nat.le_refl _
theorem sv_less {A : Option Addr} {cap l : Nat} {vs : List Value} (m : Nat) {w : World} (h : (Ch.sv A cap E 1 l vs).P w) (hm : m ≤ l) : (Ch.sv A cap E 1 m (vs.take m)).P w := by
  obtain ⟨h1, h2⟩ := h
  refine ⟨by simp; omega, ?_⟩
  rcases h2 with ⟨h3, h4⟩ | ⟨g, cap', cur, h3, h4, h5, h6, h7, h8, h9⟩
  · obtain rfl : m = 0 := by omega
    injection h3 with e1 e2 e3
    subst e1
    exact .inl ⟨by rw [e3], rfl⟩
  · injection h3 with e1 e2 e3
    subst e1
    refine .inr ⟨g, cap', cur, by rw [e3], h4, h5, by omega, h7, h8, ?_⟩
    rw [← h9, List.take_take]
    congr 1
    omega
end
section
variable {P : Program} {n : Nat} {R : Regs} {w0 : World} {S : Nat → Prop} {cs : List Ch} {T : TypeId} {ex : Exit} {b : Nat} {put : Ch → List Ch}
/-- Two results: one that lies in a variable of its own, and a plain one. -/
theorem XT_retCT {fn : Func} {t u : Nat} {v : Value} {vs : List Value} {Rr : Ending → World → Prop} [hA : IsAgg P T true] {s by_ : Nat} [hI : HasI P T s by_] (he : ex = .ret ∨ ex = .normal) (hr : fn.results = #[.cell t T, .tmp u]) (hx : R.get t = some (.pointer (some ⟨b, 0, none⟩))) (hu : R.get u = some v) {T1 : TypeId} [h : Pk b cs (Ch.blk b vs T1) put] (hl : vs.length = s)
    (q : ∀ w, Hp w0 S cs w → Rr (.returned (.tuple #[.agg vs.toArray, v])) w) : XT n (bodyPost P fn Rr) ex R (Hp w0 S cs) := .mk fun a w hR hM => by
  have e : w.heap[b]? = some (.cells vs.toArray T1 (0, 0)) := h.has hM
  have hs : (P.info? T).map (fun i => i.size) = some vs.length := by rw [hl]; exact hI.size
  have hrun := run_loadVar_cells (P := P) w ⟨b, 0, none⟩ T vs (fun j u hu => by rw [add_mk, Nat.zero_add]; simp only [World.cell?, e, Option.isSome_none, Bool.false_eq_true, if_false, List.getElem?_toArray]; exact hu) hs
  have hres : (results fn a.tmps).run P w = .ok (.tuple #[.agg vs.toArray, v]) w := by
    have h1 := hR.tmp hx
    have h2 := hR.tmp hu
    simp only [results, hr, Array.mapM_eq_mapM_toList]
    rw [Array.getD_eq_getD_getElem?] at h1 h2
    simp [h1, h2, asAddr, hrun]
  rcases he with rfl | rfl <;> exact ⟨hR.defers, _, hres, q w hM⟩
end
section
variable {P : Program} {n : Nat} {ops : Array Oper} {rest : List Oper} {Q : Exit → Act → World → Prop} {R : Regs} {ty T T' E : TypeId} {x y : Operand} {w0 : World} {S : Nat → Prop} {cs : List Ch} {pos : String} {af : Array Edge} {d : Nat} {k k' : IntKind} {A : Option Addr} {cap cap1 len : Nat} {xs : List Int} {put : Ch → List Ch}
theorem zeroCells_int (k : IntKind) (m : Nat) : (Builtin.zeroCells (Value.int k 0).cells m).toList = List.replicate m (Value.int k 0) := by
  have e2 : ∀ i : Nat, [Value.int k 0][i % 1]?.getD default = Value.int k 0 := fun i => by rw [Nat.mod_one]; rfl
  simp [Builtin.zeroCells, Value.cells, e2, List.map_const']
theorem run_appendZs {by_ : Nat} {kn : IntKind} [hT : HasU P T (.slice E)] [hT' : HasU P T' (.int kn)] [hE : HasI P E 1 by_] [hz : HasZ P E (.int k 0)] {w : World} {m : Nat} (h1 : (Ch.sl A cap E k xs).P w) (hb : (xs.length + m) * by_ ≤ 140737488355328) (hm : xs.length + m ≤ 4611686018427387904) :
    ∃ A' cap' w', (Builtin.append_ #[T, T'] ty #[.slice A xs.length cap, .int k' m]).run P w = .ok (.slice A' (xs.length + m) cap') w' ∧ (Ch.sl A' cap' E k (xs ++ List.replicate m 0)).P w' ∧ Chg (Ch.sl A cap E k xs).fp w w' ∧ (∀ j, (Ch.sl A' cap' E k (xs ++ List.replicate m 0)).fp j → (Ch.sl A cap E k xs).fp j ∨ w.heap.size ≤ j) := by
  obtain ⟨info, hi, hi1, hi2⟩ := info_of hE
  have hz' : info.zero = some (.int k 0) := zero_of hz hi
  have hw : IntKind.i64.wrap (m : Int) = m := by rw [IntKind.wrap_i64]; omega
  have h63' : ¬ (9223372036854775807 < ((xs.length : Int) + (m : Int))) := by omega
  have hneg : ¬ ((m : Int) < 0) := by omega
  have hmb : m * by_ ≤ 140737488355328 := Nat.le_trans (Nat.mul_le_mul_right _ (by omega)) hb
  have h48i : ¬ (281474976710656 < (m : Int) * (by_ : Int)) := by rw [← Int.natCast_mul]; omega
  have hlm : (xs ++ List.replicate m (0 : Int)).length = xs.length + m := by simp
  have hmap : (xs ++ List.replicate m (0 : Int)).map (Value.int k) = xs.map (Value.int k) ++ List.replicate m (Value.int k 0) := by rw [List.map_append, List.map_replicate]
  by_cases hm0 : m = 0
  · subst hm0
    refine ⟨A, cap, w, ?_, by simpa using h1, Chg.refl _ _, fun j hj => .inl (by simpa using hj)⟩
    have hcap := (sl_cap h1).1
    have hw0 : IntKind.i64.wrap 0 = 0 := by decide
    cases A with
    | none => simp [Builtin.append_, run_underlying hT.eq, run_underlying hT'.eq, sizeOf, typeInfo, hi, asInt, asIntOf, hcap, hw0]
    | some a =>
      simp [Builtin.append_, run_underlying hT.eq, run_underlying hT'.eq, sizeOf, typeInfo, hi, asInt, asIntOf, hcap, storeCells, hw0]
  have hns : ¬ (m * info.size = 0) := by rw [hi1]; omega
  have hfitv : ∀ old, Builtin.nextslicecap (xs.length + m) old * by_ ≤ 281474976710656 ∨ ¬ old < xs.length + m := fun old => by
    by_cases ho : old < xs.length + m
    · exact .inl (growslice_fits ho hb)
    · exact .inr ho
  rcases h1.2 with ⟨e1, e2⟩ | ⟨g, cap', cur, e1, _, hg, hnc, hcm, hcs, htake⟩
  · injection e1 with e3 e4 e5
    subst e3
    subst e5
    have hx : xs = [] := List.eq_nil_of_length_eq_zero e2
    subst hx
    have hrun := Go.Lib.run_append_nil_zeros (P := P) w T T' ty E info (.int k 0) k' kn hT.eq hT'.eq hi hz' m (by omega) (by omega) (by omega) (by rw [hi2]; omega)
    have hge := grownCap_ge w m 0 E
    have hle := grownCap_le_maxLen w m 0 E (by unfold maxLen; omega)
    refine ⟨some ⟨w.heap.size, 0, none⟩, grownCap w m 0 E, w.drew.alloc (.cells (Builtin.zeroCells (Value.int k 0).cells m ++ Builtin.zeroCells (Value.int k 0).cells (grownCap w m 0 E - m)) E), by simpa using hrun, ?_, ((Chg.refl _ w).drewN 1).alloc _, fun j hj => ?_⟩
    · refine ⟨by simp, .inr ⟨w.heap.size, grownCap w m 0 E, _, by simp, Nat.zero_le _, heap_alloc_new _ _, by simpa using hge, hle, ?_, ?_⟩⟩
      · have h1 := congrArg List.length (zeroCells_int k m)
        have h2 := congrArg List.length (zeroCells_int k (grownCap w m 0 E - m))
        simp only [Array.length_toList, List.length_replicate] at h1 h2
        rw [Array.size_append, h1, h2]
        omega
      · rw [Array.toList_append, zeroCells_int, zeroCells_int, hmap]
        simp
    · have : some w.heap.size = some j := hj
      injection this with this
      rw [← this]; exact .inr (Nat.le_refl _)
  · injection e1 with e3 e4 e5
    subst e3
    subst e5
    have htake' : cur.toList.take xs.length = xs.map (Value.int k) := by simpa using htake
    by_cases hroom : xs.length + m ≤ cap
    · -- in place
      obtain ⟨us, post, hsplit, hul⟩ : ∃ us post, cur.toList = xs.map (Value.int k) ++ (us ++ post) ∧ us.length = m := by
        refine ⟨(cur.toList.drop xs.length).take m, (cur.toList.drop xs.length).drop m, ?_, ?_⟩
        · rw [List.take_append_drop, ← htake', List.take_append_drop]
        · rw [List.length_take, List.length_drop, Array.length_toList]
          omega
      have hcur : cur = (xs.map (Value.int k) ++ (us ++ post)).toArray := by rw [← hsplit]
      have hg2 : w.heap[g]? = some (.cells (xs.map (Value.int k) ++ (us ++ post)).toArray E (0, 0)) := by rw [hg, hcur]
      obtain ⟨w', r1, r2, r3⟩ := storeCells_at (P := P) (List.replicate m (Value.int k 0)) us (xs.map (Value.int k)) post hg2 (by simp [hul]) (fun v hv => by rw [List.eq_of_mem_replicate hv]; rfl)
      rw [List.length_map] at r1
      refine ⟨some ⟨g, 0, none⟩, cap, w', ?_, ?_, ?_, fun j hj => .inl hj⟩
      · have ez : (Builtin.zeroCells #[Value.int k 0] m).toList = List.replicate m (Value.int k 0) := zeroCells_int k m
        simp [Builtin.append_, run_underlying hT.eq, run_underlying hT'.eq, sizeOf, typeInfo, zeroValue, hi, hi1, hi2, hz', asInt, asIntOf, hw, hm0, hneg, h48i, hroom, add_mk, Value.cells, ez, r1]
      · refine ⟨by simp, .inr ⟨g, cap, _, by simp, Nat.zero_le _, r2, by simpa using hroom, hcm, ?_, ?_⟩⟩
        · have : cur.size = (xs.map (Value.int k) ++ (us ++ post)).length := by rw [hcur]; simp
          simp only [List.length_append, List.length_map] at this
          simp
          omega
        · rw [hmap]
          show (xs.map (Value.int k) ++ (List.replicate m (Value.int k 0) ++ post)).take ((xs ++ List.replicate m 0).length * 1) = _
          rw [hlm, Nat.mul_one, ← List.append_assoc, List.take_append_of_le_length (by simp), List.take_of_length_le (by simp)]
      · exact ⟨r3.os, r3.tape, r3.output, r3.size, fun j hj hs => r3.block j hj (fun e => hs (by rw [e]; rfl))⟩
    · have hnr : ¬ (xs.length + m ≤ cap) := hroom
      have h48' : ¬ (281474976710656 < Builtin.nextslicecap (xs.length + m) cap * by_) := by
        rcases hfitv cap with h | h
        · omega
        · omega
      have hcells : ∀ j v, (xs.map (Value.int k))[j]? = some v → w.drew.cell? ((⟨g, 0, none⟩ : Addr).add j) = some v := fun j v hv => by
        obtain ⟨hj1, hj2⟩ := List.getElem?_eq_some_iff.1 hv
        have := sl_at h1 (by rw [List.length_map] at hj1; omega)
        have hc : w.cell? ((⟨g, 0, none⟩ : Addr).add j) = some v := by
          rw [add_mk, Nat.zero_add]
          rw [← htake', List.getElem?_take] at hv
          split at hv
          · simp only [World.cell?, hg]
            simpa using hv
          · cases hv
        simpa using hc
      have hfo := run_firstCells_some (P := P) w.drew 1 xs.length (⟨g, 0, none⟩ : Addr) xs.length cap (xs.map (Value.int k)) (by simp) hcells
      have hge := grownCap_ge w (xs.length + m) cap E
      have hle := grownCap_le_maxLen w (xs.length + m) cap E (by unfold maxLen; omega)
      refine ⟨some ⟨w.heap.size, 0, none⟩, grownCap w (xs.length + m) cap E, w.drew.alloc (.cells ((xs.map (Value.int k)).toArray ++ Builtin.zeroCells (Value.int k 0).cells m ++ Builtin.zeroCells (Value.int k 0).cells (grownCap w (xs.length + m) cap E - (xs.length + m))) E), ?_, ?_, ((Chg.refl _ w).drewN 1).alloc _, fun j hj => ?_⟩
      · simp [Builtin.append_, run_underlying hT.eq, run_underlying hT'.eq, sizeOf, typeInfo, zeroValue, hi, hi1, hi2, hz', asInt, asIntOf, hw, hm0, hneg, h48i, hnr, h63', h48', Question.forced, hfo, newRow, grownCap]
      · refine ⟨by simp, .inr ⟨w.heap.size, grownCap w (xs.length + m) cap E, _, by simp, Nat.zero_le _, heap_alloc_new _ _, by simpa using hge, hle, ?_, ?_⟩⟩
        · have h1 := congrArg List.length (zeroCells_int k m)
          have h2 := congrArg List.length (zeroCells_int k (grownCap w (xs.length + m) cap E - (xs.length + m)))
          simp only [Array.length_toList, List.length_replicate] at h1 h2
          rw [Array.size_append, Array.size_append, h1, h2]
          simp
          omega
        · rw [Array.toList_append, Array.toList_append, zeroCells_int, zeroCells_int, hmap]
          show (((xs.map (Value.int k)) ++ List.replicate m (Value.int k 0)) ++ List.replicate _ (Value.int k 0)).take ((xs ++ List.replicate m 0).length * 1) = _
          rw [hlm, Nat.mul_one, List.take_append_of_le_length (by simp), List.take_of_length_le (by simp)]
      · have : some w.heap.size = some j := hj
        injection this with this
        rw [← this]; exact .inr (Nat.le_refl _)
/-- So many noughts, appended to a slice of one's own. -/
theorem X_appendZS {by_ : Nat} {kn : IntKind} [hT : HasU P T (.slice E)] [hT' : HasU P T' (.int kn)] [hE : HasI P E 1 by_] [hz : HasZ P E (.int k 0)] {e : Int} {m : Nat} (hx : R.ev x = some (.slice A len cap)) (hy : R.ev y = some (.int k' e)) (he : e = (m : Int)) [h : PkS A cs cap1 E k xs put] (hl : len = xs.length) (hc : cap = cap1) (hb : (xs.length + m) * by_ ≤ 140737488355328) (hm : xs.length + m ≤ 4611686018427387904) (hd : Nat.blt d n = true)
    (q : ∀ A' cap', X P n ops Q rest ((d, .slice A' (xs.length + m) cap') :: R) (Hp w0 S (put (Ch.sl A' cap' E k (xs ++ List.replicate m 0))))) :
    X P n ops Q (⟨some d, .call { callee := .builtin .append, args := #[x, y], argTypes := #[T, T'] }, ty, pos, af, none⟩ :: rest) R (Hp w0 S cs) := .x fun a w hR hM =>
  wpList_plain rfl fun _ hK => by
    subst he
    subst hl
    subst hc
    obtain ⟨A', cap', w', r1, r2, r3, r4⟩ := run_appendZs (P := P) (T := T) (T' := T') (E := E) (ty := ty) (kn := kn) (k' := k') (m := m) (h.has hM) hb hm
    unfold Oper.wp
    rw [execOp_of]
    simp only [execOp, resolve, invoke, builtin, Sem.run_bind, Sem.run_pure, Result.andThen_ok, List.map_toArray, List.map_cons, List.map_nil, hR.ev hx, hR.ev hy, r1]
    exact hK _ _ ((q A' cap').runX _ w' (hR.put hd _) (h.turn hM r3 r2 r4))
end
section
variable {P : Program} {n : Nat} {ops : Array Oper} {rest : List Oper} {Q : Exit → Act → World → Prop} {R : Regs} {ty T E : TypeId} {x y : Operand} {w0 : World} {S : Nat → Prop} {cs : List Ch} {pos : String} {af : Array Edge} {d : Nat} {k k' : IntKind} {put : Ch → List Ch}
/-- A slice that is made: all of its block is known. -/
theorem X_makeZ [hT : HasU P T (.slice E)] {by_ : Nat} [hE : HasI P E 1 by_] [hz : HasZ P E (.int k 0)] {len cap : Nat} {e f : Int} (hx : R.ev x = some (.int k' e)) {k2 : IntKind} (hy : R.ev y = some (.int k2 f)) [hi : NatOf e len] [hj : NatOf f cap] (hlc : len ≤ cap) (hb : by_ * cap ≤ 281474976710656) (hm : cap ≤ 9223372036854775807) (hd : Nat.blt d n = true)
    (q : ∀ g, w0.heap.size ≤ g → X P n ops Q rest ((d, .slice (some ⟨g, 0, none⟩) len cap) :: R) (Hp w0 S (Ch.ints g k (List.replicate cap 0) E :: cs))) :
    X P n ops Q (⟨some d, .makeSlice T x y, ty, pos, af, none⟩ :: rest) R (Hp w0 S cs) := by
  have he := hi.eq
  have hf := hj.eq
  subst he
  subst hf
  refine X_alloc (val := fun g => .slice (some ⟨g, 0, none⟩) len cap) (new := fun g => Ch.ints g k (List.replicate cap 0) E) (fun a w hR hM => ⟨.cells (Array.replicate cap (.int k 0)) E, ?_, ?_, fun j hj => hj⟩) hd q
  · obtain ⟨info, h1, h2, h3⟩ := info_of hE
    have hz' : info.zero = some (.int k 0) := zero_of hz h1
    have hcb : (info.bytes : Int) * (cap : Int) ≤ 281474976710656 := by
      rw [h3, ← Int.natCast_mul]
      omega
    have hr := run_make (P := P) (w := w) T E info (.int k 0) hT.eq h1 hz' k' k2 (len : Int) (cap : Int) (by omega) (by omega) hcb (by omega)
    simp only [execOp, hR.ev hx, hR.ev hy, Sem.run_bind, hr, Result.andThen_ok, Sem.run_pure]
    simp [h2, Value.cells, madeCells_one]
  · have h1 := heap_alloc_new w (.cells (Array.replicate cap (.int k 0)) E)
    have h2 : ((List.replicate cap (0 : Int)).map (Value.int k)).toArray = Array.replicate cap (.int k 0) := by rw [List.map_replicate]; simp
    show (w.alloc _).heap[w.heap.size]? = some (.cells ((List.replicate cap (0 : Int)).map (Value.int k)).toArray E (0, 0))
    rw [h2]
    exact h1
/-- An append for which there is room in a block that is known. -/
theorem X_appendIn [hT : HasU P T (.slice E)] {by_ : Nat} [hE : HasI P E 1 by_] {g l cap l2 c2 : Nat} {A2 : Option Addr} {zs ys : List Int} (hx : R.ev x = some (.slice (some ⟨g, 0, none⟩) l cap)) (hy : R.ev y = some (.slice A2 l2 c2)) [h : Pk g cs (Ch.ints g k zs E) put]
    (h2 : ∀ w, Hp w0 S cs w → Rds w A2 c2 k ys) (hl2 : l2 = ys.length) (hroom : l + ys.length ≤ cap) (hcz : cap = zs.length) (hd : Nat.blt d n = true)
    (q : X P n ops Q rest ((d, .slice (some ⟨g, 0, none⟩) (l + ys.length) cap) :: R) (Hp w0 S (put (Ch.ints g k (zs.take l ++ ys ++ zs.drop (l + ys.length)) E)))) :
    X P n ops Q (⟨some d, .call { callee := .builtin .append, args := #[x, y], argTypes := #[T, T] }, ty, pos, af, none⟩ :: rest) R (Hp w0 S cs) := .x fun a w hR hM =>
  wpList_plain rfl fun _ hK => by
    subst hl2
    obtain ⟨info, hi, hi1, hi2⟩ := info_of hE
    have hb : w.heap[g]? = some (.cells (zs.map (Value.int k)).toArray E (0, 0)) := h.has hM
    unfold Oper.wp
    rw [execOp_of]
    cases A2 with
    | none =>
      have h0 := (h2 w hM).nil rfl
      have h3 := (h2 w hM).le
      obtain rfl : ys = [] := List.eq_nil_of_length_eq_zero (by omega)
      have hr : (Builtin.append_ #[T, T] ty #[.slice (some ⟨g, 0, none⟩) l cap, .slice none ([] : List Int).length c2]).run P w = .ok (.slice (some ⟨g, 0, none⟩) l cap) w := by
        have hlc : l ≤ cap := by simpa using hroom
        simp [Builtin.append_, run_underlying hT.eq, sizeOf, typeInfo, hi, Builtin.lenOf, Builtin.firstCells, hlc, storeCells]
      simp only [execOp, resolve, invoke, builtin, Sem.run_bind, Sem.run_pure, Result.andThen_ok, List.map_toArray, List.map_cons, List.map_nil, hR.ev hx, hR.ev hy, hr]
      refine hK _ _ (q.runX _ w (hR.put hd _) ?_)
      refine h.turn hM (Chg.refl _ _) ?_ (fun j hj => .inl hj)
      have e : zs.take l ++ [] ++ zs.drop (l + ([] : List Int).length) = zs := by simp
      rw [e]
      exact hb
    | some ad =>
      have hlen : (ys.map (Value.int k)).length = ys.length * info.size := by rw [hi1]; simp
      have hr := run_append_room (P := P) w T ty E info hT.eq hi g l cap (zs.map (Value.int k)).toArray hb ad ys.length c2 (ys.map (Value.int k)) hlen (fun j u hu => (h2 w hM).toV.at_ j u hu) (oneCell_map) hroom (by rw [hi1]; simp; omega)
      rw [hi1, Nat.mul_one] at hr
      simp only [execOp, resolve, invoke, builtin, Sem.run_bind, Sem.run_pure, Result.andThen_ok, List.map_toArray, List.map_cons, List.map_nil, hR.ev hx, hR.ev hy, hr]
      refine hK _ _ (q.runX _ _ (hR.put hd _) ?_)
      refine h.turn hM ?_ ?_ (fun j hj => .inl hj)
      · exact ⟨rfl, rfl, rfl, by simp, fun j _ hj => setRow_other w g j _ (fun e => hj e)⟩
      · have h4 := setRow_heap w g (zs.map (Value.int k)).toArray ((zs.map (Value.int k)).toArray.toList.take l ++ ys.map (Value.int k) ++ (zs.map (Value.int k)).toArray.toList.drop (l + (ys.map (Value.int k)).length)).toArray E _ hb
        have e : (zs.map (Value.int k)).toArray.toList.take l ++ ys.map (Value.int k) ++ (zs.map (Value.int k)).toArray.toList.drop (l + (ys.map (Value.int k)).length) = (zs.take l ++ ys ++ zs.drop (l + ys.length)).map (Value.int k) := by simp
        rw [e] at h4
        show (w.setRow _ _).heap[g]? = some (.cells ((zs.take l ++ ys ++ zs.drop (l + ys.length)).map (Value.int k)).toArray E (0, 0))
        rw [← h4, e]
end
end Go.Proofs.Ytfkhdhdbfejbpaa.MX
