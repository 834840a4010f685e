/- Bytes as texts, and texts compared. No program in sight. -/
import Derived.Test.YtgnhpkdhicfeiaaDoorMXZ
import Derived.Laws.BytesString
import Derived.Lib.SlicesS
namespace Go.Proofs.YtgnhpkdhicfeiaaDoor.MX
open Go Go.RowKit
set_option linter.unusedVariables false
set_option linter.unusedSimpArgs false
set_option linter.unusedVariables false
/-- The text of these bytes. -/
def strOf (xs : List Int) : ByteArray := xs.foldl (fun r n => r.push (UInt8.ofNat n.toNat)) ByteArray.empty
theorem fold_data : ∀ (xs : List Int) (s : ByteArray), (xs.foldl (fun r n => r.push (UInt8.ofNat n.toNat)) s).data = s.data ++ (xs.map (fun n => UInt8.ofNat n.toNat)).toArray
  | [], s => by simp
  | x :: xs, s => by
    rw [List.foldl_cons, fold_data xs]
    simp [ByteArray.push]
theorem strOf_data (xs : List Int) : (strOf xs).data = (xs.map (fun n => UInt8.ofNat n.toNat)).toArray := by
  rw [strOf, fold_data, show ByteArray.empty.data = #[] from rfl]
  simp
theorem strOf_size (xs : List Int) : (strOf xs).size = xs.length := by
  show (strOf xs).data.size = _
  rw [strOf_data]
  simp
theorem byte_inj {x y : Int} (hx : 0 ≤ x ∧ x < 256) (hy : 0 ≤ y ∧ y < 256) (h : UInt8.ofNat x.toNat = UInt8.ofNat y.toNat) : x = y := by
  have h1 := congrArg UInt8.toNat h
  simp only [UInt8.toNat_ofNat'] at h1
  omega
theorem strOf_inj : ∀ {xs ys : List Int}, (∀ x ∈ xs, 0 ≤ x ∧ x < 256) → (∀ y ∈ ys, 0 ≤ y ∧ y < 256) → strOf xs = strOf ys → xs = ys := by
  intro xs ys hx hy h
  have h1 := congrArg ByteArray.data h
  rw [strOf_data, strOf_data] at h1
  have h2 := congrArg Array.toList h1
  simp only at h2
  clear h h1
  induction xs generalizing ys with
  | nil => cases ys with
    | nil => rfl
    | cons y ys => simp at h2
  | cons x xs ih => cases ys with
    | nil => simp at h2
    | cons y ys =>
      simp only [List.map_cons, List.cons.injEq] at h2
      rw [byte_inj (hx x (by simp)) (hy y (by simp)) h2.1, ih (fun z hz => hx z (by simp [hz])) (fun z hz => hy z (by simp [hz])) h2.2]
theorem strOf_dec {xs ys : List Int} (hx : ∀ x ∈ xs, 0 ≤ x ∧ x < 256) (hy : ∀ y ∈ ys, 0 ≤ y ∧ y < 256) : decide (strOf xs = strOf ys) = decide (xs = ys) := by
  by_cases h : xs = ys
  · rw [decide_eq_true h, decide_eq_true (by rw [h])]
  · rw [decide_eq_false h, decide_eq_false (fun e => h (strOf_inj hx hy e))]
theorem beq_decB (x y : ByteArray) : (x.toList == y.toList) = decide (x = y) := by
  by_cases h : x = y
  · rw [decide_eq_true h]; exact (Lib.bytes_beq_iff x y).2 h
  · rw [decide_eq_false h]; exact (Lib.bytes_beq_false_iff x y).2 h
section
variable {P : Program} {n : Nat} {R : Regs} {M : World → Prop} {ty T T' E : TypeId} {x y : Operand} {A : Option Addr} {c : Nat} {xs : List Int}
theorem run_convBS [hT : HasU P T (.slice E)] [hE : HasU P E (.int .u8)] [hT' : HasU P T' .string] {w : World} (h : Rds w A c .u8 xs) : (convert T T' (.slice A xs.length c)).run P w = .ok (.string (strOf xs)) w := by
  rw [run_convert_bytes_string w T T' E A xs.length c hT.eq hE.eq hT'.eq]
  cases A with
  | none =>
    have h0 := h.nil rfl
    have h1 := h.le
    obtain rfl : xs = [] := List.length_eq_zero_iff.1 (by omega)
    rfl
  | some a =>
    refine run_bytesToString w a xs.length c xs ?_
    have hc : ∀ j v, (xs.map (Value.int .u8))[j]? = some v → w.cell? (a.add j) = some v := fun j v hv => h.toV.at_ j v hv
    have hl := run_loadCells_list (P := P) w a (xs.map (Value.int .u8)) hc
    rwa [List.length_map] at hl
/-- Bytes as a text. -/
theorem r_convBS [hT : HasU P T (.slice E)] [hE : HasU P E (.int .u8)] [hT' : HasU P T' .string] (hx : R.ev x = some (.slice A xs.length c)) (h : ∀ w, M w → Rds w A c .u8 xs) : Res P n (.convert T T' x) ty R M (.string (strOf xs)) :=
  .mk fun a w hR hM => by simp [execOp, hR.ev hx, run_convBS (h w hM)]
theorem r_eqlT {p q : ByteArray} (hx : R.ev x = some (.string p)) (hy : R.ev y = some (.string q)) : Res P n (.binOp .eql T x y T') ty R M (.bool (decide (p = q))) :=
  ⟨fun a w hR hM => by simp [execOp, hR.ev hx, hR.ev hy, eqGuard_str, binOp, Op.stringOp, beq_decB]⟩
theorem r_neqT {p q : ByteArray} (hx : R.ev x = some (.string p)) (hy : R.ev y = some (.string q)) : Res P n (.binOp .neq T x y T') ty R M (.bool (decide (p ≠ q))) :=
  ⟨fun a w hR hM => by simp [execOp, hR.ev hx, hR.ev hy, eqGuard_str, binOp, Op.stringOp, beq_decB]⟩
end
section
variable {P : Program} {n : Nat} {ops : Array Oper} {rest : List Oper} {Q : Exit → Act → World → Prop} {R : Regs} {ty T T' E : TypeId} {x y : Operand} {w0 : World} {S : Nat → Prop} {cs : List Ch} {pos : String} {af : Array Edge} {d : Nat} {k' : IntKind}
/-- So many empty elements, appended to nothing. -/
theorem X_appendZV {by_ : Nat} {kn : IntKind} {zv : Value} [hT : HasU P T (.slice E)] [hT' : HasU P T' (.int kn)] [hE : HasI P E 1 by_] [hz : HasZ P E zv] (hz1 : zv.cells = #[zv]) {e : Int} {m : Nat} (hx : R.ev x = some (.slice none 0 0)) (hy : R.ev y = some (.int k' e)) (he : e = (m : Int)) (h0 : 0 < m) (hb : m * by_ ≤ 281474976710656) (hm : m ≤ 9223372036854775807) (hd : Nat.blt d n = true)
    (q : ∀ go cap', X P n ops Q rest ((d, .slice (some ⟨go, 0, none⟩) m cap') :: R) (Hp w0 S (Ch.sv (some ⟨go, 0, none⟩) cap' E 1 m (List.replicate m zv) :: cs))) :
    X P n ops Q (⟨some d, .call { callee := .builtin .append, args := #[x, y], argTypes := #[T, T'] }, ty, pos, af, none⟩ :: rest) R (Hp w0 S cs) := .x fun a w hR hM =>
  wpList_plain rfl fun _ hK => by
    subst he
    obtain ⟨info, hi, hi1, hi2⟩ := info_of hE
    have hz' : info.zero = some zv := zero_of hz hi
    have hrun := Go.Lib.run_append_nil_zeros (P := P) w T T' ty E info zv k' kn hT.eq hT'.eq hi hz' m h0 (by omega) (by omega) (by rw [hi2]; exact hb)
    have hge := grownCap_ge w m 0 E
    have hle := grownCap_le_maxLen w m 0 E (by unfold maxLen; omega)
    unfold Oper.wp
    rw [execOp_of]
    simp only [execOp, resolve, invoke, builtin, Sem.run_bind, Sem.run_pure, Result.andThen_ok, List.map_toArray, List.map_cons, List.map_nil, hR.ev hx, hR.ev hy, hrun]
    have e0 : ∀ m : Nat, (Builtin.zeroCells zv.cells m).toList = List.replicate m zv := fun m => by
      have e2 : ∀ i : Nat, [zv][i % 1]?.getD default = zv := fun i => by rw [Nat.mod_one]; rfl
      simp [Builtin.zeroCells, hz1, e2, List.map_const']
    refine hK _ _ ((q w.heap.size (grownCap w m 0 E)).runX _ _ (hR.put hd _) ?_)
    refine (hM.drewN 1).add ((Chg.refl _ _).alloc _) ?_ (fun j hj => ?_)
    · refine ⟨by simp, .inr ⟨w.heap.size, grownCap w m 0 E, _, rfl, Nat.zero_le _, heap_alloc_new _ _, hge, hle, ?_, ?_⟩⟩
      · have h1 := congrArg List.length (e0 m)
        have h2 := congrArg List.length (e0 (grownCap w m 0 E - m))
        simp only [Array.length_toList, List.length_replicate] at h1 h2
        rw [Array.size_append, h1, h2]
        omega
      · rw [Array.toList_append, e0, e0, Nat.mul_one, List.take_append_of_le_length (by simp), List.take_of_length_le (by simp)]
    · have : some w.heap.size = some j := hj
      injection this with this
      rw [← this]; exact Nat.le_refl _
theorem sv_less {A : Option Addr} {cap l : Nat} {vs : List Value} (m : Nat) {w : World} (h : (Ch.sv A cap E 1 l vs).P w) (hm : m ≤ l) : (Ch.sv A cap E 1 m (vs.take m)).P w := by
  obtain ⟨h1, h2⟩ := h
  refine ⟨by simp; omega, ?_⟩
  rcases h2 with ⟨h3, h4⟩ | ⟨g, cap', cur, h3, h4, h5, h6, h7, h8, h9⟩
  · obtain rfl : m = 0 := by omega
    injection h3 with e1 e2 e3
    subst e1
    exact .inl ⟨by rw [e3], rfl⟩
  · injection h3 with e1 e2 e3
    subst e1
    refine .inr ⟨g, cap', cur, by rw [e3], h4, h5, by omega, h7, h8, ?_⟩
    rw [← h9, List.take_take]
    congr 1
    omega
end
end Go.Proofs.YtgnhpkdhicfeiaaDoor.MX
