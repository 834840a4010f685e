/- Calls, appends, slices that are read, literals; entering and leaving a function. No program in sight. -/
import Derived.Test.YtfkhdhdbfejbpaaMXM
namespace Go.Proofs.Ytfkhdhdbfejbpaa.MX
open Go Go.RowKit
set_option linter.unusedVariables false
set_option linter.unusedSimpArgs false
set_option linter.unusedVariables false

/-! ### Slices of whole numbers that are read -/
def adOf : Option Addr → Addr
  | some a => a
  | none => ⟨0, 0, none⟩
/-- A slice at A with room for c holds xs. -/
structure Rds (w : World) (A : Option Addr) (c : Nat) (k : IntKind) (xs : List Int) : Prop where
  le : xs.length ≤ c
  cap : c ≤ 9223372036854775807
  nil : A = none → c = 0
  at_ : ∀ j, j < xs.length → w.cell? ((adOf A).add j) = some (.int k (xs.getD j 0))
/-- None of the slice's cells may be written. -/
def Old (S : Nat → Prop) (A : Option Addr) : Prop := ∀ ad, A = some ad → ¬ S ad.block
theorem old_false {A : Option Addr} : Old (fun _ => False) A := fun _ _ h => h
def cutA (A : Option Addr) (l m s : Nat) : Option Addr := if m = l then A else A.map (·.add (l * s))
theorem add_block (a : Addr) (j : Nat) : (a.add j).block = a.block := by unfold Addr.add; split <;> rfl
theorem add_add (a : Addr) (i j : Nat) (h : 0 < i ∨ True) : (a.add i).add j = a.add (i + j) := by
  unfold Addr.add
  by_cases h1 : i = 0
  · subst h1; simp
  · by_cases h2 : j = 0
    · subst h2; simp [h1]
    · simp [h1, h2, Nat.add_assoc]
section
variable {w0 w : World} {S : Nat → Prop} {cs : List Ch} {A : Option Addr} {c cap e b : Nat} {k : IntKind} {xs : List Int}
theorem Rds.some (h : Rds w A c k xs) (hc : 0 < c) : A = some (adOf A) := by
  cases A with
  | none => have := h.nil rfl; omega
  | some a => rfl
theorem Rds.keep (h : Rds w0 A c k xs) (hp : Chg S w0 w) (hs : Old S A) : Rds w A c k xs :=
  ⟨h.le, h.cap, h.nil, fun j hj => cell_chg (h.at_ j hj) hp (by
    have := h.some (by have := h.le; omega)
    rw [add_block]
    exact hs _ this)⟩
theorem Rds.old (h : Rds w0 A c k xs) (hp : Hp w0 S cs w) (hs : Old S A) : Rds w A c k xs := h.keep hp.chg hs
theorem Rds.cut (h : Rds w A c k xs) (l h' : Nat) (h1 : l ≤ h') (h2 : h' ≤ xs.length) : Rds w (cutA A l c 1) (c - l) k ((xs.take h').drop l) := by
  have hle := h.le
  have hlen : ((xs.take h').drop l).length = h' - l := by simp; omega
  refine ⟨by rw [hlen]; omega, by have := h.cap; omega, fun e => ?_, fun j hj => ?_⟩
  · unfold cutA at e
    split at e
    · omega
    · cases A with
      | none => have := h.nil rfl; omega
      | some a => simp at e
  · rw [hlen] at hj
    have e1 : ((xs.take h').drop l).getD j 0 = xs.getD (l + j) 0 := by
      rw [List.getD_eq_getElem?_getD, List.getD_eq_getElem?_getD, List.getElem?_drop, List.getElem?_take_of_lt (by omega)]
    have hA := h.some (by omega)
    have e2 : adOf (cutA A l c 1) = (adOf A).add l := by
      unfold cutA
      rw [if_neg (by omega), hA]
      simp [adOf]
    rw [e1, e2, add_add _ _ _ (.inr trivial)]
    exact h.at_ (l + j) (by omega)
theorem Rds.same {g : Nat} (h : Rds w0 A c k xs) (hp : Chg (fun k => k = g) w0 w) (he : w.heap[g]? = w0.heap[g]?) : Rds w A c k xs :=
  ⟨h.le, h.cap, h.nil, fun j hj => by
    have h1 := h.at_ j hj
    have hlt := World.block_lt_of_cell? _ _ h1
    by_cases e : ((adOf A).add j).block = g
    · rw [← h1]
      simp only [World.cell?, e, he]
    · exact cell_chg h1 hp e⟩
theorem Rds.drop (h : Rds w A c k xs) (l : Nat) (hl : l ≤ xs.length) : Rds w (cutA A l c 1) (c - l) k (xs.drop l) := by
  have := h.cut l xs.length hl (Nat.le_refl _)
  rwa [List.take_length] at this
theorem Rds.take (h : Rds w A c k xs) (n : Nat) : Rds w A c k (xs.take n) :=
  ⟨by have := h.le; simp; omega, h.cap, h.nil, fun j hj => by
    have hj' : j < n ∧ j < xs.length := by simpa [Nat.lt_min] using hj
    rw [List.getD_eq_getElem?_getD, List.getElem?_take_of_lt hj'.1, ← List.getD_eq_getElem?_getD]
    exact h.at_ j hj'.2⟩
theorem Rds.nil_ (w : World) (k : IntKind) : Rds w none 0 k [] := ⟨Nat.le_refl _, by decide, fun _ => rfl, fun j hj => by simp at hj⟩
theorem rds_sl (h : (Ch.sl A cap e k xs).P w) : Rds w A cap k xs := by
  have hc := sl_cap h
  refine ⟨hc.1, hc.2, fun e1 => ?_, fun j hj => ?_⟩
  · rcases Nat.eq_zero_or_pos cap with h0 | h0
    · exact h0
    · have := sl_addr h h0
      rw [e1] at this
      cases this
  · have ha := sl_addr h (by omega)
    have := (ia_sl (A := A) (cap := cap) (e := e) (k := k) (xs := xs)).rd w h j hj
    rw [ha]
    show w.cell? ((⟨blkOf A, 0, none⟩ : Addr).add j) = _
    rw [add_mk, Nat.zero_add]
    exact this
theorem rds_ints {T : TypeId} (h : (Ch.ints b k xs T).P w) (hc : xs.length ≤ c) (hm : c ≤ 9223372036854775807) : Rds w (some ⟨b, 0, none⟩) c k xs :=
  ⟨hc, hm, fun e => (by cases e), fun j hj => by
    have := (ia_ints (b := b) (k := k) (xs := xs) (T := T)).rd w h j hj
    show w.cell? ((⟨b, 0, none⟩ : Addr).add j) = _
    rw [add_mk, Nat.zero_add]
    exact this⟩
/-- A readable slice becomes one of one's own: it is. -/
theorem Hp.nilS {e : TypeId} {k : IntKind} (h : Hp w0 S cs w) : Hp w0 S (Ch.sl none 0 e k [] :: cs) w :=
  h.add (Chg.refl _ _) (World.ownsRow_nil w 0 e 1) (fun j hj => by cases (show (none : Option Nat) = some j from hj))
end

section
variable {P : Program} {n : Nat} {ops : Array Oper} {Q : Exit → Act → World → Prop} {R : Regs} {M : World → Prop} {rest : List Oper} {K : Act → Prop} {ty T T' E : TypeId} {x y z : Operand} {v u : Value} {k k' : IntKind} {m l : Int}
variable {w0 : World} {S : Nat → Prop} {cs : List Ch} {b o i d g : Nat} {c : Ch} {put : Ch → List Ch} {pos : String} {af : Array Edge} {A A2 : Option Addr} {ad : Addr} {len cap c2 l2 : Nat} {xs ys : List Int} {tys : Array TypeId}

/-! ### Elements of slices that are read -/
theorem r_indexR [hT : HasU P T (.slice E)] {by_ : Nat} [hE : HasI P E 1 by_] {e : Int} (hx : R.ev x = some (.slice A len cap)) (hy : R.ev y = some (.int k e)) [hi : NatOf e i] {w' : World} {c' : Nat} {k1 : IntKind} (hr : Rds w' A c' k1 xs) (hlt : i < len) (hl : 0 < c') :
    Res P n (.indexAddr T x y) ty R M (.pointer (some ((adOf A).add i))) := r_indexO hx hy hlt (hr.some hl)
theorem r_loadR [hA : IsAgg P T false] (hx : R.ev x = some (.pointer (some ((adOf A).add i)))) {c' : Nat} (hr : Rds w0 A c' k xs) (hs : Old S A) (hi : i < xs.length) :
    Res P n (.load T x) ty R (Hp w0 S cs) (.int k (xs.getD i 0)) := r_load hx (fun w hM => (hr.old hM hs).at_ i hi)

/-! ### Slices of slices -/
theorem run_cut [hT : HasU P T (.slice E)] {s by_ : Nat} [hE : HasI P E s by_] {w : World} :
    (∀ (kl : IntKind) (l : Nat), l ≤ len → (Instr.sliceAt T (.slice A len cap) (some (.int kl l)) none none).run P w = .ok (.slice (cutA A l cap s) (len - l) (cap - l)) w) ∧
    (∀ (kh : IntKind) (h : Nat), h ≤ cap → (Instr.sliceAt T (.slice A len cap) none (some (.int kh h)) none).run P w = .ok (.slice (cutA A 0 cap s) h cap) w) ∧
    (∀ (kl kh : IntKind) (l h : Nat), l ≤ h → h ≤ cap → (Instr.sliceAt T (.slice A len cap) (some (.int kl l)) (some (.int kh h)) none).run P w = .ok (.slice (cutA A l cap s) (h - l) (cap - l)) w) := by
  have he : P.elem T = E := by simp [Program.elem, hT.eq]
  have hu : P.underlying T = some (.slice (P.elem T)) := by rw [he]; exact hT.eq
  have hs := run_size (E := E) w hE.size
  refine ⟨fun kl l h => ?_, fun kh h h1 => ?_, fun kl kh l h h1 h2 => ?_⟩
  · rw [run_sliceAt_slice (h := hu), run_slice_l (ht := hu) (h0 := by omega) (h1 := by omega), he, hs]
    simp [Result.andThen, sliced, cutA]
  · rw [run_sliceAt_slice (h := hu), run_slice_h (ht := hu) (h0 := by omega) (h2 := by omega), he, hs]
    simp [Result.andThen, sliced, cutA]
  · rw [run_sliceAt_slice (h := hu), run_slice_lh (ht := hu) (h0 := by omega) (h1 := by omega) (h2 := by omega), he, hs]
    simp [Result.andThen, sliced, cutA]
theorem r_cutL [hT : HasU P T (.slice E)] {s by_ : Nat} [hE : HasI P E s by_] {e : Int} (hx : R.ev x = some (.slice A len cap)) (hy : R.ev y = some (.int k e)) [hi : NatOf e i] (h : i ≤ len) :
    Res P n (.slice T x (some y) none none) ty R M (.slice (cutA A i cap s) (len - i) (cap - i)) := .mk fun a w hR hM => by
  have he := hi.eq
  subst he
  have := (run_cut (P := P) (T := T) (E := E) (A := A) (len := len) (cap := cap) (s := s) (w := w)).1 k i h
  simp [execOp, hR.ev hx, hR.ev hy, this]
theorem r_cutH [hT : HasU P T (.slice E)] {s by_ : Nat} [hE : HasI P E s by_] {e : Int} (hx : R.ev x = some (.slice A len cap)) (hy : R.ev y = some (.int k e)) [hi : NatOf e i] (h : i ≤ cap) :
    Res P n (.slice T x none (some y) none) ty R M (.slice (cutA A 0 cap s) i cap) := .mk fun a w hR hM => by
  have he := hi.eq
  subst he
  have := (run_cut (P := P) (T := T) (E := E) (A := A) (len := len) (cap := cap) (s := s) (w := w)).2.1 k i h
  simp [execOp, hR.ev hx, hR.ev hy, this]
theorem r_cutLH [hT : HasU P T (.slice E)] {s by_ j : Nat} [hE : HasI P E s by_] {e f : Int} (hx : R.ev x = some (.slice A len cap)) (hy : R.ev y = some (.int k e)) (hz : R.ev z = some (.int k' f)) [hi : NatOf e i] [hj : NatOf f j] (h : i ≤ j) (h' : j ≤ cap) :
    Res P n (.slice T x (some y) (some z) none) ty R M (.slice (cutA A i cap s) (j - i) (cap - i)) := .mk fun a w hR hM => by
  have he := hi.eq
  have hf := hj.eq
  subst he
  subst hf
  have := (run_cut (P := P) (T := T) (E := E) (A := A) (len := len) (cap := cap) (s := s) (w := w)).2.2 k k' i j h h'
  simp [execOp, hR.ev hx, hR.ev hy, hR.ev hz, this]

/-! ### Calls -/
theorem run_call [hf : HasFn P g] {xs : List Operand} {vs : List Value} {a : Act} (hR : Mod n a R) (ha : R.evl xs = some vs) (w : World) :
    (execOp a.eval ⟨none, .call { callee := .value (.func g), args := xs.toArray, argTypes := tys }, ty, "", #[], none⟩).run P w = .ok (.enter g vs.toArray) w := by
  have := hR.evl ha
  simp [execOp, resolve, Deferred.ofValue, Act.eval, invoke, this, hf.eq]
theorem X_call [hf : HasFn P g] {as : List Operand} {vs : List Value} (ha : R.evl as = some vs) (hd : Nat.blt d n = true)
    (h : ∀ w, M w → Calls P g vs.toArray w (fun e w' => ∃ v, e = .returned v ∧ ∃ M' : World → Prop, M' w' ∧ X P n ops Q rest ((d, v) :: R) M')) :
    X P n ops Q (⟨some d, .call { callee := .value (.func g), args := as.toArray, argTypes := tys }, ty, pos, af, none⟩ :: rest) R M := .x fun a w hR hM =>
  wpList_plain rfl fun _ hK => by
    unfold Oper.wp
    rw [execOp_of, run_call hR ha w]
    refine (h w hM).mono fun e w' hh => ?_
    obtain ⟨v, rfl, M', hm, hx⟩ := hh
    exact hK _ _ (hx.runX _ w' (hR.put hd v) hm)
theorem X_callN [hf : HasFn P g] {as : List Operand} {vs : List Value} (ha : R.evl as = some vs)
    (h : ∀ w, M w → Calls P g vs.toArray w (fun e w' => ∃ v, e = .returned v ∧ ∃ M' : World → Prop, M' w' ∧ X P n ops Q rest R M')) :
    X P n ops Q (⟨none, .call { callee := .value (.func g), args := as.toArray, argTypes := tys }, ty, pos, af, none⟩ :: rest) R M := .x fun a w hR hM =>
  wpList_plain rfl fun _ hK => by
    unfold Oper.wp
    rw [execOp_of, run_call hR ha w]
    refine (h w hM).mono fun e w' hh => ?_
    obtain ⟨v, rfl, M', hm, hx⟩ := hh
    exact hK _ _ (hx.runX _ w' hR hm)
/-- A call that only reads: its value hangs on nothing but its arguments. -/
theorem XQ_call [hf : HasFn P g] {as : List Operand} {vs : List Value} (ha : R.evl as = some vs) (hd : Nat.blt d n = true)
    (h : ∀ w, M w → Calls P g vs.toArray w (fun e w' => e = .returned v ∧ M w')) (q : XQ P n ops K rest ((d, v) :: R) M) :
    XQ P n ops K (⟨some d, .call { callee := .value (.func g), args := as.toArray, argTypes := tys }, ty, pos, af, none⟩ :: rest) R M := .q fun a hR =>
  wpQuiet_step fun K' hK => by
    simp only [Region.wanted, if_true]
    refine ⟨v, fun w hM => ?_, hK _ (q.runQ _ (hR.put hd v))⟩
    unfold Oper.quietAt
    rw [execOp_of, run_call hR ha w]
    exact ⟨rfl, h w hM⟩
theorem X_callR [hf : HasFn P g] {as : List Operand} {vs : List Value} (ha : R.evl as = some vs) (hd : Nat.blt d n = true)
    (h : ∀ w, M w → Calls P g vs.toArray w (fun e w' => e = .returned v ∧ M w')) (q : X P n ops Q rest ((d, v) :: R) M) :
    X P n ops Q (⟨some d, .call { callee := .value (.func g), args := as.toArray, argTypes := tys }, ty, pos, af, none⟩ :: rest) R M :=
  X_call ha hd fun w hM => (h w hM).mono fun e w' hh => ⟨v, hh.1, M, hh.2, q⟩

theorem Y_call {md : Md} [hf : HasFn P g] {as : List Operand} {vs : List Value} (ha : R.evl as = some vs) (hd : Nat.blt d n = true)
    (h : ∀ w, M w → Calls P g vs.toArray w (fun e w' => e = .returned v ∧ M w')) (q : Y P n ops md rest ((d, v) :: R) M) :
    Y P n ops md (⟨some d, .call { callee := .value (.func g), args := as.toArray, argTypes := tys }, ty, pos, af, none⟩ :: rest) R M := by
  cases md with
  | x Q => exact X_callR ha hd h q
  | q K => exact XQ_call ha hd h q

/-! ### Appends -/
theorem oneCell_map {us : List Int} : ∀ u ∈ us.map (Value.int k), u.oneCell' = true := fun u hu => by obtain ⟨x, _, rfl⟩ := List.mem_map.1 hu; rfl
theorem run_append [hT : HasU P T (.slice E)] {by_ : Nat} [hE : HasI P E 1 by_] [hz : HasZ P E (.int k 0)] {w : World} (h1 : (Ch.sl A cap E k xs).P w) (h2 : Rds w A2 c2 k ys) (hb : (xs.length + ys.length) * by_ ≤ 140737488355328) (hm : xs.length + ys.length ≤ 9223372036854775807) :
    ∃ A' cap' w', (Builtin.append_ #[T, T] ty #[.slice A xs.length cap, .slice A2 ys.length c2]).run P w = .ok (.slice A' (xs ++ ys).length cap') w' ∧ (Ch.sl A' cap' E k (xs ++ ys)).P w' ∧ Chg (Ch.sl A cap E k xs).fp w w' ∧ (∀ j, (Ch.sl A' cap' E k (xs ++ ys)).fp j → (Ch.sl A cap E k xs).fp j ∨ w.heap.size ≤ j) := by
  obtain ⟨info, hi, hi1, hi2⟩ : ∃ info, P.info? E = some info ∧ info.size = 1 ∧ info.bytes = by_ := by
    have := hE.eq
    cases hq : P.info? E with
    | none => simp [hq] at this
    | some i => simp [hq] at this; exact ⟨i, rfl, this.1, this.2⟩
  have hz' : info.zero = some (.int k 0) := by
    have := hz.eq w
    cases hq : info.zero with
    | none => simp [zeroValue, typeInfo, Sem.run_bind, hi, hq, unsupported] at this
    | some z => simp [zeroValue, typeInfo, Sem.run_bind, hi, hq] at this; rw [this]
  have hl : (xs ++ ys).length = xs.length + ys.length := List.length_append
  cases A2 with
  | none =>
    have h0 := h2.nil rfl
    have h3 := h2.le
    have hy : ys = [] := List.eq_nil_of_length_eq_zero (by omega)
    subst hy
    subst h0
    refine ⟨A, cap, w, ?_, by simpa using h1, Chg.refl _ _, fun j hj => .inl (by simpa using hj)⟩
    have := run_append_owned_none (P := P) (w := w) 0 T ty E info 1 hT.eq hi (.slice A xs.length cap) xs.length (xs.map (Value.int k)) h1
    simpa using this
  | some ad =>
    have h5 : ∀ j u, (ys.map (Value.int k))[j]? = some u → w.cell? (ad.add j) = some u := fun j u hu => by
      have hj : j < ys.length := by
        rcases Nat.lt_or_ge j ys.length with h | h
        · exact h
        · rw [List.getElem?_eq_none (by simpa using h)] at hu; cases hu
      rw [map_getD hj] at hu
      rw [← hu]
      exact h2.at_ j hj
    obtain ⟨v', w', r1, r2, r3, r4, r5⟩ := run_append_own_at (P := P) w 0 T ty E info (.int k 0) 1 by_ hT.eq hi hz' hi1 hi2 rfl (by decide) (.slice A xs.length cap) xs.length (xs.map (Value.int k)) h1 ad ys.length c2 (ys.map (Value.int k)) (by simp) h5 oneCell_map (by unfold maxLen; omega) hb (Nat.zero_le _)
    have hv : ∃ A' cap', v' = .slice A' (xs ++ ys).length cap' := by
      rcases r2.2 with ⟨e1, e2⟩ | ⟨g, cap', cur, e1, _⟩
      · exact ⟨none, 0, by rw [e1, hl, e2]⟩
      · exact ⟨_, cap', by rw [e1, hl]⟩
    obtain ⟨A', cap', rfl⟩ := hv
    refine ⟨A', cap', w', r1, ?_, ?_, fun j hj => ?_⟩
    · unfold Ch.sl Ch.row
      have := r2
      rw [← List.map_append] at this
      simpa [hl] using this
    · exact ⟨r3.os, r3.tape, r3.output, r3.size, fun j hj hs => r3.block j hj (fun e => hs e.symm)⟩
    · rcases r5 with e | e
      · exact .inl (e.symm.trans hj)
      · have : some w.heap.size = some j := e.symm.trans hj
        exact .inr (by injection this with this; omega)
theorem X_append [hT : HasU P T (.slice E)] {by_ : Nat} [hE : HasI P E 1 by_] [hz : HasZ P E (.int k 0)] (hx : R.ev x = some (.slice A len cap)) (hy : R.ev y = some (.slice A2 l2 c2)) {cap1 : Nat} [h : PkS A cs cap1 E k xs put]
    (hs : ∀ w, Hp w0 S cs w → Rds w A2 c2 k ys) (hl : len = xs.length) (hc : cap = cap1) (hl2 : l2 = ys.length) (hb : (xs.length + ys.length) * by_ ≤ 140737488355328) (hm : xs.length + ys.length ≤ 9223372036854775807) (hd : Nat.blt d n = true)
    (q : ∀ A' cap', X P n ops Q rest ((d, .slice A' (xs ++ ys).length cap') :: R) (Hp w0 S (put (Ch.sl A' cap' E k (xs ++ ys))))) :
    X P n ops Q (⟨some d, .call { callee := .builtin .append, args := #[x, y], argTypes := #[T, T] }, ty, pos, af, none⟩ :: rest) R (Hp w0 S cs) := .x fun a w hR hM =>
  wpList_plain rfl fun _ hK => by
    subst hl
    subst hc
    subst hl2
    obtain ⟨A', cap', w', r1, r2, r3, r4⟩ := run_append (P := P) (T := T) (ty := ty) (h.has hM) (hs w hM) hb hm
    unfold Oper.wp
    rw [execOp_of]
    simp only [execOp, resolve, invoke, builtin, Sem.run_bind, Sem.run_pure, Result.andThen_ok, List.map_toArray, List.map_cons, List.map_nil, hR.ev hx, hR.ev hy, r1]
    exact hK _ _ ((q A' cap').runX _ w' (hR.put hd _) (h.turn hM r3 r2 r4))
theorem sl_ints {w : World} {g : Nat} {T1 : TypeId} (h : (Ch.ints g k xs T1).P w) (hm : xs.length ≤ 9223372036854775807) : (Ch.sl (some ⟨g, 0, none⟩) xs.length T1 k xs).P w :=
  ⟨by simp, .inr ⟨g, xs.length, (xs.map (Value.int k)).toArray, rfl, Nat.zero_le _, h, Nat.le_refl _, by unfold maxLen; omega, by simp, by rw [Nat.mul_one, List.take_of_length_le (by simp)]⟩⟩
/-- An append to a block that is full. -/
theorem X_appendI [hT : HasU P T (.slice E)] {by_ : Nat} [hE : HasI P E 1 by_] [hz : HasZ P E (.int k 0)] (hx : R.ev x = some (.slice (some ⟨g, 0, none⟩) len cap)) (hy : R.ev y = some (.slice A2 l2 c2)) [h : Pk g cs (Ch.ints g k xs E) put]
    (hs : ∀ w, Hp w0 S cs w → Rds w A2 c2 k ys) (hl : len = xs.length) (hc : cap = xs.length) (hl2 : l2 = ys.length) (hb : (xs.length + ys.length) * by_ ≤ 140737488355328) (hm : xs.length + ys.length ≤ 9223372036854775807) (hd : Nat.blt d n = true)
    (q : ∀ A' cap', X P n ops Q rest ((d, .slice A' (xs ++ ys).length cap') :: R) (Hp w0 S (put (Ch.sl A' cap' E k (xs ++ ys))))) :
    X P n ops Q (⟨some d, .call { callee := .builtin .append, args := #[x, y], argTypes := #[T, T] }, ty, pos, af, none⟩ :: rest) R (Hp w0 S cs) := .x fun a w hR hM =>
  wpList_plain rfl fun _ hK => by
    subst hl
    subst hc
    subst hl2
    obtain ⟨A', cap', w', r1, r2, r3, r4⟩ := run_append (P := P) (T := T) (ty := ty) (sl_ints (h.has hM) (by omega)) (hs w hM) hb hm
    unfold Oper.wp
    rw [execOp_of]
    simp only [execOp, resolve, invoke, builtin, Sem.run_bind, Sem.run_pure, Result.andThen_ok, List.map_toArray, List.map_cons, List.map_nil, hR.ev hx, hR.ev hy, r1]
    have r5 : ∀ j, (Ch.sl (some ⟨g, 0, none⟩) xs.length E k xs).fp j → (Ch.ints g k xs E).fp j := fun j hj => by
      have : some g = some j := hj
      injection this with this
      exact this.symm
    exact hK _ _ ((q A' cap').runX _ w' (hR.put hd _) (h.turn hM (r3.mono fun j _ hj => r5 j hj) r2 (fun j hj => (r4 j hj).imp (r5 j) id)))
/-- An append to nothing. -/
theorem X_append0 [hT : HasU P T (.slice E)] {by_ : Nat} [hE : HasI P E 1 by_] [hz : HasZ P E (.int k 0)] (hx : R.ev x = some (.slice none 0 0)) (hy : R.ev y = some (.slice A2 l2 c2))
    (hs : ∀ w, Hp w0 S cs w → Rds w A2 c2 k ys) (hl2 : l2 = ys.length) (hb : ys.length * by_ ≤ 140737488355328) (hm : ys.length ≤ 9223372036854775807) (hd : Nat.blt d n = true)
    (q : ∀ A' cap', X P n ops Q rest ((d, .slice A' ys.length cap') :: R) (Hp w0 S (Ch.sl A' cap' E k ys :: cs))) :
    X P n ops Q (⟨some d, .call { callee := .builtin .append, args := #[x, y], argTypes := #[T, T] }, ty, pos, af, none⟩ :: rest) R (Hp w0 S cs) := by
  have hq := X_append (P := P) (n := n) (ops := ops) (Q := Q) (rest := rest) (T := T) (E := E) (k := k) (w0 := w0) (S := S) (cs := Ch.sl none 0 E k [] :: cs) (pos := pos) (af := af) (ty := ty) (ys := ys) hx hy (fun w hw => hs w hw.tail) rfl rfl hl2 (by simpa using hb) (by simpa using hm) hd (by simpa using q)
  exact .x fun a w hR hM => hq.runX a w hR hM.nilS

/-! ### Literals -/
def zipFrom : Nat → List Value → List (Nat × Value)
  | _, [] => []
  | i, v :: r => (i, v) :: zipFrom (i + 1) r
theorem fill_zip : ∀ (vs : List Value) (i : Nat) (cells : Array Value), (∀ v ∈ vs, v.oneCell' = true) → i + vs.length ≤ cells.size →
    Instr.fill (fun j => some (j * 1, 1)) cells (zipFrom i vs) = some (cells.toList.take i ++ vs ++ cells.toList.drop (i + vs.length)).toArray
  | [], i, cells, _, _ => by simp [zipFrom, Instr.fill]
  | v :: r, i, cells, h1, h2 => by
    have hv : v.cells = #[v] := by have := h1 v (List.mem_cons_self ..); cases v <;> simp_all [Value.cells, Value.oneCell']
    have hlt : i < cells.size := by simp at h2; omega
    simp only [zipFrom, Instr.fill, hv]
    have hc : ((#[v] : Array Value).size ≠ 1 || i * 1 + (#[v] : Array Value).size > cells.size) = false := by simp; omega
    rw [hc]
    simp only [Bool.false_eq_true, if_false]
    have hstep : (#[v] : Array Value).zipIdx.foldl (fun cs (x : Value × Nat) => cs.setIfInBounds (i * 1 + x.2) x.1) cells = cells.setIfInBounds i v := by simp
    rw [hstep, fill_zip r (i + 1) _ (fun u hu => h1 u (List.mem_cons_of_mem _ hu)) (by simp at h2 ⊢; omega)]
    congr 1
    congr 1
    have e1 : (cells.toList.set i v).take (i + 1) = cells.toList.take i ++ [v] := by
      rw [List.take_set, List.take_succ_eq_append_getElem (by simpa using hlt), List.set_append_right _ _ (by simp; omega)]
      simp [Nat.min_eq_left (Nat.le_of_lt hlt)]
    rw [Array.toList_setIfInBounds, e1, List.drop_set_of_lt (by omega)]
    simp [Nat.add_assoc, Nat.add_comm 1]
def Regs.evp (R : Regs) : List (Nat × Operand) → Option (List (Nat × Value))
  | [] => some []
  | (i, x) :: r => match R.ev x with | none => none | some v => match Regs.evp R r with | none => none | some vs => some ((i, v) :: vs)
theorem Mod.evp {a : Act} (h : Mod n a R) : ∀ {xs : List (Nat × Operand)} {vs : List (Nat × Value)}, R.evp xs = some vs → xs.map (fun p => (p.1, a.eval p.2)) = vs
  | [], vs, e => by simp only [Regs.evp, Option.some.injEq] at e; simp [← e]
  | (i, x) :: r, vs, e => by
    simp only [Regs.evp] at e
    cases h1 : R.ev x with
    | none => simp [h1] at e
    | some v =>
      cases h2 : R.evp r with
      | none => simp [h1, h2] at e
      | some us =>
        simp only [h1, h2, Option.some.injEq] at e
        simp [h.ev h1, h.evp h2, e]
theorem run_buildSlice [hT : HasU P T (.slice E)] {by_ : Nat} [hE : HasI P E 1 by_] [hz : HasZ P E (.int k 0)] (ns : List Int) (hn : ns.length ≤ 100000) (w : World) :
    (Instr.buildSlice T ns.length (zipFrom 0 (ns.map (Value.int k))).toArray).run P w = .ok (.slice (some ⟨w.heap.size, 0, none⟩) ns.length ns.length) (w.alloc (.cells (ns.map (Value.int k)).toArray E)) := by
  have hs := run_size w hE.size
  by_cases h0 : ns.length = 0
  · obtain rfl := List.eq_nil_of_length_eq_zero h0
    simp [Instr.buildSlice, run_underlying hT.eq, hs, zipFrom, Instr.fill, newRow, newObj, Sem.run, Sem.run_bind, Array.range_zero']
  · have hf := fill_zip (ns.map (Value.int k)) 0 ((Array.range (ns.length * 1)).map (fun x => (#[Value.int k 0] : Array Value)[x % 1]!)) oneCell_map (by simp)
    have hbig : ¬ (16777216 < ns.length) := by omega
    simp [Instr.buildSlice, run_underlying hT.eq, hs, hbig, h0, hz.eq w, Value.cells] at hf ⊢
    rw [hf]
    simp [newRow, newObj, Sem.run, List.drop_eq_nil_of_le]
/-- Whole numbers that are written out, in their order. -/
def Regs.evn (R : Regs) (k : IntKind) : Nat → List (Nat × Operand) → Option (List Int)
  | _, [] => some []
  | i, (j, x) :: r => match Nat.beq i j with
    | false => none
    | true => match R.ev x with
      | some (.int k' m) => match decide (k' = k) with
        | false => none
        | true => match Regs.evn R k (i + 1) r with
          | some ns => some (m :: ns)
          | none => none
      | _ => none
theorem evn_evp : ∀ {ps : List (Nat × Operand)} {i : Nat} {ns : List Int}, R.evn k i ps = some ns → R.evp ps = some (zipFrom i (ns.map (Value.int k)))
  | [], i, ns, h => by simp only [Regs.evn, Option.some.injEq] at h; subst h; rfl
  | (j, x) :: r, i, ns, h => by
    simp only [Regs.evn] at h
    cases h1 : Nat.beq i j with
    | false => simp [h1] at h
    | true =>
      rw [h1] at h
      have hij := Nat.eq_of_beq_eq_true h1
      subst hij
      cases h2 : R.ev x with
      | none => simp [h2] at h
      | some v =>
        rw [h2] at h
        cases v with
        | int k' m =>
          simp only at h
          by_cases hk : k' = k
          · have hk' := hk.symm
            subst hk'
            simp only [decide_true] at h
            cases h3 : R.evn k (i + 1) r with
            | none => simp [h3] at h
            | some us =>
              simp only [h3, Option.some.injEq] at h
              subst h
              simp only [Regs.evp, h2, evn_evp h3, List.map_cons, zipFrom]
          · simp [hk] at h
        | _ => simp at h
theorem X_buildS [hT : HasU P T (.slice E)] {by_ : Nat} [hE : HasI P E 1 by_] [hz : HasZ P E (.int k 0)] {ps : List (Nat × Operand)} {ns : List Int} (hp0 : R.evn k 0 ps = some ns) (hl : len = ns.length) (hn : ns.length ≤ 100000) (hd : Nat.blt d n = true)
    (q : ∀ g, w0.heap.size ≤ g → X P n ops Q rest ((d, .slice (some ⟨g, 0, none⟩) len len) :: R) (Hp w0 S (Ch.ints g k ns E :: cs))) :
    X P n ops Q (⟨some d, .buildSlice T len ps.toArray, ty, pos, af, none⟩ :: rest) R (Hp w0 S cs) :=
  X_alloc (val := fun g => .slice (some ⟨g, 0, none⟩) len len) (new := fun g => Ch.ints g k ns E) (fun a w hR hM => ⟨.cells (ns.map (Value.int k)).toArray E, by
    subst hl
    have e := hR.evp (evn_evp hp0)
    have e2 : ps.toArray.map (fun (x : Nat × Operand) => (x.1, a.eval x.2)) = (zipFrom 0 (ns.map (Value.int k))).toArray := by rw [List.map_toArray, e]
    simp only [execOp]
    rw [Sem.run_bind, e2, run_buildSlice ns hn w]
    rfl, heap_alloc_new w _, fun k hk => hk⟩) hd q

/-! ### In and out -/
def argRegs : Nat → List Value → Regs
  | _, [] => []
  | i, v :: r => (i, v) :: argRegs (i + 1) r
theorem argRegs_get (vs : List Value) : ∀ (i t : Nat) (u : Value), (argRegs i vs).get t = some u → i ≤ t ∧ vs[t - i]? = some u := by
  induction vs with
  | nil => intro i t u h; simp [argRegs, Regs.get] at h
  | cons v r ih =>
    intro i t u h
    simp only [argRegs, Regs.get] at h
    cases hb : Nat.beq i t with
    | true =>
      rw [hb] at h
      have := Nat.eq_of_beq_eq_true hb
      subst this
      exact ⟨Nat.le_refl _, by simpa using h⟩
    | false =>
      rw [hb] at h
      have hne := Nat.ne_of_beq_eq_false hb
      obtain ⟨h1, h2⟩ := ih (i + 1) t u h
      refine ⟨by omega, ?_⟩
      obtain ⟨q, rfl⟩ : ∃ q, t = i + 1 + q := ⟨t - (i + 1), by omega⟩
      rw [show i + 1 + q - i = q + 1 by omega]
      simpa [Nat.add_sub_cancel_left] using h2
theorem calls_of_X {fn : Func} {code : Code} {vs : List Value} {Rr : Ending → World → Prop} (hf : P.funcs[g]? = some fn) (hb : fn.body = some code) (hn : fn.ntmps = n) (hv : Nat.ble vs.length n = true) (hM : M w0)
    (h : XC P n code (bodyPost P fn Rr) (argRegs 0 vs) M) : Calls P g vs.toArray w0 Rr := by
  refine calls_of_wp hf hb (h.run _ w0 ⟨?_, rfl, fun t u e => ?_⟩ hM)
  · have : vs.length ≤ n := by simpa using hv
    simp [hn]; omega
  · obtain ⟨_, h2⟩ := argRegs_get vs 0 t u e
    rw [Nat.sub_zero] at h2
    have hlt : t < vs.length := (List.getElem?_eq_some_iff.1 h2).1
    rw [Array.getD_eq_getD_getElem?, Array.getElem?_append_left (by simpa using hlt)]
    simp [h2]

theorem XT_of {e : Exit} {fn : Func} {v : Value} {Rr : Ending → World → Prop} (he : e = .ret ∨ e = .normal) (hr : ∀ a w, Mod n a R → (results fn a.tmps).run P w = .ok v w) (h : ∀ w, M w → Rr (.returned v) w) : XT n (bodyPost P fn Rr) e R M := .mk fun a w hR hM => by
  rcases he with rfl | rfl <;> exact ⟨hR.defers, _, hr a w hR, h w hM⟩
theorem Mod.tmp {a : Act} {t : Nat} (h : Mod n a R) (e : R.get t = some v) : a.tmps.getD t undef = v := h.get t v e
theorem XT_ret0 {e : Exit} {fn : Func} {Rr : Ending → World → Prop} (he : e = .ret ∨ e = .normal) (hr : fn.results = #[]) (h : ∀ w, M w → Rr (.returned (.tuple #[])) w) : XT n (bodyPost P fn Rr) e R M :=
  XT_of he (fun a w hR => by simp [results, hr]) h
theorem XT_ret1 {e : Exit} {fn : Func} {t : Nat} {Rr : Ending → World → Prop} (he : e = .ret ∨ e = .normal) (hr : fn.results = #[.tmp t]) (hv : R.get t = some v) (h : ∀ w, M w → Rr (.returned v) w) : XT n (bodyPost P fn Rr) e R M :=
  XT_of he (fun a w hR => by rw [results_tmp hr, hR.tmp hv]) h
theorem XT_ret2 {e : Exit} {fn : Func} {t1 t2 : Nat} {v1 v2 : Value} {Rr : Ending → World → Prop} (he : e = .ret ∨ e = .normal) (hr : fn.results = #[.tmp t1, .tmp t2]) (h1 : R.get t1 = some v1) (h2 : R.get t2 = some v2) (h : ∀ w, M w → Rr (.returned (.tuple #[v1, v2])) w) : XT n (bodyPost P fn Rr) e R M :=
  XT_of he (fun a w hR => by rw [results_tmp2 hr, hR.tmp h1, hR.tmp h2]) h
theorem XT_ret3 {e : Exit} {fn : Func} {t1 t2 t3 : Nat} {v1 v2 v3 : Value} {Rr : Ending → World → Prop} (he : e = .ret ∨ e = .normal) (hr : fn.results = #[.tmp t1, .tmp t2, .tmp t3]) (h1 : R.get t1 = some v1) (h2 : R.get t2 = some v2) (h3 : R.get t3 = some v3)
    (h : ∀ w, M w → Rr (.returned (.tuple #[v1, v2, v3])) w) : XT n (bodyPost P fn Rr) e R M :=
  XT_of he (fun a w hR => by
    have e1 := hR.tmp h1
    have e2 := hR.tmp h2
    have e3 := hR.tmp h3
    simp [results, hr] at e1 e2 e3 ⊢
    simp [e1, e2, e3]) h
theorem XT_ret4 {e : Exit} {fn : Func} {t1 t2 t3 t4 : Nat} {v1 v2 v3 v4 : Value} {Rr : Ending → World → Prop} (he : e = .ret ∨ e = .normal) (hr : fn.results = #[.tmp t1, .tmp t2, .tmp t3, .tmp t4]) (h1 : R.get t1 = some v1) (h2 : R.get t2 = some v2) (h3 : R.get t3 = some v3) (h4 : R.get t4 = some v4)
    (h : ∀ w, M w → Rr (.returned (.tuple #[v1, v2, v3, v4])) w) : XT n (bodyPost P fn Rr) e R M :=
  XT_of he (fun a w hR => by
    have e1 := hR.tmp h1
    have e2 := hR.tmp h2
    have e3 := hR.tmp h3
    have e4 := hR.tmp h4
    simp [results, hr] at e1 e2 e3 e4 ⊢
    simp [e1, e2, e3, e4]) h
end
end Go.Proofs.Ytfkhdhdbfejbpaa.MX
