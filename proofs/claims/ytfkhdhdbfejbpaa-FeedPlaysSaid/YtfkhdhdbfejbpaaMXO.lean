/- What comes in: data by their types, opened once for all. No program in sight. -/
import Derived.Test.YtfkhdhdbfejbpaaMXL
import Derived.Deep.Slices
import Derived.OpenShut
import Derived.SizedLaws
import Derived.Laws.StructEq
namespace Go.Proofs.Ytfkhdhdbfejbpaa.MX
open Go Go.RowKit
set_option linter.unusedVariables false
set_option linter.unusedSimpArgs false
/-- A type's data: which cells hold what. -/
structure Shp (P : Program) (t : TypeId) (α : Type) where
  has : World → List Value → α → Prop
  ok : ∀ {H : Type} {enc : TypeId × Value → H} {base : Nat} {held : Bool} {fuel : Nat} {cs : List Value} {x : DataW H × List MemPlace} {w : World}, DataW.trod enc P w base (fun _ => true) held fuel t cs = some x → (∀ n ∈ x.1.weights P t, n ≤ reachBytes) → ∃ a, has w cs a
/-- A struct's fields. -/
structure ShF (P : Program) (fs : List Field) (α : Type) where
  has : World → List Value → α → Prop
  ok : ∀ {H : Type} {enc : TypeId × Value → H} {base : Nat} {held : Bool} {fuel : Nat} {cs : List Value} {w : World},
    (∀ (i : Nat) (f : Field), fs[i]? = some f → ∃ x, DataW.trod enc P w base (fun _ => true) held fuel f.type ((cs.drop f.offset).take (P.cellsOf f.type)) = some x ∧ ∀ n ∈ x.1.weights P f.type, n ≤ reachBytes) → ∃ a, has w cs a
section
variable {P : Program} {t e : TypeId} {α β : Type}
theorem weights_all {H : Type} : ∀ {ds : List (DataW H)} {d : DataW H}, d ∈ ds → ∀ n ∈ d.weights P e, n ∈ DataW.weightsAll P e ds
  | d0 :: ds, d, hd, n, hn => by
    simp only [DataW.weightsAll, List.mem_append]
    rcases List.mem_cons.1 hd with rfl | hd
    · exact .inl hn
    · exact .inr (weights_all hd n hn)
theorem list_of {p : Nat → α → Prop} : ∀ (n : Nat), (∀ i, i < n → ∃ a, p i a) → ∃ xs : List α, xs.length = n ∧ ∀ i x, xs[i]? = some x → p i x
  | 0, _ => ⟨[], rfl, fun i x h => by simp at h⟩
  | n + 1, h => by
    obtain ⟨xs, h1, h2⟩ := list_of n fun i hi => h i (by omega)
    obtain ⟨a, ha⟩ := h n (by omega)
    refine ⟨xs ++ [a], by simp [h1], fun i x hx => ?_⟩
    rcases Nat.lt_or_ge i xs.length with hi | hi
    · rw [List.getElem?_append_left hi] at hx
      exact h2 i x hx
    · rw [List.getElem?_append_right hi] at hx
      have : i - xs.length = 0 := by
        rcases Nat.eq_zero_or_pos (i - xs.length) with h0 | h0
        · exact h0
        · rw [List.getElem?_eq_none (by show 1 ≤ _; omega)] at hx; cases hx
      rw [this] at hx
      obtain rfl := Option.some.inj hx
      rw [show i = n by omega]
      exact ha
def shInt (k : IntKind) (ht : P.underlying t = some (.int k)) : Shp P t Int where
  has _ cs n := cs = [.int k n] ∧ (Lit.int k n).wf = true
  ok h _ := by obtain ⟨n, h1, _, h2⟩ := DataW.trod_int ht h; exact ⟨n, h1, h2⟩
def shBool (ht : P.underlying t = some .bool) : Shp P t Bool where
  has _ cs b := cs = [.bool b]
  ok h _ := by obtain ⟨b, h1, _⟩ := DataW.trod_bool ht h; exact ⟨b, h1⟩
def shStr (ht : P.underlying t = some .string) : Shp P t ByteArray where
  has _ cs s := cs = [.string s] ∧ s.size ≤ maxLen
  ok h _ := by obtain ⟨s, h1, _, h2⟩ := DataW.trod_string ht h; exact ⟨s, h1, h2⟩
def shSl (ht : P.underlying t = some (.slice e)) (s : Shp P e α) : Shp P t (Option Addr × Nat × List α) where
  has w cs a := cs = [.slice a.1 a.2.2.length a.2.1] ∧ a.2.2.length ≤ a.2.1 ∧ a.2.1 ≤ maxLen ∧ (a.1 = none → a.2.1 = 0) ∧ a.2.1 * P.bytesOf e ≤ reachBytes ∧
    ∀ j x, a.2.2[j]? = some x → ∃ cs', cs'.length = P.cellsOf e ∧ (∀ i v, cs'[i]? = some v → w.cell? ((adOf a.1).add (j * P.cellsOf e + i)) = some v) ∧ s.has w cs' x
  ok h hw := by
    rcases Deep.open_slice ht h with ⟨rfl, _⟩ | ⟨a, len, cap, m, n, D, Pl, rfl, hb, hl, hm, hmm, rfl, hx⟩
    · exact ⟨(none, 0, []), rfl, Nat.le_refl _, Nat.zero_le _, fun _ => rfl, by rw [Nat.zero_mul]; exact Nat.zero_le _, fun j x hj => by simp at hj⟩
    · simp only [if_true] at hmm
      subst hmm
      simp only [DataW.weights, ht, List.mem_cons, List.mem_append, List.length_map, List.length_range] at hw
      obtain ⟨xs, h1, h2⟩ := list_of (p := fun j x => ∃ cs', cs'.length = P.cellsOf e ∧ (∀ i v, cs'[i]? = some v → _root_.Go.World.cell? _ (a.add (j * P.cellsOf e + i)) = some v) ∧ s.has _ cs' x) len (fun i hi => by
        obtain ⟨cs', h1, h2⟩ := hx i (by omega)
        obtain ⟨x, hx⟩ := s.ok h2 (fun n hn => hw n (.inr (.inl (weights_all (List.mem_map.2 ⟨i, List.mem_range.2 hi, rfl⟩) n hn))))
        obtain ⟨_, hlen, hc⟩ := World.cells?_some h1
        exact ⟨x, cs', hlen, fun k v hv => by
          have hk : k < P.cellsOf e := by rw [← hlen]; exact (List.getElem?_eq_some_iff.1 hv).1
          have := hc k hk
          rwa [add_add _ _ _ (.inr trivial), hv] at this, hx⟩)
      refine ⟨(some a, m, xs), by rw [h1], by rw [h1]; exact hl, hm, fun h => (by cases h), ?_, h2⟩
      have := hw _ (.inl rfl)
      rwa [show len + (m - len) = m by omega] at this
def shNil : ShF P [] Unit where
  has _ _ _ := True
  ok _ := ⟨(), trivial⟩
def shCons {f : Field} {fs : List Field} (s : Shp P f.type α) (r : ShF P fs β) : ShF P (f :: fs) (α × β) where
  has w cs a := s.has w ((cs.drop f.offset).take (P.cellsOf f.type)) a.1 ∧ r.has w cs a.2
  ok h := by
    obtain ⟨x, hx, hw⟩ := h 0 f rfl
    obtain ⟨a, ha⟩ := s.ok hx hw
    obtain ⟨b, hb⟩ := r.ok fun i g hg => h (i + 1) g hg
    exact ⟨(a, b), ha, hb⟩
def shRec {fs : Array Field} (ht : P.underlying t = some (.struct fs)) (r : ShF P fs.toList α) : Shp P t α where
  has w cs a := cs.length = P.cellsOf t ∧ r.has w cs a
  ok h hw := by
    obtain ⟨xs, n, _, rfl, hl, hxl, hf⟩ := DataW.trod_struct ht h
    simp only [DataW.weights, ht] at hw
    obtain ⟨a, ha⟩ := r.ok (fun i f hif => by
      have hif' : fs[i]? = some f := by rw [← Array.getElem?_toList]; exact hif
      have hi : i < xs.length := by rw [hxl]; exact (Array.getElem?_eq_some_iff.1 hif').1
      refine ⟨xs[i], by rw [hf i f hif', List.getElem?_eq_getElem hi], fun n hn => hw n (DataW.weights_mem_each (j := i) (t := f.type) (d := xs[i].1) ?_ ?_ n hn)⟩
      · rw [List.getElem?_map, hif]; rfl
      · rw [List.getElem?_map, List.getElem?_eq_getElem hi]; rfl)
    exact ⟨a, hl, ha⟩
def shArr {n : Nat} (ht : P.underlying t = some (.array n e)) (s : Shp P e α) : Shp P t (List α) where
  has w cs xs := cs.length = P.cellsOf t ∧ xs.length = n ∧ ∀ i x, xs[i]? = some x → s.has w ((cs.drop (i * P.cellsOf e)).take (P.cellsOf e)) x
  ok h hw := by
    obtain ⟨ys, m, _, rfl, hl, hyl, hf⟩ := DataW.trod_array ht h
    simp only [DataW.weights, ht] at hw
    obtain ⟨xs, h1, h2⟩ := list_of (p := fun i x => s.has _ (List.take (P.cellsOf e) (List.drop (i * P.cellsOf e) _)) x) n (fun i hi => s.ok (x := ys[i]'(by omega)) (by rw [hf i hi, List.getElem?_eq_getElem]) (fun k hk => hw k (weights_all (List.mem_map.2 ⟨ys[i]'(by omega), List.getElem_mem _, rfl⟩) k hk)))
    exact ⟨xs, hl, h1, h2⟩
theorem reach_bd : reachBytes ≤ 140737488355327 := by decide
theorem adOf_some (a : Addr) : adOf (some a) = a := rfl
/-- A slice of whole numbers. -/
theorem shSl_ints {k : IntKind} {he : P.underlying e = some (.int k)} {ht : P.underlying t = some (.slice e)} (hc : P.cellsOf e = 1) {w : World} {cs : List Value} {a : Option Addr × Nat × List Int} (h : (shSl ht (shInt k he)).has w cs a) :
    cs = [.slice a.1 a.2.2.length a.2.1] ∧ Rds w a.1 a.2.1 k a.2.2 ∧ ∀ n ∈ a.2.2, (Lit.int k n).wf = true := by
  obtain ⟨h1, h2, h3, h4, _, h5⟩ := h
  have hm : maxLen ≤ 9223372036854775807 := by decide
  refine ⟨h1, ⟨h2, by omega, h4, fun j hj => ?_⟩, fun n hn => ?_⟩
  · obtain ⟨cs', g1, g2, g3, g4⟩ := h5 j _ (List.getElem?_eq_getElem hj)
    have := g2 0 (.int k a.2.2[j]) (by rw [g3]; rfl)
    rw [hc, Nat.mul_one, Nat.add_zero] at this
    rw [List.getD_eq_getElem?_getD, List.getElem?_eq_getElem hj]
    exact this
  · obtain ⟨j, hj⟩ := List.getElem?_of_mem hn
    obtain ⟨cs', g1, g2, g3, g4⟩ := h5 j _ hj
    exact g4
/-- A row of cells, each of its own. -/
theorem shSl_cell {s : Shp P e α} {ht : P.underlying t = some (.slice e)} (hc : P.cellsOf e = 1) {w : World} {cs : List Value} {a : Option Addr × Nat × List α} (h : (shSl ht s).has w cs a) {j : Nat} {x : α} (hx : a.2.2[j]? = some x) :
    ∃ v, w.cell? ((adOf a.1).add j) = some v ∧ s.has w [v] x := by
  obtain ⟨h1, h2, h3, h4, _, h5⟩ := h
  obtain ⟨cs', g1, g2, g3⟩ := h5 j x hx
  rw [hc] at g1 g2
  match cs', g1 with
  | [v], _ =>
    have := g2 0 v rfl
    rw [Nat.mul_one, Nat.add_zero] at this
    exact ⟨v, this, g3⟩
/-- An array of whole numbers, as a value. -/
theorem shArr_ints {k : IntKind} {n : Nat} {he : P.underlying e = some (.int k)} {ht : P.underlying t = some (.array n e)} (hc : P.cellsOf e = 1) (hn : P.cellsOf t = n) {w : World} {cs : List Value} {xs : List Int} (h : (shArr ht (shInt k he)).has w cs xs) :
    cs = xs.map (Value.int k) ∧ xs.length = n ∧ ∀ i, i < n → (Lit.int k (xs.getD i 0)).wf = true := by
  obtain ⟨h1, h2, h3⟩ := h
  rw [hn] at h1
  have key : ∀ i (hi : i < n), cs[i]? = some (.int k (xs.getD i 0)) ∧ (Lit.int k (xs.getD i 0)).wf = true := fun i hi => by
    obtain ⟨g1, g2⟩ := h3 i _ (List.getElem?_eq_getElem (by omega))
    rw [hc, Nat.mul_one] at g1
    have e : cs[i]? = some (.int k xs[i]) := by
      have := congrArg (fun l => l[0]?) g1
      simpa [List.getElem?_take, List.getElem?_drop] using this
    have e2 : xs.getD i 0 = xs[i] := by rw [List.getD_eq_getElem?_getD, List.getElem?_eq_getElem (by omega)]; rfl
    rw [e2]
    exact ⟨e, g2⟩
  refine ⟨List.ext_getElem? fun i => ?_, h2, fun i hi => (key i hi).2⟩
  rcases Nat.lt_or_ge i n with hi | hi
  · rw [(key i hi).1, map_getD (by omega)]
  · rw [List.getElem?_eq_none (by omega), List.getElem?_eq_none (by rw [List.length_map]; omega)]
theorem agg_of_cells {v : Value} {l : List Value} (h : v.cells.toList = l) (hl : l.length ≠ 1) : v = .agg l.toArray := by
  cases v with
  | agg cs => rw [← h]; show Value.agg cs = Value.agg cs.toList.toArray; simp
  | _ => exfalso; rw [← h] at hl; exact hl rfl
theorem one_of_cells {v u : Value} (h : v.cells.toList = [u]) (hv : ∀ cs, v ≠ .agg cs) : v = u := by
  cases v with
  | agg cs => exact absurd rfl (hv cs)
  | _ => exact (List.cons.inj h).1
end
/-! ### Arrays of whole numbers: whether they are one -/
theorem all_range_eqI : ∀ (xs ys : List Int), xs.length = ys.length → ((List.range xs.length).all fun i => xs.getD i 0 == ys.getD i 0) = decide (xs = ys)
  | [], [], _ => rfl
  | x :: xs, y :: ys, h => by
    have ih := all_range_eqI xs ys (by simpa using h)
    rw [List.length_cons, List.range_succ_eq_map, List.all_cons, List.all_map]
    simp only [List.getD_cons_zero, Function.comp_def, List.getD_cons_succ, ih]
    rw [Bool.eq_iff_iff]
    simp
  | [], _ :: _, h => by simp at h
  | _ :: _, [], h => by simp at h
theorem run_equalIn_ints {P : Program} (w : World) (d : Nat) (t e : TypeId) (n : Nat) (k : IntKind) (ht : P.underlying t = some (.array n e)) (he : P.underlying e = some (.int k)) (hsz : ∀ w, (sizeOf e).run P w = .ok 1 w)
    (xs ys : List Int) (hx : xs.length = n) (hy : ys.length = n) :
    (Op.equalIn (d + 2) t (.agg (xs.map (Value.int k)).toArray) (.agg (ys.map (Value.int k)).toArray)).run P w = .ok (decide (xs = ys)) w := by
  rw [← all_range_eqI xs ys (hx.trans hy.symm), hx, List.range_eq_range', Op.equalIn]
  simp only [Sem.run_bind, run_underlying ht, Result.andThen_ok, hsz, Std.Legacy.Range.forIn_eq_forIn_range', Std.Legacy.Range.size, Nat.sub_zero, Nat.add_sub_cancel, Nat.div_one]
  have hl : ∀ i ∈ List.range' 0 n 1, i < n := fun i hi => by simpa using (List.mem_range'_1.1 hi).2
  generalize List.range' 0 n 1 = l at hl ⊢
  induction l with
  | nil => simp
  | cons i l ih =>
    have hi : i < n := hl i (by simp)
    have px : (part e (xs.map (Value.int k)).toArray (i * 1)).run P w = .ok (.int k (xs.getD i 0)) w := by
      simp [part, isAgg, run_underlying he, List.getD, List.getElem?_eq_getElem (show i < xs.length by omega)]
    have py : (part e (ys.map (Value.int k)).toArray (i * 1)).run P w = .ok (.int k (ys.getD i 0)) w := by
      simp [part, isAgg, run_underlying he, List.getD, List.getElem?_eq_getElem (show i < ys.length by omega)]
    have pe := run_equalIn_int w d e k k (xs.getD i 0) (ys.getD i 0) he
    simp only [List.forIn_cons, Sem.run_bind, px, py, pe, Result.andThen_ok, List.all_cons]
    cases hb : (xs.getD i 0 == ys.getD i 0)
    · simp
    · simp only [Bool.not_true, Bool.false_eq_true, if_false, Sem.run_pure, Result.andThen_ok, Bool.true_and]
      exact ih fun j hj => hl j (by simp [hj])
section
variable {P : Program} {n N : Nat} {R : Regs} {M : World → Prop} {ty T T' E : TypeId} {x y : Operand} {k : IntKind} {xs ys : List Int}
theorem r_eqlA [hT : HasU P T (.array N E)] [hE : HasU P E (.int k)] {by_ : Nat} [hI : HasI P E 1 by_] (hx : R.ev x = some (.agg (xs.map (Value.int k)).toArray)) (hy : R.ev y = some (.agg (ys.map (Value.int k)).toArray)) (hg : P.eqGuardType P.depth T = false) (hlx : xs.length = N) (hly : ys.length = N) :
    Res P n (.binOp .eql T x y T') ty R M (.bool (decide (xs = ys))) := ⟨fun a w hR hM => by
  simp only [execOp, hR.ev hx, hR.ev hy, Sem.run_bind, run_eqGuard_agg w .eql T x y _ _ hg, Result.andThen_ok, run_eql_struct, run_equalIn_ints w 9998 T E N k hT.eq hE.eq (fun w => run_size w hI.size) xs ys hlx hly, Sem.run_pure]⟩
theorem r_neqA [hT : HasU P T (.array N E)] [hE : HasU P E (.int k)] {by_ : Nat} [hI : HasI P E 1 by_] (hx : R.ev x = some (.agg (xs.map (Value.int k)).toArray)) (hy : R.ev y = some (.agg (ys.map (Value.int k)).toArray)) (hg : P.eqGuardType P.depth T = false) (hlx : xs.length = N) (hly : ys.length = N) :
    Res P n (.binOp .neq T x y T') ty R M (.bool (!decide (xs = ys))) := ⟨fun a w hR hM => by
  simp only [execOp, hR.ev hx, hR.ev hy, Sem.run_bind, run_eqGuard_agg w .neq T x y _ _ hg, Result.andThen_ok, run_neq_struct, run_equalIn_ints w 9998 T E N k hT.eq hE.eq (fun w => run_size w hI.size) xs ys hlx hly, Sem.run_pure]⟩
end
end Go.Proofs.Ytfkhdhdbfejbpaa.MX
