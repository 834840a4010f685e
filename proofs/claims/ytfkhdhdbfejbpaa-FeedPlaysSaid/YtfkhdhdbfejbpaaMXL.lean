/- Calls in a row, loops of few rounds, lists that are written place by place. No program in sight. -/
import Derived.Test.YtfkhdhdbfejbpaaMXF
import Derived.Test.YtfkhdhdbfejbpaaMXH
import Derived.LoopN
namespace Go.Proofs.Ytfkhdhdbfejbpaa.MX
open Go Go.RowKit
set_option linter.unusedVariables false
set_option linter.unusedSimpArgs false
/-- A slice of whole numbers of one's own, that a call has made. -/
def NewS (e : TypeId) (k : IntKind) (w w' : World) (xs : List Int) (v : Value) : Prop :=
  ∃ A cap, v = .slice A xs.length cap ∧ (Ch.sl A cap e k xs).P w' ∧ ∀ j, (Ch.sl A cap e k xs).fp j → w.heap.size ≤ j
/-- What a call does that tells a list and changes nothing. -/
def Tells (e : TypeId) (k : IntKind) (w : World) (xs : List Int) : Ending → World → Prop := fun en w' => ∃ v, en = .returned v ∧ NewS e k w w' xs v ∧ Chg (fun _ => False) w w'
/-- What a call does that only reads. -/
def Says (w : World) (v : Value) : Ending → World → Prop := fun en w' => en = .returned v ∧ Chg (fun _ => False) w w'
section
variable {P : Program} {n : Nat} {ops : Array Oper} {md : Md} {Q : Exit → Act → World → Prop} {R : Regs} {rest : List Oper} {ty E : TypeId} {w0 : World} {S : Nat → Prop} {cs : List Ch} {d g : Nat} {pos : String} {af : Array Edge} {tys : Array TypeId} {k : IntKind} {v : Value} {code : Code} {M : World → Prop}
theorem rds_lt {w : World} {A : Option Addr} {c : Nat} {l : List Int} (hr : Rds w A c k l) (hl : l ≠ []) {ad : Addr} (e : A = some ad) : ad.block < w.heap.size := by
  have h0 : 0 < l.length := List.length_pos_iff.2 hl
  have h1 := World.block_lt_of_cell? _ _ (hr.at_ 0 h0)
  subst e
  rwa [add_block] at h1
/-- A call that tells a list. -/
theorem X_tells [hf : HasFn P g] {us : List Operand} {vs : List Value} (ha : R.evl us = some vs) (hd : Nat.blt d n = true) {z : List Int}
    (h : ∀ w, Hp w0 S cs w → Calls P g vs.toArray w (Tells E k w z))
    (q : ∀ A cap x, x = z → X P n ops Q rest ((d, .slice A x.length cap) :: R) (Hp w0 S (Ch.sl A cap E k x :: cs))) :
    X P n ops Q (⟨some d, .call { callee := .value (.func g), args := us.toArray, argTypes := tys }, ty, pos, af, none⟩ :: rest) R (Hp w0 S cs) :=
  X_call ha hd fun w hM => (h w hM).mono fun e w' hh => by
    obtain ⟨v, rfl, ⟨A, cap, rfl, h1, h2⟩, hc⟩ := hh
    exact ⟨_, rfl, _, hM.add hc h1 h2, q A cap z rfl⟩
/-- A call that only reads. -/
theorem Y_says [hf : HasFn P g] {us : List Operand} {vs : List Value} (ha : R.evl us = some vs) (hd : Nat.blt d n = true)
    (h : ∀ w, Hp w0 S cs w → Calls P g vs.toArray w (Says w v)) (q : Y P n ops md rest ((d, v) :: R) (Hp w0 S cs)) :
    Y P n ops md (⟨some d, .call { callee := .value (.func g), args := us.toArray, argTypes := tys }, ty, pos, af, none⟩ :: rest) R (Hp w0 S cs) :=
  Y_call ha hd (fun w hM => (h w hM).mono fun e w' hh => ⟨hh.1, hM.keep hh.2⟩) q
theorem Says.re {w : World} {v v' : Value} {g : Nat} {args : Array Value} (h : Calls P g args w (Says w v)) (e : v = v') : Calls P g args w (Says w v') := e ▸ h
theorem Says.keep {w : World} {e : Ending} (h : Says w v e w0) : Chg (fun _ => False) w w0 := h.2
/-- A loop of so many rounds, each walked as it stands. -/
structure XR (P : Program) (n : Nat) (m : Nat) (code : Code) (Q : Exit → Act → World → Prop) (R : Regs) (M : World → Prop) : Prop where run : ∀ a w, Mod n a R → M w → Code.rounds P code Q m a w
theorem XC_rounds (m : Nat) (h : XR P n m code Q R M) : XC P n (.loop code) Q R M := ⟨fun a w hR hM => wp_loop_rounds m (h.run a w hR hM)⟩
theorem XR_succ {m : Nat} (h : XC P n code (Exit.then (Code.rounds P code Q m) Q) R M) : XR P n (m + 1) code Q R M := ⟨h.run⟩
theorem XT_rounds {m : Nat} {K : Exit → Act → World → Prop} (h : XR P n m code Q R M) : XT n (Exit.then (Code.rounds P code Q m) K) .normal R M := ⟨h.run⟩
/-- Where branches meet: the slots and memory are as some i with I i tells. -/
theorem XC_mid {ι : Type} (I : ι → Prop) (RI : ι → Regs) (MI : ι → World → Prop) {c y : Code} {Q' : Exit → Act → World → Prop} (h1 : XC P n c (Exit.then (fun a w => ∃ i, I i ∧ Mod n a (RI i) ∧ MI i w) Q') R M) (h2 : ∀ i, I i → XC P n y Q (RI i) (MI i)) : XC P n c (Exit.then (y.wp P Q) Q') R M :=
  ⟨fun a w hR hM => Code.wp_mono (fun e a2 w2 hq => by
    cases e with
    | normal =>
      obtain ⟨i, hi, hR2, hM2⟩ := hq
      exact (h2 i hi).run a2 w2 hR2 hM2
    | _ => exact hq) (h1.run a w hR hM)⟩
theorem XT_mid {ι : Type} {I : ι → Prop} {RI : ι → Regs} {MI : ι → World → Prop} (i : ι) (hi : I i) (hs : Sub R (RI i)) (hm : ∀ w, M w → MI i w) :
    XT n (Exit.then (fun a w => ∃ i, I i ∧ Mod n a (RI i) ∧ MI i w) Q) .normal R M := ⟨fun a w hR hM => ⟨i, hi, hR.sub hs, hm w hM⟩⟩
/-- An element of whatever size, of a slice that is read. -/
theorem r_indexRs {T : TypeId} {x y : Operand} {A : Option Addr} {len cap i : Nat} [hT : HasU P T (.slice E)] {s by_ : Nat} [hE : HasI P E s by_] {e : Int} {k' : IntKind} (hx : R.ev x = some (.slice A len cap)) (hy : R.ev y = some (.int k' e)) [hi : NatOf e i] (hA : A = some (adOf A)) (hlt : i < len) :
    Res P n (.indexAddr T x y) ty R M (.pointer (some ((adOf A).add (i * s)))) := r_index (by rw [hx]; exact congrArg (fun z => some (Value.slice z len cap)) hA) hy hlt
/-- An array that is boxed. -/
theorem X_boxI {x : Operand} {xs : List Int} (hx : R.ev x = some (.agg (xs.map (Value.int k)).toArray)) (hd : Nat.blt d n = true) (q : ∀ g, w0.heap.size ≤ g → X P n ops Q rest ((d, .pointer (some ⟨g, 0, none⟩)) :: R) (Hp w0 S (Ch.ints g k xs E :: cs))) :
    X P n ops Q (⟨some d, .box E x, ty, pos, af, none⟩ :: rest) R (Hp w0 S cs) := X_boxA hx hd q
theorem XT_tells {e : Exit} {fn : Func} {t : Nat} {A : Option Addr} {cap l : Nat} {xs : List Int} {put : Ch → List Ch} (he : e = .ret ∨ e = .normal) (hr : fn.results = #[.tmp t]) (hv : R.get t = some (.slice A l cap)) (hl : l = xs.length) [h : PkS A cs cap E k xs put] :
    XT n (bodyPost P fn (Tells E k w0 xs)) e R (Hp w0 (fun _ => False) cs) := XT_ret1 he hr hv fun w hw => by
  subst hl
  obtain ⟨r, h1, _⟩ := h.ok
  have h2 := hw.of_perm h1
  exact ⟨_, rfl, ⟨A, cap, rfl, h2.head, fun j hj => (h2.own _ (List.mem_cons_self ..) j hj).resolve_left (fun h => h)⟩, hw.chg⟩
theorem XT_says {e : Exit} {fn : Func} {t : Nat} {u : Value} (he : e = .ret ∨ e = .normal) (hr : fn.results = #[.tmp t]) (hv : R.get t = some u) (hu : u = v) : XT n (bodyPost P fn (Says w0 v)) e R (Hp w0 (fun _ => False) cs) :=
  XT_ret1 he hr hv fun w hw => ⟨by rw [hu], hw.chg⟩
end
theorem wf8 {x : Int} (h : (Lit.int .u8 x).wf = true) : 0 ≤ x ∧ x < 256 := by
  have h2 : (decide (IntKind.u8.min ≤ x) && decide (x ≤ IntKind.u8.max)) = true := h
  rw [Bool.and_eq_true, decide_eq_true_eq, decide_eq_true_eq] at h2
  have e1 : IntKind.u8.min = 0 := by decide
  have e2 : IntKind.u8.max = 255 := by decide
  omega
theorem wf64 {x : Int} (h : (Lit.int .i64 x).wf = true) : -9223372036854775808 ≤ x ∧ x ≤ 9223372036854775807 := by
  have h2 : (decide (IntKind.i64.min ≤ x) && decide (x ≤ IntKind.i64.max)) = true := h
  rw [Bool.and_eq_true, decide_eq_true_eq, decide_eq_true_eq] at h2
  have e1 : IntKind.i64.min = -9223372036854775808 := by decide
  have e2 : IntKind.i64.max = 9223372036854775807 := by decide
  omega
theorem get8 {b : List Int} (h : ∀ n ∈ b, (Lit.int .u8 n).wf = true) : ∀ i, i < b.length → 0 ≤ b.getD i 0 ∧ b.getD i 0 < 256 := fun i hi => by
  have h1 : b.getD i 0 ∈ b := by rw [List.getD_eq_getElem?_getD, List.getElem?_eq_getElem hi]; exact List.getElem_mem hi
  exact wf8 (h _ h1)
section
variable {w0 w w' : World} {S : Nat → Prop} {cs ds : List Ch} {c : Ch}
theorem Hp.rot3 {a b c : Ch} (h : Hp w0 S [a, b, c] w) : Hp w0 S [c, a, b] w := h.of_perm (List.perm_append_comm (l₁ := [a, b]) (l₂ := [c]))
theorem Hp.rot4 {a b c d : Ch} (h : Hp w0 S [a, b, c, d] w) : Hp w0 S [d, a, b, c] w := h.of_perm (List.perm_append_comm (l₁ := [a, b, c]) (l₂ := [d]))
theorem Hp.back3 {a b c : Ch} (h : Hp w0 S [a, b, c] w) : Hp w0 S [b, c, a] w := h.of_perm (List.perm_append_comm (l₁ := [a]) (l₂ := [b, c]))
theorem Hp.back4 {a b c d : Ch} (h : Hp w0 S [a, b, c, d] w) : Hp w0 S [b, c, d, a] w := h.of_perm (List.perm_append_comm (l₁ := [a]) (l₂ := [b, c, d]))
/-- A call that has a part and turns it into others: the rest stays. -/
theorem Hp.frame (h : Hp w0 S (c :: cs) w) (h2 : Hp w c.fp ds w') : Hp w0 S (ds ++ cs) w' := by
  obtain ⟨hs1, hs2⟩ := List.pairwise_cons.1 h.sep
  have hlt : ∀ x ∈ cs, ∀ k, x.fp k → k < w.heap.size := fun x hx k hk => x.bd w k (h.sat x (List.mem_cons_of_mem _ hx)) hk
  have hap : ∀ d ∈ ds, ∀ x ∈ cs, ∀ k, d.fp k → ¬ x.fp k := fun d hd x hx k hk hxk => by
    rcases h2.own d hd k hk with hc | hc
    · exact hs1 x hx k hc hxk
    · have := hlt x hx k hxk; omega
  refine ⟨h.chg.over h2.chg (fun i hi hc => (h.own c (List.mem_cons_self ..) i hc).resolve_right (by omega)), fun x hx => ?_, fun x hx k hk => ?_, List.pairwise_append.2 ⟨h2.sep, hs2, hap⟩⟩
  · rcases List.mem_append.1 hx with hx | hx
    · exact h2.sat x hx
    · exact x.loc w w' (fun k hk => h2.chg.block k (hlt x hx k hk) (fun hc => hs1 x hx k hc hk)) (h.sat x (List.mem_cons_of_mem _ hx))
  · rcases List.mem_append.1 hx with hx | hx
    · rcases h2.own x hx k hk with hc | hc
      · exact h.own c (List.mem_cons_self ..) k hc
      · exact .inr (Nat.le_trans h.chg.size hc)
    · exact h.own x (List.mem_cons_of_mem _ hx) k hk
/-- A call that makes parts. -/
theorem Hp.frame0 (h : Hp w0 S cs w) (h2 : Hp w (fun _ => False) ds w') : Hp w0 S (ds ++ cs) w' := by
  have hlt : ∀ x ∈ cs, ∀ k, x.fp k → k < w.heap.size := fun x hx k hk => x.bd w k (h.sat x hx) hk
  have hnew : ∀ d ∈ ds, ∀ k, d.fp k → w.heap.size ≤ k := fun d hd k hk => (h2.own d hd k hk).resolve_left (fun h => h)
  refine ⟨h.chg.over h2.chg (fun i hi hc => hc.elim), fun x hx => ?_, fun x hx k hk => ?_, List.pairwise_append.2 ⟨h2.sep, h.sep, fun d hd x hx k hk hxk => ?_⟩⟩
  · rcases List.mem_append.1 hx with hx | hx
    · exact h2.sat x hx
    · exact x.loc w w' (fun k hk => h2.chg.block k (hlt x hx k hk) (fun hc => hc)) (h.sat x hx)
  · rcases List.mem_append.1 hx with hx | hx
    · exact .inr (Nat.le_trans h.chg.size (hnew x hx k hk))
    · exact h.own x hx k hk
  · have := hnew d hd k hk
    have := hlt x hx k hxk
    omega
end
/-! ### Lists by their places -/
theorem getD_set {α : Type} (a : List α) (i j : Nat) (x d : α) (hi : i < a.length) : (a.set i x).getD j d = if j = i then x else a.getD j d := by
  rw [List.getD_eq_getElem?_getD, List.getElem?_set]
  by_cases h : i = j
  · subst h; simp [hi]
  · rw [if_neg h, if_neg (fun e => h e.symm), List.getD_eq_getElem?_getD]
theorem ext_getD {α : Type} {a b : List α} {n : Nat} (d : α) (ha : a.length = n) (hb : b.length = n) (h : ∀ j, j < n → a.getD j d = b.getD j d) : a = b := by
  apply List.ext_getElem (by omega)
  intro j h1 h2
  have := h j (by omega)
  rw [List.getD_eq_getElem?_getD, List.getD_eq_getElem?_getD, List.getElem?_eq_getElem h1, List.getElem?_eq_getElem h2] at this
  exact this
def mkn (n : Nat) (f : Nat → Int) : List Int := (List.range n).map f
theorem mkn_len (n : Nat) (f : Nat → Int) : (mkn n f).length = n := by rw [mkn, List.length_map, List.length_range]
theorem mkn_get {n : Nat} (f : Nat → Int) {i : Nat} (h : i < n) : (mkn n f).getD i 0 = f i := by
  rw [mkn, List.getD_eq_getElem?_getD, List.getElem?_map, List.getElem?_range h]; rfl
theorem mkn_congr {n : Nat} {f g : Nat → Int} (h : ∀ i, i < n → f i = g i) : mkn n f = mkn n g := ext_getD 0 (mkn_len _ _) (mkn_len _ _) fun i hi => by rw [mkn_get f hi, mkn_get g hi, h i hi]
theorem mkn_self {n : Nat} {l : List Int} (h : l.length = n) : mkn n (fun i => l.getD i 0) = l := ext_getD 0 (mkn_len _ _) h fun i hi => mkn_get _ hi
/-- Where p: from z, else from s. -/
def sel (n : Nat) (p : Nat → Bool) (z s : Nat → Int) : List Int := mkn n fun j => if p j = true then z j else s j
theorem sel_len {n : Nat} {p : Nat → Bool} {z s : Nat → Int} : (sel n p z s).length = n := mkn_len _ _
theorem sel_get {n : Nat} {p : Nat → Bool} {z s : Nat → Int} {j : Nat} (hj : j < n) : (sel n p z s).getD j 0 = if p j = true then z j else s j := mkn_get _ hj
theorem sel_set {n : Nat} {p p' : Nat → Bool} {z s : Nat → Int} {t : Nat} {x : Int} (ht : t < n) (hx : x = z t) (h : ∀ j, j < n → p' j = (p j || j == t)) : (sel n p z s).set t x = sel n p' z s :=
  ext_getD 0 (by rw [List.length_set, sel_len]) sel_len fun j hj => by
    rw [getD_set _ _ _ _ _ (by rw [sel_len]; exact ht), sel_get hj, sel_get hj, h j hj]
    by_cases e : j = t
    · subst e; simp [hx]
    · rw [if_neg e]; simp [e]
theorem sel_all {n : Nat} {p : Nat → Bool} {z s : Nat → Int} (h : ∀ j, j < n → p j = true) : sel n p z s = mkn n z := mkn_congr fun j hj => by rw [if_pos (h j hj)]
theorem sel_none {n : Nat} {p : Nat → Bool} {z s : Nat → Int} (h : ∀ j, j < n → p j = false) : sel n p z s = mkn n s := mkn_congr fun j hj => by rw [if_neg (by rw [h j hj]; decide)]
end Go.Proofs.Ytfkhdhdbfejbpaa.MX
