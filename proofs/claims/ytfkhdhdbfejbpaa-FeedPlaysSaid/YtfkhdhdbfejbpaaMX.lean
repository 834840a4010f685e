/- Walking with a list of slots and a list of memory's parts, in the place of frames and worlds written out. No program in sight. -/
import Derived.Below
import Derived.Laws.Rows
import Derived.OneCell
import Derived.WalkKit
import Derived.KernelRfl
import Derived.StillTail
import Derived.Deep.Quiet
import Derived.Deep.MidRow
import Derived.Laws.AppendOwn
import Derived.Laws.MakeOwn
import Derived.Laws.OwnMore
namespace Go.Proofs.Ytfkhdhdbfejbpaa.MX
open Go Go.RowKit
set_option linter.unusedVariables false
set_option linter.unusedSimpArgs false
set_option linter.unusedVariables false

/-! ### What a call leaves alone -/
/-- What was there is as it was, but for the blocks in S; new blocks may have come. -/
structure Chg (S : Nat → Prop) (w w' : World) : Prop where
  os : w'.os = w.os
  tape : w'.tape = w.tape
  output : w'.output = w.output
  size : w.heap.size ≤ w'.heap.size
  block : ∀ k, k < w.heap.size → ¬ S k → w'.heap[k]? = w.heap[k]?
section
variable {S R : Nat → Prop} {w w' w'' : World}
theorem Chg.refl (S : Nat → Prop) (w : World) : Chg S w w := ⟨rfl, rfl, rfl, Nat.le_refl _, fun _ _ _ => rfl⟩
theorem Chg.over (h : Chg S w w') (k : Chg R w' w'') (hr : ∀ i, i < w.heap.size → R i → S i) : Chg S w w'' :=
  ⟨k.os.trans h.os, k.tape.trans h.tape, k.output.trans h.output, Nat.le_trans h.size k.size, fun i hi hs => (k.block i (Nat.lt_of_lt_of_le hi h.size) (fun x => hs (hr i hi x))).trans (h.block i hi hs)⟩
theorem Chg.trans (h : Chg S w w') (k : Chg S w' w'') : Chg S w w'' := h.over k fun _ _ x => x
theorem Chg.mono (h : Chg S w w') (hs : ∀ k, k < w.heap.size → S k → R k) : Chg R w w' :=
  ⟨h.os, h.tape, h.output, h.size, fun k hk hr => h.block k hk (fun s => hr (hs k hk s))⟩
theorem Chg.of_below (h : Below w.heap.size w w') : Chg S w w' := ⟨h.os, h.tape, h.output, h.size, fun k hk _ => h.block k hk⟩
theorem Chg.below (h : Chg S w w') (hs : ∀ k, k < w.heap.size → ¬ S k) : Below w.heap.size w w' := ⟨h.os, h.tape, h.output, h.size, fun k hk => h.block k hk (hs k hk)⟩
theorem Chg.drewN (h : Chg S w w') (n : Nat) : Chg S w (w'.drewN n) := ⟨h.os, h.tape, h.output, h.size, h.block⟩
theorem Chg.alloc (h : Chg S w w') (o : Obj) : Chg S w (w'.alloc o) := h.trans (.of_below ((Below.refl _ _).alloc (Nat.le_refl _) _))
theorem Chg.set (h : Chg S w w') {a : Addr} (ha : a.block < w.heap.size → S a.block) (u : Value) : Chg S w (w'.setCell a u) :=
  ⟨h.os, h.tape, h.output, by simpa using h.size, fun k hk hs => by
    rw [heap_setCell_other _ _ _ _ (fun e => by subst e; exact hs (ha hk))]
    exact h.block k hk hs⟩
theorem Chg.grown {row : Option Nat} (h : Chg S w w') (hg : w'.grownBy w'' row) (hr : ∀ k, row = some k → k < w.heap.size → S k) : Chg S w w'' :=
  ⟨hg.os.trans h.os, hg.tape.trans h.tape, hg.output.trans h.output, Nat.le_trans h.size hg.size, fun k hk hs => (hg.block k (Nat.lt_of_lt_of_le hk h.size) (fun e => hs (hr k e.symm hk))).trans (h.block k hk hs)⟩
theorem cell_chg {a : Addr} {v : Value} (h : w.cell? a = some v) (hc : Chg S w w') (hs : ¬ S a.block) : w'.cell? a = some v := by
  have hlt := World.block_lt_of_cell? w a h
  have e := hc.block a.block hlt hs
  simpa [World.cell?, e] using h
end

/-! ### Slots -/
abbrev Regs := List (Nat × Value)
def Regs.get : Regs → Nat → Option Value
  | [], _ => none
  | (u, v) :: r, t => match Nat.beq u t with | true => some v | false => Regs.get r t
def Regs.ev (R : Regs) : Operand → Option Value
  | .tmp t => R.get t
  | .const v => some v
  | .global g => some (.pointer (some ⟨g, 0, none⟩))
  | .func f => some (.func (.func f) #[] #[])
def Regs.evl (R : Regs) : List Operand → Option (List Value)
  | [] => some []
  | x :: xs => match R.ev x with | none => none | some v => match Regs.evl R xs with | none => none | some vs => some (v :: vs)
/-- The frame's slots hold at least this. -/
structure Mod (n : Nat) (a : Act) (R : Regs) : Prop where
  size : a.tmps.size = n
  defers : a.defers = []
  get : ∀ t v, R.get t = some v → a.tmps.getD t undef = v
section
variable {n : Nat} {a : Act} {R : Regs}
theorem Mod.ev (h : Mod n a R) {x : Operand} {v : Value} (e : R.ev x = some v) : a.eval x = v := by
  cases x with
  | tmp t => exact h.get t v e
  | const c => exact Option.some.inj e
  | global g => exact Option.some.inj e
  | func f => exact Option.some.inj e
theorem Mod.evl (h : Mod n a R) : ∀ {xs : List Operand} {vs : List Value}, R.evl xs = some vs → xs.map a.eval = vs
  | [], vs, e => by simp only [Regs.evl, Option.some.injEq] at e; simp [← e]
  | x :: xs, vs, e => by
    simp only [Regs.evl] at e
    cases h1 : R.ev x with
    | none => simp [h1] at e
    | some v =>
      cases h2 : R.evl xs with
      | none => simp [h1, h2] at e
      | some us =>
        simp only [h1, h2, Option.some.injEq] at e
        simp [h.ev h1, h.evl h2, e]
theorem Mod.put (h : Mod n a R) {d : Nat} (hd : Nat.blt d n = true) (v : Value) : Mod n (a.put (some d) v) ((d, v) :: R) := by
  have hd' : d < a.tmps.size := by rw [h.size]; exact by simpa [Nat.blt_eq] using hd
  refine ⟨by simpa [Act.put] using h.size, by simpa [Act.put] using h.defers, fun t u e => ?_⟩
  simp only [Regs.get] at e
  simp only [Act.put, Array.getD_eq_getD_getElem?, Array.getElem?_setIfInBounds]
  cases hb : Nat.beq d t with
  | true =>
    rw [hb] at e
    have hdt : d = t := Nat.eq_of_beq_eq_true hb
    subst hdt
    rw [if_pos rfl, if_pos hd']
    exact Option.some.inj e
  | false =>
    rw [hb] at e
    have hdt : d ≠ t := Nat.ne_of_beq_eq_false hb
    rw [if_neg hdt]
    have := h.get t u e
    rwa [Array.getD_eq_getD_getElem?] at this
theorem Mod.put_none (h : Mod n a R) (v : Value) : Mod n (a.put none v) R := h
end
/-- R holds what is listed. -/
def Sub (R : Regs) : Regs → Prop
  | [] => True
  | (t, v) :: r => R.get t = some v ∧ Sub R r
theorem Mod.sub {n : Nat} {a : Act} {R : Regs} (h : Mod n a R) : ∀ {R' : Regs}, Sub R R' → Mod n a R'
  | [], _ => ⟨h.size, h.defers, fun t v e => by simp [Regs.get] at e⟩
  | (t, v) :: r, hs => by
    have h2 := h.sub hs.2
    refine ⟨h.size, h.defers, fun t' v' e => ?_⟩
    simp only [Regs.get] at e
    cases hb : Nat.beq t t' with
    | true =>
      rw [hb] at e
      have htt : t = t' := Nat.eq_of_beq_eq_true hb
      subst htt
      rw [h.get t v hs.1]
      exact Option.some.inj e
    | false =>
      rw [hb] at e
      exact h2.get t' v' e

/-! ### Parts of memory -/
/-- A part of memory: the blocks that it has, and what holds of them. -/
structure Ch where
  fp : Nat → Prop
  P : World → Prop
  loc : ∀ w w' : World, (∀ k, fp k → w'.heap[k]? = w.heap[k]?) → P w → P w'
  bd : ∀ w k, P w → fp k → k < w.heap.size
/-- Block b is these cells, all of which may be written. -/
def Ch.blk (b : Nat) (cs : List Value) (T : TypeId) : Ch :=
  ⟨fun k => k = b, fun w => w.heap[b]? = some (.cells cs.toArray T (0, 0)), fun w w' h e => (h b rfl).trans e, fun w k e hk => by subst hk; exact lt_of_block e⟩
/-- Block b is these whole numbers. -/
def Ch.ints (b : Nat) (k : IntKind) (xs : List Int) (T : TypeId) : Ch := Ch.blk b (xs.map (Value.int k)) T
/-- Slice value v owns its row. -/
def Ch.row (base : Nat) (e : TypeId) (size : Nat) (v : Value) (n : Nat) (xs : List Value) : Ch :=
  ⟨fun k => v.ownBlock = some k, fun w => w.ownsRow base e size v n xs, fun w w' h e => by
    obtain ⟨h1, h2⟩ := e
    refine ⟨h1, ?_⟩
    rcases h2 with h2 | ⟨g, cap, cur, rfl, h3, h4, h5⟩
    · exact .inl h2
    · exact .inr ⟨g, cap, cur, rfl, h3, (h g rfl).trans h4, h5⟩, fun w k e hk => (e.lt k hk).2⟩

/-- Memory behind w0: the parts cs are there, apart; what was there is as it was but for the blocks in S. -/
structure Hp (w0 : World) (S : Nat → Prop) (cs : List Ch) (w : World) : Prop where
  chg : Chg S w0 w
  sat : ∀ c ∈ cs, c.P w
  own : ∀ c ∈ cs, ∀ k, c.fp k → S k ∨ w0.heap.size ≤ k
  sep : cs.Pairwise fun c d => ∀ k, c.fp k → ¬ d.fp k
section
variable {w0 w w' : World} {S : Nat → Prop} {cs ds : List Ch} {c d : Ch}
theorem Hp.nil (w0 : World) (S : Nat → Prop) : Hp w0 S [] w0 := ⟨Chg.refl _ _, by simp, by simp, .nil⟩
theorem Hp.drewN (h : Hp w0 S cs w) (n : Nat) : Hp w0 S cs (w.drewN n) :=
  ⟨h.chg.drewN n, fun c hc => c.loc w _ (fun _ _ => rfl) (h.sat c hc), h.own, h.sep⟩
/-- What was there, and may not be written, reads as it did. -/
theorem Hp.old (h : Hp w0 S cs w) {a : Addr} {v : Value} (hc : w0.cell? a = some v) (hs : ¬ S a.block) : w.cell? a = some v := cell_chg hc h.chg hs
theorem Hp.tail (h : Hp w0 S (c :: cs) w) : Hp w0 S cs w :=
  ⟨h.chg, fun x hx => h.sat x (List.mem_cons_of_mem _ hx), fun x hx => h.own x (List.mem_cons_of_mem _ hx), (List.pairwise_cons.1 h.sep).2⟩
theorem Hp.swap (h : Hp w0 S (c :: d :: cs) w) : Hp w0 S (d :: c :: cs) w := by
  obtain ⟨h1, h2⟩ := List.pairwise_cons.1 h.sep
  obtain ⟨h3, h4⟩ := List.pairwise_cons.1 h2
  refine ⟨h.chg, fun x hx => h.sat x (by simp only [List.mem_cons] at hx ⊢; rcases hx with e | e | e <;> simp [e]), fun x hx => h.own x (by simp only [List.mem_cons] at hx ⊢; rcases hx with e | e | e <;> simp [e]), ?_⟩
  refine .cons (fun x hx => ?_) (.cons (fun x hx => h1 x (List.mem_cons_of_mem _ hx)) h4)
  rcases List.mem_cons.1 hx with rfl | hx
  · exact fun k a b => h1 d (List.mem_cons_self ..) k b a
  · exact h3 x hx
theorem Hp.of_perm (h : Hp w0 S cs w) (p : cs.Perm ds) : Hp w0 S ds w :=
  ⟨h.chg, fun x hx => h.sat x (p.mem_iff.2 hx), fun x hx => h.own x (p.mem_iff.2 hx), p.pairwise h.sep (fun hab k a b => hab k b a)⟩
theorem perm_front (pre post : List Ch) (c : Ch) : (pre ++ c :: post).Perm (c :: (pre ++ post)) := List.perm_middle
/-- One part is turned into another one, which has its blocks or new ones: all else stays. -/
theorem Hp.turn (h : Hp w0 S (c :: cs) w) (hg : Chg c.fp w w') (hd : d.P w') (hf : ∀ k, d.fp k → c.fp k ∨ w.heap.size ≤ k) : Hp w0 S (d :: cs) w' := by
  obtain ⟨hs1, hs2⟩ := List.pairwise_cons.1 h.sep
  have hlt : ∀ x ∈ cs, ∀ k, x.fp k → k < w.heap.size := fun x hx k hk => x.bd w k (h.sat x (List.mem_cons_of_mem _ hx)) hk
  have hstay : ∀ x ∈ cs, ∀ k, x.fp k → w'.heap[k]? = w.heap[k]? := fun x hx k hk => hg.block k (hlt x hx k hk) (fun hc => hs1 x hx k hc hk)
  refine ⟨h.chg.over hg (fun i hi hc => (h.own c (List.mem_cons_self ..) i hc).resolve_right (by omega)), fun x hx => ?_, fun x hx k hk => ?_, .cons (fun x hx k hk hxk => ?_) hs2⟩
  · rcases List.mem_cons.1 hx with rfl | hx
    · exact hd
    · exact x.loc w w' (hstay x hx) (h.sat x (List.mem_cons_of_mem _ hx))
  · rcases List.mem_cons.1 hx with rfl | hx
    · rcases hf k hk with hc | hn
      · exact h.own c (List.mem_cons_self ..) k hc
      · exact .inr (Nat.le_trans h.chg.size hn)
    · exact h.own x (List.mem_cons_of_mem _ hx) k hk
  · rcases hf k hk with hc | hn
    · exact hs1 x hx k hc hxk
    · have := hlt x hx k hxk
      omega
/-- A new part comes. -/
theorem Hp.add (h : Hp w0 S cs w) (hg : Chg (fun _ => False) w w') (hd : d.P w') (hf : ∀ k, d.fp k → w.heap.size ≤ k) : Hp w0 S (d :: cs) w' := by
  have hlt : ∀ x ∈ cs, ∀ k, x.fp k → k < w.heap.size := fun x hx k hk => x.bd w k (h.sat x hx) hk
  refine ⟨h.chg.over hg (fun i hi hc => hc.elim), fun x hx => ?_, fun x hx k hk => ?_, .cons (fun x hx k hk hxk => ?_) h.sep⟩
  · rcases List.mem_cons.1 hx with rfl | hx
    · exact hd
    · exact x.loc w w' (fun k hk => hg.block k (hlt x hx k hk) (fun hc => hc)) (h.sat x hx)
  · rcases List.mem_cons.1 hx with rfl | hx
    · exact .inr (Nat.le_trans h.chg.size (hf k hk))
    · exact h.own x hx k hk
  · have := hf k hk
    have := hlt x hx k hxk
    omega
/-- Nothing but new blocks, of which nothing is told. -/
theorem Hp.keep (h : Hp w0 S cs w) (hg : Chg (fun _ => False) w w') : Hp w0 S cs w' :=
  ⟨h.chg.over hg (fun i hi hc => hc.elim), fun x hx => x.loc w w' (fun k hk => hg.block k (x.bd w k (h.sat x hx) hk) (fun hc => hc)) (h.sat x hx), h.own, h.sep⟩
theorem Hp.blk_at {b : Nat} {xs : List Value} {T : TypeId} (h : Hp w0 S cs w) (hm : Ch.blk b xs T ∈ cs) : w.heap[b]? = some (.cells xs.toArray T (0, 0)) := h.sat _ hm
theorem Hp.blk_cell {b i : Nat} {xs : List Value} {T : TypeId} {v : Value} (h : Hp w0 S cs w) (hm : Ch.blk b xs T ∈ cs) (hi : xs[i]? = some v) : w.cell? ⟨b, i, none⟩ = some v := by
  simp [World.cell?, h.blk_at hm, hi]
theorem blk_set {b i : Nat} {xs : List Value} {T : TypeId} (u : Value) (h : Hp w0 S (Ch.blk b xs T :: cs) w) : Hp w0 S (Ch.blk b (xs.set i u) T :: cs) (w.setCell ⟨b, i, none⟩ u) :=
  h.turn (Chg.set (S := fun k => k = b) (a := ⟨b, i, none⟩) (Chg.refl _ _) (fun _ => rfl) u) (by
    show (w.setCell ⟨b, i, none⟩ u).heap[b]? = _
    have e : w.heap[b]? = some (.cells xs.toArray T (0, 0)) := h.sat _ (List.mem_cons_self ..)
    exact (heap_setCell_same _ _ _ _ _ _ e).trans (by simp)) (fun k hk => .inl hk)
theorem blk_free {b i : Nat} {xs : List Value} {T : TypeId} (h : Hp w0 S (Ch.blk b xs T :: cs) w) : w.frozen? ⟨b, i, none⟩ = false := by
  have e : w.heap[b]? = some (.cells xs.toArray T (0, 0)) := h.sat _ (List.mem_cons_self ..)
  simp [World.frozen?, e]
theorem blk_new (xs : List Value) (T : TypeId) (h : Hp w0 S cs w) : Hp w0 S (Ch.blk w.heap.size xs T :: cs) (w.alloc (.cells xs.toArray T)) :=
  h.add ((Chg.refl _ _).alloc _) (heap_alloc_new w _) (fun k hk => by rw [show k = w.heap.size from hk]; exact Nat.le_refl _)
end
/-- A frame for memory: what an assertion may be, drawn on. -/
def Drw (M : World → Prop) : Prop := ∀ w n, M w → M (w.drewN n)
theorem drw_hp {w0 : World} {S : Nat → Prop} {cs : List Ch} : Drw (Hp w0 S cs) := fun _ n h => h.drewN n

/-! ### Judgements -/
structure XT (n : Nat) (Q : Exit → Act → World → Prop) (e : Exit) (R : Regs) (M : World → Prop) : Prop where run : ∀ a w, Mod n a R → M w → Q e a w
structure XC (P : Program) (n : Nat) (c : Code) (Q : Exit → Act → World → Prop) (R : Regs) (M : World → Prop) : Prop where run : ∀ a w, Mod n a R → M w → c.wp P Q a w
/-- How a region is walked: in the text's order as it stands, or once for every order. -/
inductive Md where
  | x (Q : Exit → Act → World → Prop)
  | q (K : Act → Prop)
inductive Y (P : Program) (n : Nat) (ops : Array Oper) : Md → List Oper → Regs → (World → Prop) → Prop
  | x {Q : Exit → Act → World → Prop} {rest : List Oper} {R : Regs} {M : World → Prop} : (∀ a w, Mod n a R → M w → wpList P ops Q rest a w) → Y P n ops (.x Q) rest R M
  | q {K : Act → Prop} {rest : List Oper} {R : Regs} {M : World → Prop} : (∀ a, Mod n a R → wpQuiet P ops M K rest a) → Y P n ops (.q K) rest R M
theorem Y.runX {P : Program} {n : Nat} {ops : Array Oper} {Q : Exit → Act → World → Prop} {rest : List Oper} {R : Regs} {M : World → Prop} (h : Y P n ops (.x Q) rest R M) : ∀ a w, Mod n a R → M w → wpList P ops Q rest a w := by cases h; assumption
theorem Y.runQ {P : Program} {n : Nat} {ops : Array Oper} {K : Act → Prop} {rest : List Oper} {R : Regs} {M : World → Prop} (h : Y P n ops (.q K) rest R M) : ∀ a, Mod n a R → wpQuiet P ops M K rest a := by cases h; assumption
abbrev X (P : Program) (n : Nat) (ops : Array Oper) (Q : Exit → Act → World → Prop) (rest : List Oper) (R : Regs) (M : World → Prop) : Prop := Y P n ops (.x Q) rest R M
abbrev XQ (P : Program) (n : Nat) (ops : Array Oper) (K : Act → Prop) (rest : List Oper) (R : Regs) (M : World → Prop) : Prop := Y P n ops (.q K) rest R M
/-- An operation that reads: its value, in every world of M. -/
structure Res (P : Program) (n : Nat) (op : Op) (ty : TypeId) (R : Regs) (M : World → Prop) (v : Value) : Prop where
  run : ∀ a w, Mod n a R → M w → (execOp a.eval ⟨none, op, ty, "", #[], none⟩).run P w = .ok (.value v) w
structure ResS (P : Program) (n : Nat) (op : Op) (ty : TypeId) (R : Regs) (M : World → Prop) : Prop where
  run : ∀ a w, Mod n a R → M w → (execOp a.eval ⟨none, op, ty, "", #[], none⟩).run P w = .ok .skip w
theorem execOp_of (ρ : Operand → Value) (o : Oper) : execOp ρ o = execOp ρ ⟨none, o.op, o.type, "", #[], none⟩ := by
  obtain ⟨d, op, ty, pos, af, g⟩ := o
  cases op <;> rfl
section
variable {P : Program} {n : Nat} {ops : Array Oper} {Q Q' : Exit → Act → World → Prop} {R R' : Regs} {M M' : World → Prop} {rest : List Oper} {K : Act → Prop}
variable {d : Nat} {op : Op} {ty : TypeId} {pos : String} {af : Array Edge} {v : Value} {c x y : Code} {id : Nat}

/-! #### code -/
theorem XC_seq (h : XC P n x (Exit.then (y.wp P Q) Q) R M) : XC P n (.seq x y) Q R M := ⟨fun a w hR hM => wp_seq (h.run a w hR hM)⟩
theorem XT_seq (h : XC P n y Q' R M) : XT n (Exit.then (y.wp P Q') Q) .normal R M := ⟨h.run⟩
theorem XT_then_exit (h : XT n Q (.exit id) R M) {K : Act → World → Prop} : XT n (Exit.then K Q) (.exit id) R M := ⟨h.run⟩
theorem XT_then_ret (h : XT n Q .ret R M) {K : Act → World → Prop} : XT n (Exit.then K Q) .ret R M := ⟨h.run⟩
theorem XC_block (h : XC P n c (Exit.inBlock id Q) R M) : XC P n (.block id c) Q R M := ⟨fun a w hR hM => wp_block (h.run a w hR hM)⟩
theorem XT_block_normal (h : XT n Q .normal R M) : XT n (Exit.inBlock id Q) .normal R M := ⟨h.run⟩
theorem XT_block_ret (h : XT n Q .ret R M) : XT n (Exit.inBlock id Q) .ret R M := ⟨h.run⟩
theorem XT_block_same {id' : Nat} (e : Nat.beq id' id = true) (h : XT n Q .normal R M) : XT n (Exit.inBlock id Q) (.exit id') R M := ⟨fun a w hR hM => by
  simp only [Exit.inBlock, Nat.eq_of_beq_eq_true e, if_true]; exact h.run a w hR hM⟩
theorem XT_block_other {id' : Nat} (e : Nat.beq id' id = false) (h : XT n Q (.exit id') R M) : XT n (Exit.inBlock id Q) (.exit id') R M := ⟨fun a w hR hM => by
  simp only [Exit.inBlock, Nat.ne_of_beq_eq_false e, if_false]; exact h.run a w hR hM⟩
theorem XC_skip (h : XT n Q .normal R M) : XC P n .skip Q R M := ⟨fun a w hR hM => wp_skip (h.run a w hR hM)⟩
theorem XC_ret (h : XT n Q .ret R M) : XC P n .ret Q R M := ⟨fun a w hR hM => wp_ret (h.run a w hR hM)⟩
theorem XC_exit (h : XT n Q (.exit id) R M) : XC P n (.exit id) Q R M := ⟨fun a w hR hM => wp_exit (h.run a w hR hM)⟩
theorem XC_cond {o : Operand} {t : Bool} (hc : R.ev o = some (.bool t)) (h1 : t = true → XC P n x Q R M) (h2 : t = false → XC P n y Q R M) : XC P n (.cond o x y) Q R M :=
  ⟨fun a w hR hM => wp_cond_split (hR.ev hc) (fun h => (h1 h).run a w hR hM) (fun h => (h2 h).run a w hR hM)⟩
theorem XC_condP {o : Operand} {p : Prop} [Decidable p] (hc : R.ev o = some (.bool (decide p))) (h1 : p → XC P n x Q R M) (h2 : ¬ p → XC P n y Q R M) : XC P n (.cond o x y) Q R M :=
  XC_cond hc (fun h => h1 (of_decide_eq_true h)) (fun h => h2 (of_decide_eq_false h))
theorem XC_condT {o : Operand} (hc : R.ev o = some (.bool true)) (h1 : XC P n x Q R M) : XC P n (.cond o x y) Q R M := XC_cond hc (fun _ => h1) (fun h => by cases h)
theorem XC_condF {o : Operand} (hc : R.ev o = some (.bool false)) (h1 : XC P n y Q R M) : XC P n (.cond o x y) Q R M := XC_cond hc (fun h => by cases h) (fun _ => h1)
theorem XC_condN {o : Operand} {b : Bool} (hc : R.ev o = some (.bool (!b))) (h1 : b = false → XC P n x Q R M) (h2 : b = true → XC P n y Q R M) : XC P n (.cond o x y) Q R M :=
  XC_cond hc (fun h => h1 (by simpa using h)) (fun h => h2 (by simpa using h))
theorem XC_sub (hs : Sub R R') (h : XC P n c Q R' M) : XC P n c Q R M := ⟨fun a w hR hM => h.run a w (hR.sub hs) hM⟩
theorem XT_sub {e : Exit} (hs : Sub R R') (h : XT n Q e R' M) : XT n Q e R M := ⟨fun a w hR hM => h.run a w (hR.sub hs) hM⟩
theorem XT_mem {e : Exit} (hm : ∀ w, M w → M' w) (h : XT n Q e R M') : XT n Q e R M := ⟨fun a w hR hM => h.run a w hR (hm w hM)⟩
theorem XC_mem (hm : ∀ w, M w → M' w) (h : XC P n c Q R M') : XC P n c Q R M := ⟨fun a w hR hM => h.run a w hR (hm w hM)⟩
theorem XC_ex {ι : Type} {M' : ι → World → Prop} (h : ∀ i, XC P n c Q R (M' i)) : XC P n c Q R (fun w => ∃ i, M' i w) := ⟨fun a w hR ⟨i, hM⟩ => (h i).run a w hR hM⟩
theorem least_of {p : Nat → Prop} (h : ∃ k, p k) : ∃ k, p k ∧ ∀ j, p j → k ≤ j := by
  obtain ⟨k, hk⟩ := h
  induction k using Nat.strongRecOn with
  | _ k ih =>
    by_cases hx : ∃ j, j < k ∧ p j
    · obtain ⟨j, hj, hp⟩ := hx
      exact ih j hj hp
    · exact ⟨k, hk, fun j hj => Nat.le_of_not_lt fun hlt => hx ⟨j, hlt, hj⟩⟩
/-- A loop: at each round's head the slots and memory are as some i with I i tells; μ falls. -/
theorem XC_loop {ι : Type} (I : ι → Prop) (RI : ι → Regs) (MI : ι → World → Prop) (μ : ι → Nat) (i0 : ι) (h0 : I i0) (hs : Sub R (RI i0)) (hm : ∀ w, M w → MI i0 w)
    (round : ∀ i, I i → XC P n c (Exit.then (fun a w => ∃ j, I j ∧ μ j < μ i ∧ Mod n a (RI j) ∧ MI j w) Q) (RI i) (MI i)) : XC P n (.loop c) Q R M := ⟨fun a w hR hM => by
  classical
  let J (a : Act) (w : World) (i : ι) : Prop := I i ∧ Mod n a (RI i) ∧ MI i w
  have some_ : ∀ {a : Act} {w : World}, (∃ i, J a w i) → ∃ k, (∃ i, J a w i ∧ μ i = k) ∧ ∀ j, (∃ i, J a w i ∧ μ i = j) → k ≤ j := fun ⟨i, hi⟩ => least_of ⟨μ i, i, hi, rfl⟩
  refine wp_loop (fun a w => ∃ i, J a w i) (fun a w => if h : ∃ i, J a w i then (some_ h).choose else 0) ⟨i0, h0, hR.sub hs, hm w hM⟩ ?_
  intro a' w' hJ
  obtain ⟨⟨i, hi, hμ⟩, _⟩ := (some_ hJ).choose_spec
  refine Code.wp_mono (fun e a2 w2 hq => ?_) ((round i hi.1).run a' w' hi.2.1 hi.2.2)
  cases e with
  | normal =>
    obtain ⟨j, hj, hlt, hR2, hM2⟩ := hq
    have h2 : ∃ i, J a2 w2 i := ⟨j, hj, hR2, hM2⟩
    refine ⟨h2, ?_⟩
    simp only [dif_pos h2, dif_pos hJ]
    rw [← hμ]
    exact Nat.lt_of_le_of_lt ((some_ h2).choose_spec.2 _ ⟨j, ⟨hj, hR2, hM2⟩, rfl⟩) hlt
  | _ => exact hq⟩
theorem XT_round {ι : Type} {I : ι → Prop} {RI : ι → Regs} {MI : ι → World → Prop} {μ : ι → Nat} {m : Nat} (j : ι) (hj : I j) (hlt : μ j < m) (hs : Sub R (RI j)) (hm : ∀ w, M w → MI j w) :
    XT n (Exit.then (fun a w => ∃ j, I j ∧ μ j < m ∧ Mod n a (RI j) ∧ MI j w) Q) .normal R M := ⟨fun a w hR hM => ⟨j, hj, hlt, hR.sub hs, hm w hM⟩⟩

/-! #### regions -/
theorem XC_region {l : List Oper} (h : X P n l.toArray Q l R M) : XC P n (.region id l.toArray false) Q R M := ⟨fun a w hR hM => wp_region_lit (h.runX a w hR hM)⟩
/-- What is asked of the frame behind a region that was walked once for every order. -/
def QEnd (Q : Exit → Act → World → Prop) (M : World → Prop) : Act → Prop := fun a' => ∀ w', M w' → Q .normal a' w'
/-- The same, of one whose last operations stand yet. -/
def QTail (P : Program) (ops : Array Oper) (Q : Exit → Act → World → Prop) (l : List Oper) (M : World → Prop) : Act → Prop := fun a' => ∀ w', M w' → wpList P ops Q l a' w'
theorem XC_quiet {l : List Oper} (hm : P.follows .mixedOrders = true) (hB : Region.lexB .any l.toArray = true) (hD : Drw M)
    (h : XQ P n l.toArray (QEnd Q M) l R M) : XC P n (.region id l.toArray true) Q R M :=
  ⟨fun a w hR hM => wp_region_quiet (C := M) hm hB (hD w 1 hM) (h.runQ a hR)⟩
theorem X_nil (h : XT n Q .normal R M) : X P n ops Q [] R M := .x fun a w hR hM => h.run a w hR hM
theorem XQ_nil (h : XT n Q .normal R M) : XQ P n ops (QEnd Q M) [] R M := .q fun a hR => fun w' hw' => h.run a w' hR hw'
theorem XQ_nilX {l : List Oper} (h : X P n ops Q l R M) : XQ P n ops (QTail P ops Q l M) [] R M := .q fun a hR => fun w' hw' => h.runX a w' hR hw'
theorem X_res (h : Res P n op ty R M v) (hd : Nat.blt d n = true) (k : X P n ops Q rest ((d, v) :: R) M) : X P n ops Q (⟨some d, op, ty, pos, af, none⟩ :: rest) R M := .x fun a w hR hM =>
  wpList_plain rfl fun _ hK => by
    unfold Oper.wp
    rw [execOp_of, h.run a w hR hM]
    exact hK _ _ (k.runX _ w (hR.put hd v) hM)
theorem X_resN (h : Res P n op ty R M v) (k : X P n ops Q rest R M) : X P n ops Q (⟨none, op, ty, pos, af, none⟩ :: rest) R M := .x fun a w hR hM =>
  wpList_plain rfl fun _ hK => by
    unfold Oper.wp
    rw [execOp_of, h.run a w hR hM]
    exact hK _ _ (k.runX _ w hR hM)
theorem XQ_res (h : Res P n op ty R M v) (hd : Nat.blt d n = true) (k : XQ P n ops K rest ((d, v) :: R) M) : XQ P n ops K (⟨some d, op, ty, pos, af, none⟩ :: rest) R M := .q fun a hR =>
  wpQuiet_step fun K' hK => by
    simp only [Region.wanted, if_true]
    refine ⟨v, fun w hM => ?_, hK _ (k.runQ _ (hR.put hd v))⟩
    unfold Oper.quietAt
    rw [execOp_of, h.run a w hR hM]
    exact ⟨rfl, rfl⟩
theorem XQ_resN (h : Res P n op ty R M v) (k : XQ P n ops K rest R M) : XQ P n ops K (⟨none, op, ty, pos, af, none⟩ :: rest) R M := .q fun a hR =>
  wpQuiet_step fun K' hK => by
    simp only [Region.wanted, if_true]
    refine ⟨v, fun w hM => ?_, hK _ (k.runQ _ hR)⟩
    unfold Oper.quietAt
    rw [execOp_of, h.run a w hR hM]
    exact ⟨rfl, rfl⟩
theorem Y_res {md : Md} (h : Res P n op ty R M v) (hd : Nat.blt d n = true) (k : Y P n ops md rest ((d, v) :: R) M) : Y P n ops md (⟨some d, op, ty, pos, af, none⟩ :: rest) R M := by
  cases md with
  | x Q => exact X_res h hd k
  | q K => exact XQ_res h hd k
theorem Y_resN {md : Md} (h : Res P n op ty R M v) (k : Y P n ops md rest R M) : Y P n ops md (⟨none, op, ty, pos, af, none⟩ :: rest) R M := by
  cases md with
  | x Q => exact X_resN h k
  | q K => exact XQ_resN h k
/-- Slots that are no longer wanted are dropped. -/
theorem Y_sub {md : Md} (hs : Sub R R') (h : Y P n ops md rest R' M) : Y P n ops md rest R M := by
  cases md with
  | x Q => exact .x fun a w hR hM => h.runX a w (hR.sub hs) hM
  | q K => exact .q fun a hR => h.runQ a (hR.sub hs)
/-- A guarded operation, taken. -/
theorem X_on {g : Nat} {t : Bool} {dst : Option Nat} (hg : (ops[g]?).bind (·.dst) = some d) (hv : R.get d = some (.bool t)) (h : X P n ops Q (⟨dst, op, ty, pos, af, none⟩ :: rest) R M) :
    X P n ops Q (⟨dst, op, ty, pos, af, some (g, t)⟩ :: rest) R M := .x fun a w hR hM => by
  have hy : yielded ops a.tmps g = some t := by
    have h1 := hR.get d _ hv
    unfold yielded
    rw [hg]
    simp only [Option.bind_some]
    rw [Array.getD_eq_getD_getElem?] at h1
    cases h2 : a.tmps[d]? with
    | none => rw [h2] at h1; cases h1
    | some u => rw [h2] at h1; simp only [Option.getD_some] at h1; simp [h1]
  have h0 := h.runX a w hR hM
  unfold wpList at h0 ⊢
  simp only [Region.wanted, if_true, hy, beq_self_eq_true] at h0 ⊢
  rcases h0 with h0 | ⟨h0, h1⟩
  · refine .inl ?_
    unfold Oper.wp at h0 ⊢
    rw [execOp_of] at h0 ⊢
    exact h0
  · refine .inr ⟨?_, h1⟩
    unfold Oper.asks at h0 ⊢
    rw [execOp_of] at h0 ⊢
    exact h0
/-- A guarded operation, passed by. -/
theorem X_off {g e : Nat} {t : Bool} (hg : (ops[g]?).bind (·.dst) = some e) (hv : R.get e = some (.bool (!t))) (hd : Nat.blt d n = true) (h : X P n ops Q rest ((d, undef) :: R) M) :
    X P n ops Q (⟨some d, op, ty, pos, af, some (g, t)⟩ :: rest) R M := .x fun a w hR hM => by
  have hy : yielded ops a.tmps g = some (!t) := by
    have h1 := hR.get e _ hv
    unfold yielded
    rw [hg]
    simp only [Option.bind_some]
    rw [Array.getD_eq_getD_getElem?] at h1
    cases h2 : a.tmps[e]? with
    | none => rw [h2] at h1; cases h1
    | some u => rw [h2] at h1; simp only [Option.getD_some] at h1; simp [h1]
  have h0 := h.runX _ w (hR.put hd undef) hM
  unfold wpList
  have hw : Region.wanted ⟨some d, op, ty, pos, af, some (g, t)⟩ (yielded ops a.tmps) = false := by simp [Region.wanted, hy]
  rw [hw]
  exact h0
end

end Go.Proofs.Ytfkhdhdbfejbpaa.MX
