/- Walks that come to a select in one goroutine: of one case with a default. A communication is a step of the machine, no operation's result: so these parts of a function are walked over the machine's steps (WN); all else as ever (XN_of). Channels as parts of memory (Ch.chn). No program in sight. -/
import Derived.Test.YtfkhdhdbfejbpaaMXV
import Derived.Conc.LoneCalls
import Derived.Conc.LoneSelect
import Derived.Conc.LoneSelectN
namespace Go.Proofs.Ytfkhdhdbfejbpaa.MX
open Go Go.RowKit
set_option linter.unusedVariables false
set_option linter.unusedSimpArgs false
set_option linter.unusedVariables false
/-- As Code.wp, of frames that no package's making has entered. -/
def WN (P : Program) (c : Code) (Q : Exit → Act → World → Prop) (a : Act) (w : World) : Prop :=
  ∀ b : Frame, b.kind = .normal → ∀ (k : List Item) (cs : List Frame), ∃ e a' w', Q e a' w' ∧ Arrives P (lone (b.at a (.code c :: k)) cs w) b k cs e a' w'
/-- The same, of a loop's next round. -/
def LN (P : Program) (c : Code) (Q : Exit → Act → World → Prop) (a : Act) (w : World) : Prop :=
  ∀ b : Frame, b.kind = .normal → ∀ (k : List Item) (cs : List Frame), ∃ e a' w', Q e a' w' ∧ Arrives P (lone (b.at a (.code c :: .inLoop c :: k)) cs w) b k cs e a' w'
section
variable {P : Program} {Q : Exit → Act → World → Prop} {a : Act} {w : World} {c x y : Code}
theorem WN.of_wp (h : c.wp P Q a w) : WN P c Q a w := fun b _ k cs => h b k cs
theorem WN.seq (h : WN P x (Exit.then (WN P y Q) Q) a w) : WN P (.seq x y) Q a w := fun b hb k cs => by
  obtain ⟨e, a1, w1, q, r⟩ := h b hb (.code y :: k) cs
  cases e with
  | normal =>
    obtain ⟨e2, a2, w2, q2, r2⟩ := q b hb k cs
    exact ⟨e2, a2, w2, q2, r2.of_steps (.head step_seq r)⟩
  | exit id => exact ⟨.exit id, a1, w1, q, .of_steps (.one step_seq) (.pass (x := .code y) rfl (fun _ _ => .inl (by simp)) r)⟩
  | goto l => exact ⟨.goto l, a1, w1, q, .of_steps (.one step_seq) (.pass (x := .code y) rfl (fun _ _ => .inl (by simp)) r)⟩
  | ret => exact ⟨.ret, a1, w1, q, .of_steps (.one step_seq) (.pass (x := .code y) rfl (fun _ _ => .inl (by simp)) r)⟩
  | panic ch => exact ⟨.panic ch, a1, w1, q, .of_steps (.one step_seq) (.pass (x := .code y) rfl (fun _ _ => .inl (by simp)) r)⟩
  | outgrown => exact ⟨.outgrown, a1, w1, q, .of_steps (.one step_seq) (.pass (x := .code y) rfl (fun _ _ => .inl (by simp)) r)⟩
theorem WN.cond {o : Operand} {t : Bool} (hc : a.eval o = .bool t) (h : WN P (if t then x else y) Q a w) : WN P (.cond o x y) Q a w := fun b hb k cs => by
  obtain ⟨e, a1, w1, q, r⟩ := h b hb k cs
  exact ⟨e, a1, w1, q, .of_steps (.one (step_cond hc)) r⟩
theorem WN.block {id : Nat} (h : WN P c (Exit.inBlock id Q) a w) : WN P (.block id c) Q a w := fun b hb k cs => by
  obtain ⟨e, a1, w1, q, r⟩ := h b hb (.inBlock id :: k) cs
  cases e with
  | normal => exact ⟨.normal, a1, w1, q, .head step_block (Steps.trans r (.one step_inBlock))⟩
  | exit id' =>
    by_cases hid : id' = id
    · subst hid
      simp only [Exit.inBlock, if_true] at q
      exact ⟨.normal, a1, w1, q, .head step_block (r k (by simp [exitTo]))⟩
    · simp only [Exit.inBlock, hid, if_false] at q
      have hne : (id == id') = false := by simp; exact fun h => hid h.symm
      exact ⟨.exit id', a1, w1, q, fun k' hk => .head step_block (r k' (by simp [exitTo, hne, hk]))⟩
  | goto l => exact ⟨.goto l, a1, w1, q, fun k' hk => .head step_block (r k' (by simp [gotoIn, hk]))⟩
  | ret => exact ⟨.ret, a1, w1, q, .of_steps (.one step_block) r⟩
  | panic ch => exact ⟨.panic ch, a1, w1, q, .of_steps (.one step_block) r⟩
  | outgrown => exact ⟨.outgrown, a1, w1, q, .of_steps (b := b) (k := k) (cs := cs) (e := .outgrown) (.one step_block) r⟩
theorem WN.loop (h : LN P c Q a w) : WN P (.loop c) Q a w := fun b hb k cs => by
  obtain ⟨e, a1, w1, q, r⟩ := h b hb k cs
  exact ⟨e, a1, w1, q, .of_steps (.one step_loop) r⟩
theorem LN.round (h : WN P c (Exit.then (LN P c Q) Q) a w) : LN P c Q a w := fun b hb k cs => by
  obtain ⟨e, a1, w1, q, r⟩ := h b hb (.inLoop c :: k) cs
  cases e with
  | normal =>
    obtain ⟨e2, a2, w2, q2, r2⟩ := q b hb k cs
    exact ⟨e2, a2, w2, q2, r2.of_steps (Steps.trans r (.one step_inLoop))⟩
  | exit id => exact ⟨.exit id, a1, w1, q, .pass (x := .inLoop c) rfl (fun _ _ => .inl (by simp)) r⟩
  | goto l => exact ⟨.goto l, a1, w1, q, .pass (x := .inLoop c) rfl (fun _ _ => .inl (by simp)) r⟩
  | ret => exact ⟨.ret, a1, w1, q, .pass (x := .inLoop c) rfl (fun _ _ => .inl (by simp)) r⟩
  | panic ch => exact ⟨.panic ch, a1, w1, q, .pass (x := .inLoop c) rfl (fun _ _ => .inl (by simp)) r⟩
  | outgrown => exact ⟨.outgrown, a1, w1, q, .pass (x := .inLoop c) rfl (fun _ _ => .inl (by simp)) r⟩
/-- A region whose first operation is a communication that goes on at once. -/
theorem WN.comm {id : Nat} {o : Oper} {l : List Oper} {v : Value} {w1 : World}
    (hst : ∀ b : Frame, b.kind = .normal → ∀ (k : List Item) (cs : List Frame), step P (lone (b.at a (.inRegion (o :: l).toArray (0 :: List.range' 1 l.length) :: k)) cs w) = .next (lone ((b.at a (.inRegion (o :: l).toArray (0 :: List.range' 1 l.length) :: k)).finish v) cs w1))
    (h : wpList P (o :: l).toArray Q l (a.put o.dst v) w1) : WN P (.region id (o :: l).toArray false) Q a w := fun b hb k cs => by
  have h2 : wpOps P (o :: l).toArray Q (List.range' 1 l.length) (a.put o.dst v) w1 := by
    rw [wpOps_eq_wpList l 1 (fun j => by simp [Nat.add_comm 1 j])]
    exact h
  obtain ⟨e, a1, w2, q, r⟩ := wp_ops _ _ _ h2 b k cs
  have h3 := hst b hb k cs
  rw [Frame.finish_at] at h3
  have hr : List.range (o :: l).toArray.size = 0 :: List.range' 1 l.length := by simp [List.range_eq_range', List.range'_succ]
  have h4 := step_region (P := P) (b := b) (a := a) (k := k) (cs := cs) (w := w) (ops := (o :: l).toArray) (id := id)
  rw [hr] at h4
  exact ⟨e, a1, w2, q, .of_steps (.head h4 (.one h3)) r⟩
theorem calls_of_WN {f : FuncId} {fn : Func} {args : Array Value} {R : Ending → World → Prop} (hf : P.funcs[f]? = some fn) (hb : fn.body = some c)
    (h : WN P c (bodyPost P fn R) { tmps := args ++ Array.replicate (fn.ntmps - args.size) undef, defers := [] } w) : Calls P f args w R := fun cs => by
  have he : Frame.enter P f args .normal = ({ (default : Frame) with fn := f, kind := .normal } : Frame).at { tmps := args ++ Array.replicate (fn.ntmps - args.size) undef, defers := [] } [.code c] := by simp [Frame.enter, Frame.at, hf, hb]
  obtain ⟨e, a1, w1, q, r⟩ := h { (default : Frame) with fn := f, kind := .normal } rfl [] cs
  rw [← he] at r
  cases e with
  | normal =>
    obtain ⟨hd, v, hv, hR⟩ := q
    exact ⟨.returned v, w1, _, hR, Steps.trans r (.one step_end), rfl, rfl, hd, rfl, fn, hf, hv⟩
  | ret =>
    obtain ⟨hd, v, hv, hR⟩ := q
    obtain ⟨todo, hs⟩ := r
    exact ⟨.returned v, w1, _, hR, hs, rfl, rfl, hd, rfl, fn, hf, hv⟩
  | panic ch =>
    obtain ⟨hd, hR⟩ := q
    obtain ⟨todo, hs⟩ := r
    exact ⟨.panicked ch, w1, _, hR, hs, rfl, rfl, hd, fn, hf⟩
  | exit id => exact q.elim
  | goto l => exact q.elim
  | outgrown => exact ⟨.outgrown, w1, { (default : Frame) with fn := f, kind := .normal }, q, r.resolve_left (by simp), rfl, trivial⟩
end
structure XN (P : Program) (n : Nat) (c : Code) (Q : Exit → Act → World → Prop) (R : Regs) (M : World → Prop) : Prop where run : ∀ a w, Mod n a R → M w → WN P c Q a w
/-- A loop's next round. -/
structure XL (P : Program) (n : Nat) (c : Code) (Q : Exit → Act → World → Prop) (R : Regs) (M : World → Prop) : Prop where run : ∀ a w, Mod n a R → M w → LN P c Q a w
section
variable {P : Program} {n : Nat} {Q : Exit → Act → World → Prop} {R : Regs} {M M' : World → Prop} {c x y : Code} {id g : Nat} {w0 : World}
theorem XN_of (h : XC P n c Q R M) : XN P n c Q R M := ⟨fun a w hR hM => .of_wp (h.run a w hR hM)⟩
theorem XN_seq (h : XN P n x (Exit.then (WN P y Q) Q) R M) : XN P n (.seq x y) Q R M := ⟨fun a w hR hM => .seq (h.run a w hR hM)⟩
theorem XT_seqN {Q' : Exit → Act → World → Prop} (h : XN P n y Q R M) : XT n (Exit.then (WN P y Q) Q') .normal R M := ⟨h.run⟩
theorem XN_condP {o : Operand} {p : Prop} [Decidable p] (hc : R.ev o = some (.bool (decide p))) (h1 : p → XN P n x Q R M) (h2 : ¬ p → XN P n y Q R M) : XN P n (.cond o x y) Q R M :=
  ⟨fun a w hR hM => .cond (hR.ev hc) (by
    by_cases hp : p
    · rw [decide_eq_true hp, if_pos rfl]; exact (h1 hp).run a w hR hM
    · rw [decide_eq_false hp]; exact (h2 hp).run a w hR hM)⟩
theorem XN_condT {o : Operand} (hc : R.ev o = some (.bool true)) (h1 : XN P n x Q R M) : XN P n (.cond o x y) Q R M := ⟨fun a w hR hM => .cond (hR.ev hc) (h1.run a w hR hM)⟩
theorem XN_condF {o : Operand} (hc : R.ev o = some (.bool false)) (h1 : XN P n y Q R M) : XN P n (.cond o x y) Q R M := ⟨fun a w hR hM => .cond (hR.ev hc) (h1.run a w hR hM)⟩
theorem XN_block (h : XN P n c (Exit.inBlock id Q) R M) : XN P n (.block id c) Q R M := ⟨fun a w hR hM => .block (h.run a w hR hM)⟩
theorem XN_loop (h : XL P n c Q R M) : XN P n (.loop c) Q R M := ⟨fun a w hR hM => .loop (h.run a w hR hM)⟩
theorem XL_round (h : XN P n c (Exit.then (LN P c Q) Q) R M) : XL P n c Q R M := ⟨fun a w hR hM => .round (h.run a w hR hM)⟩
theorem XT_again {Q' : Exit → Act → World → Prop} (h : XL P n c Q R M) : XT n (Exit.then (LN P c Q) Q') .normal R M := ⟨h.run⟩
theorem XN_mem (hm : ∀ w, M w → M' w) (h : XN P n c Q R M') : XN P n c Q R M := ⟨fun a w hR hM => h.run a w hR (hm w hM)⟩
theorem XL_sub {R' : Regs} (hs : Sub R R') (hm : ∀ w, M w → M' w) (h : XL P n c Q R' M') : XL P n c Q R M := ⟨fun a w hR hM => h.run a w (hR.sub hs) (hm w hM)⟩
theorem calls_of_XN {fn : Func} {code : Code} {vs : List Value} {Rr : Ending → World → Prop} (hf : P.funcs[g]? = some fn) (hb : fn.body = some code) (hn : fn.ntmps = n) (hv : Nat.ble vs.length n = true) (hM : M w0)
    (h : XN P n code (bodyPost P fn Rr) (argRegs 0 vs) M) : Calls P g vs.toArray w0 Rr := by
  refine calls_of_WN hf hb (h.run _ w0 ⟨?_, rfl, fun t u e => ?_⟩ hM)
  · have : vs.length ≤ n := by simpa using hv
    simp [hn]; omega
  · obtain ⟨_, h2⟩ := argRegs_get vs 0 t u e
    rw [Nat.sub_zero] at h2
    have hlt : t < vs.length := (List.getElem?_eq_some_iff.1 h2).1
    rw [Array.getD_eq_getD_getElem?, Array.getElem?_append_left (by simpa using hlt)]
    simp [h2]
end
/-! ### Channels -/
/-- Block c is an open channel of that capacity, with these things in it; how many sends and receives there were. -/
def Ch.chn (c cap : Nat) (buf : List Value) (s r : Nat) : Ch :=
  ⟨fun k => k = c, fun w => w.heap[c]? = some (.chan cap buf.toArray false s r false), fun w w' h e => (h c rfl).trans e, fun w k e hk => by
    subst hk
    exact (Array.getElem?_eq_some_iff.1 e).1⟩
theorem chg_setChan (w : World) (c cap : Nat) (buf : Array Value) (cl : Bool) (s r : Nat) (tm : Bool) : Chg (fun k => k = c) w (w.setChan c cap buf cl s r tm) :=
  ⟨rfl, rfl, rfl, by rw [Conc.size_setChan]; exact Nat.le_refl _, fun k _ hne => by
    simp only [World.setChan]
    rw [Array.getElem?_setIfInBounds_ne (fun h => hne h.symm)]⟩
instance pk_chn {c cap s r : Nat} {buf : List Value} {cs : List Ch} : Pk c (Ch.chn c cap buf s r :: cs) (Ch.chn c cap buf s r) (fun d => d :: cs) := ⟨cs, .refl _, fun _ => .refl _⟩
section
variable {P : Program} {n : Nat} {ops : Array Oper} {Q : Exit → Act → World → Prop} {R : Regs} {l rest : List Oper} {ty E T : TypeId} {w0 : World} {S : Nat → Prop} {cs : List Ch} {x y : Operand} {v z u : Value} {c cap s r d id : Nat} {buf : List Value} {pos : String} {af : Array Edge}
theorem Hp.setChan {w : World} {cap' s' r' : Nat} {buf' : List Value} (h : Hp w0 S (Ch.chn c cap buf s r :: cs) w) : Hp w0 S (Ch.chn c cap' buf' s' r' :: cs) (w.setChan c cap' buf'.toArray false s' r' false) :=
  h.turn (chg_setChan ..) (Conc.heap_setChan _ _ _ _ _ _ _ _ ((Ch.chn c cap buf s r).bd w c h.head rfl)) (fun k hk => .inl hk)
theorem run_select1 {a : Act} {w : World} {g : Option (Nat × Bool)} (hz : (zeroValue E).run P w = .ok z w) (hx : a.eval x = .chan (some c)) :
    (execOp a.eval ⟨some d, .select #[{ chan := x, send := none, elem := E }] false, ty, pos, af, g⟩).run P w = .ok (.comm #[Conc.rcase c z] false .select) w := by
  generalize a.eval = f at hx ⊢
  simp [go_sem, execOp, Conc.rcase, hx, hz]
theorem run_select1s {a : Act} {w : World} {g : Option (Nat × Bool)} (hz : (zeroValue E).run P w = .ok z w) (hx : a.eval x = .chan (some c)) (hy : a.eval y = v) :
    (execOp a.eval ⟨some d, .select #[{ chan := x, send := some y, elem := E }] false, ty, pos, af, g⟩).run P w = .ok (.comm #[Conc.scase c v z] false .select) w := by
  generalize a.eval = f at hx hy ⊢
  simp [go_sem, execOp, Conc.scase, hx, hy, hz]
theorem comm_step {a : Act} {w : World} {o : Oper} {b : Frame} {k : List Item} {cs' : List Frame} {cases : Array CommCase} {blocking : Bool} {shape : CommShape} (hg : o.guard = none) (hb : b.kind = .normal) (hr : (execOp a.eval o).run P w = .ok (.comm cases blocking shape) w) :
    stepG P true (Conc.G (b.at a (.inRegion (o :: l).toArray (0 :: List.range' 1 l.length) :: k)) cs') w = .comm (Conc.G (b.at a (.inRegion (o :: l).toArray (0 :: List.range' 1 l.length) :: k)) cs') cases blocking shape w (Conc.listed P b.fn a o w) :=
  Conc.stepG_comm (by simp) (by simp [Region.wanted, hg]) (by rw [hb]; decide) hr
/-- A receive, with a default: something is there. -/
theorem XN_recv [hz : HasZ P E z] (hx : R.ev x = some (.chan (some c))) (hd : Nat.blt d n = true)
    (q : X P n (⟨some d, .select #[{ chan := x, send := none, elem := E }] false, ty, pos, af, none⟩ :: l).toArray Q l ((d, .tuple #[.int .i64 0, .bool true, v]) :: R) (Hp w0 S (Ch.chn c cap buf s (r + 1) :: cs))) :
    XN P n (.region id (⟨some d, .select #[{ chan := x, send := none, elem := E }] false, ty, pos, af, none⟩ :: l).toArray false) Q R (Hp w0 S (Ch.chn c cap (v :: buf) s r :: cs)) := ⟨fun a w hR hM => by
  refine WN.comm (v := .tuple #[goInt 0, .bool true, v]) (w1 := w.setChan c cap buf.toArray false s (r + 1) false) (fun b hb k cs' => ?_) (q.runX _ _ (hR.put hd _) hM.setChan)
  have h1 := Conc.step_lone_select_recv_buf (P := P) (comm_step (P := P) (l := l) (k := k) (cs' := cs') rfl hb (run_select1 (P := P) (d := d) (ty := ty) (pos := pos) (af := af) (g := none) (hz.eq w) (hR.ev hx))) (hM.head : w.heap[c]? = some (.chan cap (v :: buf).toArray false s r false)) (by simp)
  rw [show (v :: buf).toArray.getD 0 undef = v by simp, show (v :: buf).toArray.extract 1 (v :: buf).toArray.size = buf.toArray by simp] at h1
  exact h1⟩
/-- .. nothing is there. -/
theorem XN_recv0 [hz : HasZ P E z] (hx : R.ev x = some (.chan (some c))) (hd : Nat.blt d n = true)
    (q : X P n (⟨some d, .select #[{ chan := x, send := none, elem := E }] false, ty, pos, af, none⟩ :: l).toArray Q l ((d, .tuple #[.int .i64 (-1), .bool false, z]) :: R) (Hp w0 S (Ch.chn c cap [] s r :: cs))) :
    XN P n (.region id (⟨some d, .select #[{ chan := x, send := none, elem := E }] false, ty, pos, af, none⟩ :: l).toArray false) Q R (Hp w0 S (Ch.chn c cap [] s r :: cs)) := ⟨fun a w hR hM => by
  refine WN.comm (v := .tuple #[goInt (-1), .bool false, z]) (w1 := w) (fun b hb k cs' => ?_) (q.runX _ _ (hR.put hd _) hM)
  exact Conc.step_lone_select_default (P := P) (comm_step (P := P) (l := l) (k := k) (cs' := cs') rfl hb (run_select1 (P := P) (d := d) (ty := ty) (pos := pos) (af := af) (g := none) (hz.eq w) (hR.ev hx))) (hM.head : w.heap[c]? = some (.chan cap #[] false s r false))⟩
/-- A send, with a default: there is room. -/
theorem XN_send [hz : HasZ P E z] (hx : R.ev x = some (.chan (some c))) (hy : R.ev y = some v) (hd : Nat.blt d n = true) (hlt : buf.length < cap)
    (q : X P n (⟨some d, .select #[{ chan := x, send := some y, elem := E }] false, ty, pos, af, none⟩ :: l).toArray Q l ((d, .tuple #[.int .i64 0, .bool false]) :: R) (Hp w0 S (Ch.chn c cap (buf ++ [v]) (s + 1) r :: cs))) :
    XN P n (.region id (⟨some d, .select #[{ chan := x, send := some y, elem := E }] false, ty, pos, af, none⟩ :: l).toArray false) Q R (Hp w0 S (Ch.chn c cap buf s r :: cs)) := ⟨fun a w hR hM => by
  refine WN.comm (v := .tuple #[goInt 0, .bool false]) (w1 := w.setChan c cap (buf ++ [v]).toArray false (s + 1) r false) (fun b hb k cs' => ?_) (q.runX _ _ (hR.put hd _) hM.setChan)
  have h1 := Conc.step_lone_select_send_room (P := P) (comm_step (P := P) (l := l) (k := k) (cs' := cs') rfl hb (run_select1s (P := P) (d := d) (ty := ty) (pos := pos) (af := af) (g := none) (hz.eq w) (hR.ev hx) (hR.ev hy))) (hM.head : w.heap[c]? = some (.chan cap buf.toArray false s r false)) (by simpa using hlt)
  rw [show buf.toArray.push v = (buf ++ [v]).toArray by simp] at h1
  exact h1⟩
/-- .. there is none. -/
theorem XN_send0 [hz : HasZ P E z] (hx : R.ev x = some (.chan (some c))) (hy : R.ev y = some v) (hd : Nat.blt d n = true) (hlt : cap ≤ buf.length)
    (q : X P n (⟨some d, .select #[{ chan := x, send := some y, elem := E }] false, ty, pos, af, none⟩ :: l).toArray Q l ((d, .tuple #[.int .i64 (-1), .bool false]) :: R) (Hp w0 S (Ch.chn c cap buf s r :: cs))) :
    XN P n (.region id (⟨some d, .select #[{ chan := x, send := some y, elem := E }] false, ty, pos, af, none⟩ :: l).toArray false) Q R (Hp w0 S (Ch.chn c cap buf s r :: cs)) := ⟨fun a w hR hM => by
  refine WN.comm (v := .tuple #[goInt (-1), .bool false]) (w1 := w) (fun b hb k cs' => ?_) (q.runX _ _ (hR.put hd _) hM)
  exact Conc.step_lone_select_send_full (P := P) (comm_step (P := P) (l := l) (k := k) (cs' := cs') rfl hb (run_select1s (P := P) (d := d) (ty := ty) (pos := pos) (af := af) (g := none) (hz.eq w) (hR.ev hx) (hR.ev hy))) (hM.head : w.heap[c]? = some (.chan cap buf.toArray false s r false)) (by simpa using hlt)⟩
/-- A channel is made. -/
theorem X_makeChan {dir : ChanDir} {by_ m : Nat} {k : IntKind} {e : Int} {sz : Nat} (hT : P.underlying T = some (.chan dir E)) [hE : HasI P E sz by_] (hx : R.ev x = some (.int k e)) (hm : e = m) (hb : by_ * m ≤ 281474976710544) (h63 : m ≤ 9223372036854775807) (hd : Nat.blt d n = true)
    (q : ∀ g, w0.heap.size ≤ g → X P n ops Q rest ((d, .chan (some g)) :: R) (Hp w0 S (Ch.chn g m [] 0 0 :: cs))) :
    X P n ops Q (⟨some d, .makeChan T x, ty, pos, af, none⟩ :: rest) R (Hp w0 S cs) :=
  X_alloc (val := fun g => .chan (some g)) (new := fun g => Ch.chn g m [] 0 0) (fun a w hR hM => by
    subst hm
    obtain ⟨i, h1, h2, h3⟩ := info_of hE
    have h4 := Conc.run_makeChan (P := P) (w := w) hT h1 k m (by omega) (by rw [h3, ← Int.natCast_mul]; omega)
    refine ⟨.chan m #[] false 0 0 false, ?_, heap_alloc_new w _, fun k hk => hk⟩
    simp only [execOp]
    rw [hR.ev hx, Sem.run_bind, h4]
    rfl) hd q
/-- How many things are in a channel. -/
theorem r_lenC {dir : ChanDir} (hT : P.underlying T = some (.chan dir E)) (hx : R.ev x = some (.chan (some c))) {put : Ch → List Ch} [h : Pk c cs (Ch.chn c cap buf s r) put] :
    Res P n (.call { callee := .builtin .len, args := #[x], argTypes := #[T] }) ty R (Hp w0 S cs) (.int .i64 buf.length) := .mk fun a w hR hM => by
  have h1 : w.heap[c]? = some (.chan cap buf.toArray false s r false) := h.has hM
  have h2 := Conc.run_len_chan (P := P) T ty hT h1
  simp [execOp, resolve, invoke, builtin, hR.ev hx, Sem.run_bind, h2, goInt]
end
end Go.Proofs.Ytfkhdhdbfejbpaa.MX
