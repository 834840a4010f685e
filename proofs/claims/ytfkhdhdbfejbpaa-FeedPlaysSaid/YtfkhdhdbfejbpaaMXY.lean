/- Drawn regions with reads that may come ahead of, between or behind what writes: what is read stays as it was (S), whatever order is drawn, up to the last operation. No program in sight. -/
import Derived.Test.YtfkhdhdbfejbpaaMXW
import Derived.OrdersHeld
namespace Go.Proofs.Ytfkhdhdbfejbpaa.MX
open Go Go.RowKit
set_option linter.unusedVariables false
set_option linter.unusedSimpArgs false
set_option linter.unusedVariables false
section
variable {P : Program} {md : Region.Mode} {ops : Array Oper} {S : World → Prop} {Q : Exit → Act → World → Prop}
/-- Operations that read or compute. -/
def readB (o : Oper) : Bool := match o.op with
  | .move _ | .assign _ | .binOp .. | .unOp .. | .load .. | .fieldAddr .. | .field .. | .indexAddr .. | .index .. | .slice .. | .extract .. | .convert .. | .nilCheck _ | .pick .. => true
  | .call c => (match c.callee with | .builtin .len => true | _ => false)
  | _ => false
theorem read_value {C : World → Prop} {o : Oper} {a : Act} {w : World} {v : Value} (hp : readB o = true) (h : o.quietAt P a C w v) : (execOp a.eval o).run P w = .ok (.value v) w := by
  obtain ⟨dst, op, ty, pos, af, gd⟩ := o
  have hb : ∀ (s : Sem Value), Oper.quietUpon P C w v ((do pure (.value (← s)) : Sem Next).run P w) → (do pure (.value (← s)) : Sem Next).run P w = .ok (.value v) w := fun s hs => by
    simp only [Sem.run_bind] at hs ⊢
    cases hr : s.run P w with
    | ok u w' =>
      rw [hr] at hs
      simp only [Result.andThen_ok, Sem.run_pure, Oper.quietUpon] at hs ⊢
      rw [hs.1, hs.2]
    | halt x w' =>
      rw [hr] at hs
      exact False.elim hs
  have hpure : ∀ (u : Value), Oper.quietUpon P C w v ((pure (.value u) : Sem Next).run P w) → (pure (.value u) : Sem Next).run P w = .ok (.value v) w := fun u hs => by
    simp only [Sem.run_pure, Oper.quietUpon] at hs ⊢
    rw [hs.2]
  have hb2 : ∀ (s : Sem Bool) (f : Bool → Value), Oper.quietUpon P C w v ((do pure (.value (f (← s))) : Sem Next).run P w) → (do pure (.value (f (← s))) : Sem Next).run P w = .ok (.value v) w := fun s f hs => by
    simp only [Sem.run_bind] at hs ⊢
    cases hr : s.run P w with
    | ok u w' =>
      rw [hr] at hs
      simp only [Result.andThen_ok, Sem.run_pure, Oper.quietUpon] at hs ⊢
      rw [hs.1, hs.2]
    | halt x w' =>
      rw [hr] at hs
      exact False.elim hs
  unfold Oper.quietAt at h
  cases op <;> first | (cases hp; done) | skip
  case pick x y z => exact hb2 (asBool (a.eval x)) (fun b => if b = true then a.eval y else a.eval z) h
  case call c =>
    obtain ⟨callee, args, tys⟩ := c
    cases callee <;> first | (cases hp; done) | skip
    rename_i b
    cases b <;> first | (cases hp; done) | skip
    simp only [execOp, resolve, invoke, builtin, Sem.run_bind, Sem.run_pure, Result.andThen_ok] at h ⊢
    cases hr : (Builtin.len_ tys ty (args.map a.eval)).run P w with
    | ok u w' =>
      rw [hr] at h
      simp only [Result.andThen_ok, Sem.run_pure, Oper.quietUpon] at h ⊢
      rw [h.1, h.2]
    | halt x w' =>
      rw [hr] at h
      exact False.elim h
  case nilCheck x =>
    simp only [execOp] at h ⊢
    generalize a.eval x = z at *
    cases z with
    | pointer p =>
      cases p with
      | none => exact False.elim h
      | some ad => exact hpure _ h
    | nilIface => exact False.elim h
    | nilFunc => exact False.elim h
    | func k f c =>
      revert h
      split
      · intro h; exact False.elim h
      · intro h; exact False.elim h
      · intro h; exact False.elim h
      · split
        · intro h; exact False.elim h
        · intro h
          simp only [Sem.run_bind, show Sem.run P program w = .ok P w from rfl, Result.andThen_ok] at h ⊢
          generalize Sem.run P (nilAhead _ _ _ _) w = r at h ⊢
          cases r with
          | ok u w' =>
            simp only [Result.andThen_ok] at h ⊢
            split at h
            · exact False.elim h
            · rename_i hc
              rw [if_neg hc]
              exact (by simp only [Sem.run_pure, Oper.quietUpon] at h ⊢; rw [h.1, h.2])
          | halt x w' => exact False.elim h
        · exact hpure _
      · exact hpure _
    | _ => exact hpure _ h
  all_goals first | exact hpure _ h | exact hb _ h
theorem yieldsIf_of_in {o : Oper} {v : Value} {a : Act} (hp : readB o = true) (h : YieldsIn P ops S o v a) : YieldsIf P ops S o v a :=
  h.imp (fun ⟨hw, hv⟩ => ⟨hw, fun w hw' => read_value hp (hv w hw')⟩) (fun h => h)
/-- All orders; ahead of the n-th each operation leaves S as it is. -/
def anyE (P : Program) (md : Region.Mode) (ops : Array Oper) (S : World → Prop) (Q : Exit → Act → World → Prop) (n : Nat) : Nat → Array Bool → Act → World → Prop
  | 0, listed, a, w => Region.ready md ops listed = [] ∧ Q .normal a w
  | f + 1, listed, a, w => Region.ready md ops listed ≠ [] ∧ ∀ i ∈ Region.ready md ops listed, (i < n → wpOp P ops Q i (fun a' w' => S w' ∧ anyE P md ops S Q n f (listed.setIfInBounds i true) a' w') a w) ∧
      (n ≤ i → wpOp P ops Q i (wpAny P md ops Q f (listed.setIfInBounds i true)) a w)
theorem any_of_anyE {n : Nat} : ∀ (f : Nat) (listed : Array Bool) (a : Act) (w : World), anyE P md ops S Q n f listed a w → wpAny P md ops Q f listed a w
  | 0, _, _, _, h => h
  | f + 1, listed, a, w, h => ⟨fun e => absurd e h.1, fun i hi => by
    rcases Nat.lt_or_ge i n with hn | hn
    · exact wpOp_mono (fun a' w' h' => any_of_anyE f _ a' w' h'.2) ((h.2 i hi).1 hn)
    · exact (h.2 i hi).2 hn⟩
/-- One that reads may come first. -/
theorem anyE_read {n i : Nat} {oi : Oper} {v : Value} {F : Nat} (hi : ops[i]? = some oi) (hin : i < n) (hsel : ∀ (j : Nat) (o : Oper) cs b, ops[j]? = some o → o.op ≠ .select cs b) (hc : Region.chainB md ops n = true) (hn : n < ops.size) (hp : pathB md ops n F i = true)
    (hQ : ∀ c a w, Q (.panic c) (a.put oi.dst v) w → Q (.panic c) a w) (f : Nat) :
    ∀ (listed : Array Bool) (a : Act) (w : World), HeadInv md ops n listed → (∀ j oj, ops[j]? = some oj → j ≠ i → listed.getD j true = false → (∀ e ∈ oj.after, Region.binds md e = true → e.on ≠ i) → oi.apart ops oj = true) →
      i ∈ Region.ready md ops listed → YieldsIf P ops S oi v a → S w → anyE P md ops S Q n f (listed.setIfInBounds i true) (a.put oi.dst v) w → anyE P md ops S Q n (f + 1) listed a w := by
  induction f with
  | zero =>
    intro listed a w inv hfree hr hy hS H
    have hun := (mem_ready.1 hr).1
    refine ⟨fun e => (by rw [e] at hr; cases hr), fun j hj => ?_⟩
    have hjn : j < n := Nat.lt_of_not_le fun h => absurd hj (path_waits hc hn inv F i hp hin hun j h)
    refine ⟨fun _ => ?_, fun h => absurd hjn (Nat.not_lt.2 h)⟩
    by_cases e : j = i
    · subst e
      exact hy.wpOp hi hS ⟨hS, H⟩
    · have := ready_mono hj e
      rw [H.1] at this
      cases this
  | succ f ih =>
    intro listed a w inv hfree hr hy hS H
    have hun := (mem_ready.1 hr).1
    refine ⟨fun e => (by rw [e] at hr; cases hr), fun j hj => ?_⟩
    have hjn : j < n := Nat.lt_of_not_le fun h => absurd hj (path_waits hc hn inv F i hp hin hun j h)
    refine ⟨fun _ => ?_, fun h => absurd hjn (Nat.not_lt.2 h)⟩
    by_cases e : j = i
    · subst e
      exact hy.wpOp hi hS ⟨hS, H⟩
    · obtain ⟨hjun, oj, hoj, hall⟩ := mem_ready.1 hj
      have h2 := wpOp_putIf hoj (hfree j oj hoj e hjun (not_on hun hall)) (fun cs b => hsel i oi cs b hi) (fun cs b => hsel j oj cs b hoj) hQ hy ((H.2 j (ready_mono hj e)).1 hjn)
      refine wpOp_mono (fun a' w' h3 => ⟨h3.2.1, ih (listed.setIfInBounds j true) a' w' (inv.set hj hjn) (free_set hjun hfree) (ready_mono hr (Ne.symm e)) h3.1 h3.2.1 ?_⟩) h2
      rw [Array.setIfInBounds_comm _ _ e]
      exact h3.2.2
/-- The checks of a stretch of reads. -/
def segE (md : Region.Mode) (ops : Array Oper) (n : Nat) : List Nat → Array Bool → Bool
  | [], _ => true
  | d :: r, listed => decide (d < n) && (Region.ready md ops listed).contains d && Region.free md ops listed d && ((ops[d]?).map readB).getD false && pathB md ops n n d && segE md ops n r (listed.setIfInBounds d true)
theorem segE_inv {n : Nat} : ∀ (ds : List Nat) (listed : Array Bool), HeadInv md ops n listed → segE md ops n ds listed = true → HeadInv md ops n (setAll ds listed)
  | [], _, h, _ => h
  | d :: ds, listed, h, hB => by
    simp only [segE, Bool.and_eq_true, decide_eq_true_eq] at hB
    exact segE_inv ds _ (h.set (by simpa using hB.1.1.1.1.2) hB.1.1.1.1.1) hB.2
theorem anyE_reads {n f : Nat} {L : Act → Prop} {w : World} (hs : Region.noSelect ops = true) (hc : Region.chainB md ops n = true) (hn : n < ops.size) (hS : S w) : ∀ (ds : List Nat) (l : List Oper) (listed : Array Bool) (a : Act), ds.map (fun d => ops[d]?) = l.map some → HeadInv md ops n listed → segE md ops n ds listed = true →
    (∀ a', L a' → anyE P md ops S (Only Q) n f (setAll ds listed) a' w) → wpQuiet P ops S L l a → anyE P md ops S (Only Q) n (f + ds.length) listed a w
  | [], [], _, _, _, _, _, hL, h => hL _ h
  | [], _ :: _, _, _, hm, _, _, _, _ => by cases hm
  | _ :: _, [], _, _, hm, _, _, _, _ => by cases hm
  | d :: ds, o :: l, listed, a, hm, inv, hB, hL, h => by
    simp only [List.map_cons, List.cons.injEq] at hm
    simp only [segE, Bool.and_eq_true, decide_eq_true_eq] at hB
    obtain ⟨⟨⟨⟨⟨hd, hr⟩, hf⟩, hrd⟩, hp⟩, hB'⟩ := hB
    rw [hm.1] at hrd
    have hr' : d ∈ Region.ready md ops listed := by simpa using hr
    have hst : qOp P ops S d (wpQuiet P ops S L l) a := by unfold qOp; simp only [hm.1]; exact h
    obtain ⟨v, hy, hK⟩ := yieldsIn_of_qOp hm.1 hst
    exact anyE_read hm.1 hd (Region.noSelect_spec hs) hc hn hp (fun c a w h => False.elim h) (f + ds.length) listed a w inv (Region.free_spec hm.1 hf) hr' (yieldsIf_of_in (by simpa using hrd) hy) hS (anyE_reads hs hc hn hS ds l _ _ hm.2 (inv.set hr' hd) hB' hL hK)
/-! ### The judgement -/
structure TE (P : Program) (n : Nat) (ops : Array Oper) (Q : Exit → Act → World → Prop) (S : World → Prop) (N f : Nat) (ds : List Nat) (R : Regs) (M : World → Prop) : Prop where
  run : ∀ a w, HeadInv .any ops N (lst ops ds) → Mod n a R → M w → S w → anyE P .any ops S (Only Q) N f (lst ops ds) a w
/-- Behind an operation that leaves S. -/
def QE (P : Program) (ops : Array Oper) (Q : Exit → Act → World → Prop) (S : World → Prop) (N f : Nat) (ds : List Nat) : Exit → Act → World → Prop := fun _ a w => S w ∧ (HeadInv .any ops N (lst ops ds) → anyE P .any ops S (Only Q) N f (lst ops ds) a w)
/-- Behind a stretch of reads. -/
def QR (P : Program) (ops : Array Oper) (Q : Exit → Act → World → Prop) (S : World → Prop) (N f : Nat) (ds : List Nat) (M : World → Prop) : Act → Prop := fun a => ∀ w, M w → S w → HeadInv .any ops N (lst ops ds) → anyE P .any ops S (Only Q) N f (lst ops ds) a w
def heldB (ops : Array Oper) (N : Nat) : Bool := Region.noSelect ops && decide (N < ops.size) && Region.chainB .any ops N
theorem lst_app (ds es : List Nat) : lst ops (ds ++ es) = setAll es (lst ops ds) := by simp [lst, setAll, List.foldl_append]
theorem XC_held {n id : Nat} {R : Regs} {M : World → Prop} {l : List Oper} (N : Nat) (S : World → Prop) (hm : P.follows .mixedOrders = true) (hD : Drw M) (hS : ∀ w, M w → S w) (h : TE P n l.toArray Q S N l.length [] R M) : XC P n (.region id l.toArray true) Q R M := ⟨fun a w hR hM => by
  have hM' := hD w 1 hM
  have inv0 : HeadInv .any l.toArray N (lst l.toArray []) :=
    ⟨by simp [lst, setAll], fun j oj _ hl => (by rw [show lst l.toArray [] = Array.replicate l.toArray.size false from rfl, getD_replicate_false] at hl; cases hl), fun t _ ht => getD_in (by simpa [lst, setAll] using ht) (getD_replicate_false _ _)⟩
  have h1 := h.run a (w.drewN 1) inv0 hR hM' (hS _ hM')
  refine wp_region_any hm (any_only only_lets _ _ _ _ ?_)
  have h2 := any_of_anyE _ _ _ _ h1
  rw [show l.length = l.toArray.size by simp] at h2
  exact h2⟩
theorem TE_reads {n N f : Nat} {ds : List Nat} {R : Regs} {M : World → Prop} {l : List Oper} (O : List Nat) (hH : heldB l.toArray N = true) (hB : segE .any l.toArray N O (lst l.toArray ds) = true) {lO : List Oper} (h1 : pickL l O = lO)
    (h : XQ P n l.toArray (QR P l.toArray Q S N f (ds ++ O) M) lO R S) : TE P n l.toArray Q S N (f + O.length) ds R M := ⟨fun a w inv hR hM hS => by
  simp only [heldB, Bool.and_eq_true, decide_eq_true_eq] at hH
  obtain ⟨⟨hs, hn⟩, hc⟩ := hH
  have hn' : N < l.length := by simpa using hn
  have hlt : ∀ d ∈ O, d < N := by
    have key : ∀ (O : List Nat) (listed : Array Bool), segE .any l.toArray N O listed = true → ∀ d ∈ O, d < N := by
      intro O
      induction O with
      | nil => intro _ _ d hd; cases hd
      | cons k r ih =>
        intro listed hB d hd
        simp only [segE, Bool.and_eq_true, decide_eq_true_eq] at hB
        rcases List.mem_cons.1 hd with rfl | hd
        · exact hB.1.1.1.1.1
        · exact ih _ hB.2 d hd
    exact key O _ hB
  refine anyE_reads hs hc hn hS O _ _ a (pickL_map O (fun d hd => by have := hlt d hd; omega)) inv hB (fun a' hL => ?_) (by rw [h1]; exact h.runQ a hR)
  rw [← lst_app]
  exact hL w hM hS (by rw [lst_app]; exact segE_inv O _ inv hB)⟩
theorem XQ_nodeE {n N f : Nat} {ds : List Nat} {R : Regs} {M M' : World → Prop} (h : TE P n ops Q S N f ds R M) : XQ P n ops (QR P ops Q S N f ds M) [] R M' := .q fun a hR w hM hS inv => h.run a w inv hR hM hS
/-- The one operation that comes next, ahead of the last ones. -/
theorem TE_one {n N f : Nat} {ds : List Nat} {R : Regs} {M : World → Prop} (i : Nat) {o : Oper} (hr : readyB ops ds [i] = true) (hi : Nat.blt i N = true) (ho : ops[i]? = some o) (h : X P n ops (Only (QE P ops Q S N f (ds ++ [i]))) [o] R M) : TE P n ops Q S N (f + 1) ds R M := ⟨fun a w inv hR hM hS => by
  have e : Region.ready .any ops (lst ops ds) = [i] := by simpa [readyB] using hr
  have hin : i < N := Nat.le_of_ble_eq_true hi
  refine ⟨by rw [e]; simp, fun j hj => ?_⟩
  rw [e] at hj
  obtain rfl := List.mem_singleton.1 hj
  refine ⟨fun _ => ?_, fun h => absurd hin (Nat.not_lt.2 h)⟩
  have h1 := h.runX a w hR hM
  have h2 : wpOp P ops (Only (QE P ops Q S N f (ds ++ [j]))) j (wpList P ops (Only (QE P ops Q S N f (ds ++ [j]))) []) a w := by unfold wpOp; simp only [ho]; exact h1
  refine wpOp_only2 (fun a' w' h' => ?_) h2
  rw [← lst_snoc]
  exact ⟨h'.1, h'.2 (by rw [lst_snoc]; exact inv.set (by rw [e]; simp) hin)⟩⟩
theorem XT_nodeE {n N f : Nat} {ds : List Nat} {R : Regs} {M : World → Prop} (hS : ∀ w, M w → S w) (h : TE P n ops Q S N f ds R M) : XT n (QE P ops Q S N f ds) .normal R M := ⟨fun a w hR hM => ⟨hS w hM, fun inv => h.run a w inv hR hM (hS w hM)⟩⟩
theorem XT_nodeW {n f : Nat} {ds : List Nat} {R : Regs} {M : World → Prop} (h : TN P n ops Q f ds R M) : XT n (QW P ops Q f ds) .normal R M := ⟨fun a w hR hM => h.run a w hR hM⟩
/-- One of two operations comes next. -/
theorem TE_two {n N f : Nat} {ds : List Nat} {R : Regs} {M : World → Prop} (i j : Nat) {o1 o2 : Oper} (hr : readyB ops ds [i, j] = true) (hi : Nat.blt i N = true) (hj : Nat.blt j N = true) (ho1 : ops[i]? = some o1) (ho2 : ops[j]? = some o2)
    (h1 : X P n ops (Only (QE P ops Q S N f (ds ++ [i]))) [o1] R M) (h2 : X P n ops (Only (QE P ops Q S N f (ds ++ [j]))) [o2] R M) : TE P n ops Q S N (f + 1) ds R M := ⟨fun a w inv hR hM hS => by
  have e : Region.ready .any ops (lst ops ds) = [i, j] := by simpa [readyB] using hr
  have key : ∀ (m : Nat) (o : Oper), m ∈ Region.ready .any ops (lst ops ds) → m < N → ops[m]? = some o → X P n ops (Only (QE P ops Q S N f (ds ++ [m]))) [o] R M →
      wpOp P ops (Only Q) m (fun a' w' => S w' ∧ anyE P .any ops S (Only Q) N f ((lst ops ds).setIfInBounds m true) a' w') a w := fun m o hm hmN ho h => by
    have h1 := h.runX a w hR hM
    have h2 : wpOp P ops (Only (QE P ops Q S N f (ds ++ [m]))) m (wpList P ops (Only (QE P ops Q S N f (ds ++ [m]))) []) a w := by unfold wpOp; simp only [ho]; exact h1
    refine wpOp_only2 (fun a' w' h' => ?_) h2
    rw [← lst_snoc]
    exact ⟨h'.1, h'.2 (by rw [lst_snoc]; exact inv.set hm hmN)⟩
  have hi' : i < N := Nat.le_of_ble_eq_true hi
  have hj' : j < N := Nat.le_of_ble_eq_true hj
  refine ⟨by rw [e]; simp, fun m hm => ?_⟩
  have hm2 := hm
  rw [e] at hm2
  rcases List.mem_cons.1 hm2 with rfl | hm2
  · exact ⟨fun _ => key _ _ hm hi' ho1 h1, fun h => absurd hi' (Nat.not_lt.2 h)⟩
  · obtain rfl := List.mem_singleton.1 hm2
    exact ⟨fun _ => key _ _ hm hj' ho2 h2, fun h => absurd hj' (Nat.not_lt.2 h)⟩⟩
/-- From the n-th on. -/
theorem TE_tail {n N f : Nat} {ds : List Nat} {R : Regs} {M : World → Prop} (i : Nat) {o : Oper} (hr : readyB ops ds [i] = true) (hi : Nat.ble N i = true) (ho : ops[i]? = some o) (h : X P n ops (Only (QW P ops Q f (ds ++ [i]))) [o] R M) : TE P n ops Q S N (f + 1) ds R M := ⟨fun a w inv hR hM hS => by
  have e : Region.ready .any ops (lst ops ds) = [i] := by simpa [readyB] using hr
  have hin : N ≤ i := Nat.le_of_ble_eq_true hi
  refine ⟨by rw [e]; simp, fun j hj => ?_⟩
  rw [e] at hj
  obtain rfl := List.mem_singleton.1 hj
  refine ⟨fun h => absurd hin (Nat.not_le.2 h), fun _ => ?_⟩
  have h1 := h.runX a w hR hM
  have h2 : wpOp P ops (Only (QW P ops Q f (ds ++ [j]))) j (wpList P ops (Only (QW P ops Q f (ds ++ [j]))) []) a w := by unfold wpOp; simp only [ho]; exact h1
  refine wpOp_only2 (fun a' w' h' => ?_) h2
  rw [← lst_snoc]
  exact h'⟩
/-- What holds throughout may be told more narrowly for what is left. -/
theorem anyE_mono {S' : World → Prop} (hS : ∀ w, S' w → S w) {n : Nat} : ∀ (f : Nat) (listed : Array Bool) (a : Act) (w : World), anyE P md ops S' Q n f listed a w → anyE P md ops S Q n f listed a w
  | 0, _, _, _, h => h
  | f + 1, listed, a, w, h => ⟨h.1, fun i hi => ⟨fun hn => wpOp_mono (fun a' w' h' => ⟨hS w' h'.1, anyE_mono hS f _ a' w' h'.2⟩) ((h.2 i hi).1 hn), (h.2 i hi).2⟩⟩
theorem TE_re {n N f : Nat} {ds : List Nat} {R : Regs} {M : World → Prop} (S' : World → Prop) (h1 : ∀ w, S' w → S w) (h2 : ∀ w, M w → S' w) (h : TE P n ops Q S' N f ds R M) : TE P n ops Q S N f ds R M :=
  ⟨fun a w inv hR hM hS => anyE_mono h1 _ _ _ _ (h.run a w inv hR hM (h2 w hM))⟩
end
end Go.Proofs.Ytfkhdhdbfejbpaa.MX
