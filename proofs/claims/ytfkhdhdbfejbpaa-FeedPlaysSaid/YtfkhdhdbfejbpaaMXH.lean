/- A region that draws its order, some of whose operations only compute and may come ahead of or behind a store: these first, then those that read, in the text's order, then the tail. No program in sight. -/
import Derived.Test.YtfkhdhdbfejbpaaMXT
import Derived.Test.YtfkhdhdbfejbpaaMXG
namespace Go.Proofs.Ytfkhdhdbfejbpaa.MX
open Go
set_option linter.unusedVariables false
set_option linter.unusedSimpArgs false
section
variable {P : Program} {ops : Array Oper} {md : Region.Mode} {C : World → Prop} {Q : Exit → Act → World → Prop}
/-- Only the normal end. -/
def Only (Q : Exit → Act → World → Prop) : Exit → Act → World → Prop := fun e a w => match e with | .normal => Q .normal a w | _ => False
theorem only_le {e : Exit} {a : Act} {w : World} (h : Only Q e a w) : Q e a w := by
  cases e <;> first | exact h | exact False.elim h
theorem wp_only {o : Oper} {a : Act} {w : World} {K K' : Act → World → Prop} (h : ∀ a w, K a w → K' a w) (hh : o.wp P a w K (Only Q)) (hl : LetsOut (Only Q) → LetsOut Q) : o.wp P a w K' Q := by
  unfold Oper.wp at *
  generalize (execOp a.eval o).run P w = r at *
  cases r with
  | ok n w' =>
    cases n <;> simp only [Oper.upon] at hh ⊢ <;>
      first
        | exact h _ _ hh
        | exact Calls.mono hh (fun e w'' he => by cases e <;> first | exact h _ _ he | exact hl he | exact False.elim he)
        | exact Rows.mono hh (fun _ _ he => h _ _ he)
  | halt x w' => cases x <;> simp only [Oper.upon] at hh ⊢ <;> first | exact hh | exact False.elim hh
theorem any_only (hl : LetsOut (Only Q) → LetsOut Q) : ∀ (f : Nat) (listed : Array Bool) (a : Act) (w : World), wpAny P md ops (Only Q) f listed a w → wpAny P md ops Q f listed a w
  | 0, _, _, _, h => ⟨h.1, h.2⟩
  | f + 1, _, _, _, h => ⟨fun h0 => h.1 h0, fun i hi => by
    have := h.2 i hi
    unfold wpOp at this ⊢
    split
    · rename_i ho; simp only [ho] at this; exact any_only hl f _ _ _ this
    · rename_i o ho
      simp only [ho] at this
      split
      · rename_i hw
        simp only [hw, if_true] at this
        exact this.imp (fun h => wp_only (fun a w => any_only hl f _ a w) h hl) (fun h => ⟨h.1, hl h.2⟩)
      · rename_i hw; simp only [hw] at this; exact any_only hl f _ _ _ this⟩
theorem only_lets : LetsOut (Only Q) → LetsOut Q := fun ⟨_, _, h⟩ => False.elim h
/-- Operations that only compute. -/
def pureB (o : Oper) : Bool := match o.op with | .move _ | .assign _ | .binOp .. => true | _ => false
theorem pure_value {o : Oper} {a : Act} {w : World} {v : Value} (hp : pureB o = true) (h : o.quietAt P a (fun _ => True) w v) : (execOp a.eval o).run P w = .ok (.value v) w := by
  obtain ⟨dst, op, ty, pos, af, gd⟩ := o
  have hb : ∀ (s : Sem Value), Oper.quietUpon P (fun _ => True) w v ((do pure (.value (← s)) : Sem Next).run P w) → (do pure (.value (← s)) : Sem Next).run P w = .ok (.value v) w := fun s hs => by
    simp only [Sem.run_bind] at hs ⊢
    cases hr : s.run P w with
    | ok u w' =>
      rw [hr] at hs
      simp only [Result.andThen_ok, Sem.run_pure, Oper.quietUpon] at hs ⊢
      rw [hs.1, hs.2]
    | halt x w' =>
      rw [hr] at hs
      exact False.elim hs
  unfold Oper.quietAt at h
  cases op <;> first | (cases hp; done) | skip
  · simp only [execOp, Sem.run_pure, Oper.quietUpon] at h ⊢
    rw [h.2]
  · simp only [execOp, Sem.run_pure, Oper.quietUpon] at h ⊢
    rw [h.2]
  · exact hb _ h
theorem yields_of_in {o : Oper} {v : Value} {a : Act} (hp : pureB o = true) (h : YieldsIn P ops (fun _ => True) o v a) : Yields P ops o v a :=
  h.imp (fun ⟨hw, hv⟩ => ⟨hw, fun w => pure_value hp (hv w trivial)⟩) (fun h => h)
def setAll (ds : List Nat) (listed : Array Bool) : Array Bool := ds.foldl (fun l d => l.setIfInBounds d true) listed
/-- All orders; as long as no operation of the tail has come up, the world is any of the class. -/
def anyM (P : Program) (md : Region.Mode) (ops : Array Oper) (C : World → Prop) (Q : Exit → Act → World → Prop) (n : Nat) : Nat → Array Bool → Act → Prop
  | 0, _, _ => False
  | f + 1, listed, a => Region.ready md ops listed ≠ [] ∧ ∀ i ∈ Region.ready md ops listed, (i < n → qOp P ops C i (anyM P md ops C Q n f (listed.setIfInBounds i true)) a) ∧
      (n ≤ i → ∀ w, C w → wpOp P ops Q i (wpAny P md ops Q f (listed.setIfInBounds i true)) a w)
theorem any_of_anyM {n : Nat} : ∀ (f : Nat) (listed : Array Bool) (a : Act) (w : World), C w → anyM P md ops C Q n f listed a → wpAny P md ops Q f listed a w
  | 0, _, _, _, _, h => False.elim h
  | f + 1, listed, a, w, hw, h => ⟨fun e => absurd e h.1, fun i hi => by
    rcases Nat.lt_or_ge i n with hn | hn
    · exact wpOp_of_qOp hw (fun a' w' hw' h' => any_of_anyM f _ a' w' hw' h') ((h.2 i hi).1 hn)
    · exact (h.2 i hi).2 hn w hw⟩
theorem not_on {i : Nat} {oj : Oper} {listed : Array Bool} (hun : listed.getD i true = false) (hall : ∀ e ∈ oj.after, Region.binds md e = true → listed.getD e.on false = true) : ∀ e ∈ oj.after, Region.binds md e = true → e.on ≠ i := fun e' he hb heq => by
  have h1 := hall e' he hb
  rw [heq, getD_both hun] at h1
  cases h1
theorem free_set {i j : Nat} {oi : Oper} {listed : Array Bool} (hjun : listed.getD j true = false)
    (hfree : ∀ j oj, ops[j]? = some oj → j ≠ i → listed.getD j true = false → (∀ e ∈ oj.after, Region.binds md e = true → e.on ≠ i) → oi.apart ops oj = true) :
    ∀ k ok, ops[k]? = some ok → k ≠ i → (listed.setIfInBounds j true).getD k true = false → (∀ e ∈ ok.after, Region.binds md e = true → e.on ≠ i) → oi.apart ops ok = true := fun k ok hk hki hku hno => hfree k ok hk hki (by
  by_cases hjk : j = k
  · subst hjk; exact hjun
  · rwa [getD_set_ne true hjk] at hku) hno
/-- One that only computes may come first. -/
theorem anyM_pure {n i : Nat} {oi : Oper} {v : Value} (hi : ops[i]? = some oi) (hin : i < n) (hsel : ∀ (j : Nat) (o : Oper) cs b, ops[j]? = some o → o.op ≠ .select cs b) (hQ : ∀ c a w, Q (.panic c) (a.put oi.dst v) w → Q (.panic c) a w) (f : Nat) :
    ∀ (listed : Array Bool) (a : Act), (∀ j oj, ops[j]? = some oj → j ≠ i → listed.getD j true = false → (∀ e ∈ oj.after, Region.binds md e = true → e.on ≠ i) → oi.apart ops oj = true) →
      i ∈ Region.ready md ops listed → Yields P ops oi v a → YieldsIn P ops C oi v a → anyM P md ops C Q n f (listed.setIfInBounds i true) (a.put oi.dst v) → anyM P md ops C Q n (f + 1) listed a := by
  induction f with
  | zero => intro _ _ _ _ _ _ H; exact False.elim H
  | succ f ih =>
    intro listed a hfree hr hy hyC H
    have hun := (mem_ready.1 hr).1
    refine ⟨fun e => (by rw [e] at hr; cases hr), fun j hj => ?_⟩
    by_cases e : j = i
    · subst e
      exact ⟨fun _ => hyC.qOp hi H, fun h => absurd hin (Nat.not_lt.2 h)⟩
    · obtain ⟨hjun, oj, hoj, hall⟩ := mem_ready.1 hj
      have hap := hfree j oj hoj e hjun (not_on hun hall)
      have hH := H.2 j (ready_mono hj e)
      refine ⟨fun hjn => ?_, fun hjn w hw => ?_⟩
      · have h1 := qOp_put hoj hap (fun cs b => hsel i oi cs b hi) (fun cs b => hsel j oj cs b hoj) hyC (hH.1 hjn)
        have h2 : ∀ u, Yields P ops oi v (a.put oj.dst u) := fun u => hy.of_same (execOp_put oi (fun cs b => hsel i oi cs b hi) a oj.dst u (Oper.apart_spec hap).2.2) (wanted_put oi a oj.dst u (Oper.apart_spec hap).2.2)
        unfold qOp at h1 ⊢
        simp only [hoj] at h1 ⊢
        split
        · rename_i hw
          simp only [hw, if_true] at h1
          obtain ⟨u, hu, hn1, hn2⟩ := h1
          refine ⟨u, hu, ih _ _ (free_set hjun hfree) (ready_mono hr (Ne.symm e)) (h2 u) hn1 ?_⟩
          rw [Array.setIfInBounds_comm _ _ e]
          exact hn2
        · rename_i hw
          simp only [hw] at h1
          refine ih _ _ (free_set hjun hfree) (ready_mono hr (Ne.symm e)) (h2 _) h1.1 ?_
          rw [Array.setIfInBounds_comm _ _ e]
          exact h1.2
      · have h1 := wpOp_put hoj hap (fun cs b => hsel i oi cs b hi) (fun cs b => hsel j oj cs b hoj) hQ hy (hH.2 hjn w hw)
        refine wpOp_mono (fun a' w' h3 => wpAny_first hi hsel hQ _ _ a' w' (free_set hjun hfree) (ready_mono hr (Ne.symm e)) h3.1 ?_) h1
        rw [Array.setIfInBounds_comm _ _ e]
        exact h3.2
/-- The tail's first waits for k, by a chain. -/
def pathB (md : Region.Mode) (ops : Array Oper) (n : Nat) : Nat → Nat → Bool
  | 0, k => k == n
  | f + 1, k => k == n || (List.range (n + 1)).any fun j => decide (k < j) && Region.waitsFor md ops j k && pathB md ops n f j
theorem path_waits {n : Nat} {listed : Array Bool} (hc : Region.chainB md ops n = true) (hn : n < ops.size) (inv : HeadInv md ops n listed) : ∀ (f k : Nat), pathB md ops n f k = true → k < n → listed.getD k true = false → ∀ t, n ≤ t → t ∉ Region.ready md ops listed
  | 0, k, hp, hk, _, _, _, _ => by
    simp only [pathB, beq_iff_eq] at hp
    omega
  | f + 1, k, hp, hk, hun, t, ht, hr => by
    simp only [pathB, Bool.or_eq_true, beq_iff_eq] at hp
    rcases hp with hp | hp
    · omega
    obtain ⟨j, hj, hj2⟩ := List.any_eq_true.1 hp
    simp only [Bool.and_eq_true, decide_eq_true_eq] at hj2
    obtain ⟨⟨hkj, hw⟩, hpj⟩ := hj2
    have hjle : j ≤ n := by have := List.mem_range.1 hj; omega
    obtain ⟨oj, hoj, e, he, hb, hon⟩ := Region.waitsFor_spec hw
    have hjun : listed.getD j false = false := by
      cases hl : listed.getD j false with
      | false => rfl
      | true =>
        have h2 := inv.closed j oj hoj hl e he hb
        rw [hon, getD_both hun] at h2
        cases h2
    by_cases hjn : j = n
    · subst hjn
      obtain ⟨_, ot, hot, hall⟩ := mem_ready.1 hr
      have htlt : t < ops.size := (Array.getElem?_eq_some_iff.1 hot).1
      by_cases htn : t = j
      · subst htn
        obtain rfl : oj = ot := Option.some.inj (hoj.symm.trans hot)
        have h2 := hall e he hb
        rw [hon, getD_both hun] at h2
        cases h2
      · have h1 := List.all_eq_true.1 hc t (List.mem_range.2 htlt)
        simp only [Bool.or_eq_true, decide_eq_true_eq] at h1
        rcases h1 with h1 | h1
        · omega
        · obtain ⟨o', ho', e', he', hb', hon'⟩ := Region.waitsFor_spec h1
          obtain rfl : o' = ot := Option.some.inj (ho'.symm.trans hot)
          have h2 := hall e' he' hb'
          rw [hon', getD_both (inv.tail (t - 1) (by omega) (by omega))] at h2
          cases h2
    · exact path_waits hc hn inv f j hpj (by omega) (getD_in (by rw [inv.size]; omega) hjun) t ht hr
/-- One that reads may come first, if the tail waits for it. -/
theorem anyM_quiet {n i : Nat} {oi : Oper} {v : Value} {F : Nat} (hi : ops[i]? = some oi) (hin : i < n) (hsel : ∀ (j : Nat) (o : Oper) cs b, ops[j]? = some o → o.op ≠ .select cs b) (hc : Region.chainB md ops n = true) (hn : n < ops.size) (hp : pathB md ops n F i = true) (f : Nat) :
    ∀ (listed : Array Bool) (a : Act), HeadInv md ops n listed → (∀ j oj, ops[j]? = some oj → j ≠ i → listed.getD j true = false → (∀ e ∈ oj.after, Region.binds md e = true → e.on ≠ i) → oi.apart ops oj = true) →
      i ∈ Region.ready md ops listed → YieldsIn P ops C oi v a → anyM P md ops C Q n f (listed.setIfInBounds i true) (a.put oi.dst v) → anyM P md ops C Q n (f + 1) listed a := by
  induction f with
  | zero => intro _ _ _ _ _ _ H; exact False.elim H
  | succ f ih =>
    intro listed a inv hfree hr hy H
    have hun := (mem_ready.1 hr).1
    refine ⟨fun e => (by rw [e] at hr; cases hr), fun j hj => ?_⟩
    have hjn : j < n := Nat.lt_of_not_le fun h => absurd hj (path_waits hc hn inv F i hp hin hun j h)
    refine ⟨fun _ => ?_, fun h => absurd hjn (Nat.not_lt.2 h)⟩
    by_cases e : j = i
    · subst e
      exact hy.qOp hi H
    · obtain ⟨hjun, oj, hoj, hall⟩ := mem_ready.1 hj
      refine qOp_mono (fun a' h3 => ?_) (qOp_put hoj (hfree j oj hoj e hjun (not_on hun hall)) (fun cs b => hsel i oi cs b hi) (fun cs b => hsel j oj cs b hoj) hy ((H.2 j (ready_mono hj e)).1 hjn))
      refine ih (listed.setIfInBounds j true) a' (inv.set hj hjn) (free_set hjun hfree) (ready_mono hr (Ne.symm e)) h3.1 ?_
      rw [Array.setIfInBounds_comm _ _ e]
      exact h3.2
/-- The checks of a stretch of the order: which may come up, free of the others; those that only compute, or those for which the tail waits. -/
def segB (md : Region.Mode) (ops : Array Oper) (n : Nat) (pure : Bool) : List Nat → Array Bool → Bool
  | [], _ => true
  | d :: r, listed => decide (d < n) && (Region.ready md ops listed).contains d && Region.free md ops listed d && (if pure then ((ops[d]?).map pureB).getD false else pathB md ops n n d) && segB md ops n pure r (listed.setIfInBounds d true)
theorem seg_inv {n : Nat} {pure : Bool} : ∀ (ds : List Nat) (listed : Array Bool), HeadInv md ops n listed → segB md ops n pure ds listed = true → HeadInv md ops n (setAll ds listed)
  | [], _, h, _ => h
  | d :: ds, listed, h, hB => by
    simp only [segB, Bool.and_eq_true, decide_eq_true_eq] at hB
    exact seg_inv ds _ (h.set (by simpa using hB.1.1.1.2) hB.1.1.1.1) hB.2
theorem anyM_pures {n f : Nat} {L : Act → Prop} (hs : Region.noSelect ops = true) : ∀ (ds : List Nat) (l : List Oper) (listed : Array Bool) (a : Act), ds.map (fun d => ops[d]?) = l.map some → segB md ops n true ds listed = true →
    (∀ a', L a' → anyM P md ops C (Only Q) n f (setAll ds listed) a') → wpQuiet P ops (fun _ => True) L l a → anyM P md ops C (Only Q) n (f + ds.length) listed a
  | [], [], _, _, _, _, hL, h => hL _ h
  | [], _ :: _, _, _, hm, _, _, _ => by cases hm
  | _ :: _, [], _, _, hm, _, _, _ => by cases hm
  | d :: ds, o :: l, listed, a, hm, hB, hL, h => by
    simp only [List.map_cons, List.cons.injEq] at hm
    simp only [segB, Bool.and_eq_true, decide_eq_true_eq, if_true] at hB
    obtain ⟨⟨⟨⟨hd, hr⟩, hf⟩, hp⟩, hB'⟩ := hB
    rw [hm.1] at hp
    have hst : qOp P ops (fun _ => True) d (wpQuiet P ops (fun _ => True) L l) a := by unfold qOp; simp only [hm.1]; exact h
    obtain ⟨v, hy, hK⟩ := yieldsIn_of_qOp hm.1 hst
    have hyl := yields_of_in (by simpa using hp) hy
    have hyC : YieldsIn P ops C o v a := hyl.imp (fun ⟨hw, hv⟩ => ⟨hw, fun w _ => by unfold Oper.quietAt; rw [hv w]; exact ⟨rfl, rfl⟩⟩) (fun h => h)
    exact anyM_pure hm.1 hd (Region.noSelect_spec hs) (fun c a w h => False.elim h) (f + ds.length) listed a (Region.free_spec hm.1 hf) (by simpa using hr) hyl hyC (anyM_pures hs ds l _ _ hm.2 hB' hL hK)
theorem anyM_quiets {n f : Nat} {L : Act → Prop} (hs : Region.noSelect ops = true) (hc : Region.chainB md ops n = true) (hn : n < ops.size) : ∀ (ds : List Nat) (l : List Oper) (listed : Array Bool) (a : Act), ds.map (fun d => ops[d]?) = l.map some → HeadInv md ops n listed → segB md ops n false ds listed = true →
    (∀ a', L a' → anyM P md ops C Q n f (setAll ds listed) a') → wpQuiet P ops C L l a → anyM P md ops C Q n (f + ds.length) listed a
  | [], [], _, _, _, _, _, hL, h => hL _ h
  | [], _ :: _, _, _, hm, _, _, _, _ => by cases hm
  | _ :: _, [], _, _, hm, _, _, _, _ => by cases hm
  | d :: ds, o :: l, listed, a, hm, inv, hB, hL, h => by
    simp only [List.map_cons, List.cons.injEq] at hm
    simp only [segB, Bool.and_eq_true, decide_eq_true_eq, Bool.false_eq_true, if_false] at hB
    obtain ⟨⟨⟨⟨hd, hr⟩, hf⟩, hp⟩, hB'⟩ := hB
    have hr' : d ∈ Region.ready md ops listed := by simpa using hr
    have hst : qOp P ops C d (wpQuiet P ops C L l) a := by unfold qOp; simp only [hm.1]; exact h
    obtain ⟨v, hy, hK⟩ := yieldsIn_of_qOp hm.1 hst
    exact anyM_quiet hm.1 hd (Region.noSelect_spec hs) hc hn hp (f + ds.length) listed a inv (Region.free_spec hm.1 hf) hr' hy (anyM_quiets hs hc hn ds l _ _ hm.2 (inv.set hr' hd) hB' hL hK)
def hoistB (ops : Array Oper) (D O E : List Nat) (n : Nat) : Bool :=
  let l0 := Array.replicate ops.size false
  Region.noSelect ops && decide (n < ops.size) && Region.chainB .any ops n && segB .any ops n true D l0 && segB .any ops n false O (setAll D l0) && segB .any ops n true E (setAll O (setAll D l0)) &&
    Region.seqB .any ops (ops.size - n) n (setAll E (setAll O (setAll D l0))) && decide (E.length + O.length + D.length = n)
theorem wp_region_hoist {id : Nat} {a : Act} {w : World} {l : List Oper} (D O E : List Nat) (n : Nat) (hm : P.follows .mixedOrders = true) (hB : hoistB l.toArray D O E n = true) (hC : C (w.drewN 1)) {lD lO lE : List Oper}
    (h1 : D.map (fun d => l.toArray[d]?) = lD.map some) (h2 : O.map (fun d => l.toArray[d]?) = lO.map some) (h3 : E.map (fun d => l.toArray[d]?) = lE.map some)
    (h : wpQuiet P l.toArray (fun _ => True) (fun a1 => wpQuiet P l.toArray C (fun a2 => wpQuiet P l.toArray (fun _ => True) (fun a3 => ∀ w', C w' → wpList P l.toArray (Only Q) (l.drop n) a3 w') lE a2) lO a1) lD a) : (Code.region id l.toArray true).wp P Q a w := by
  simp only [hoistB, Bool.and_eq_true, decide_eq_true_eq] at hB
  obtain ⟨⟨⟨⟨⟨⟨⟨hsel, hn⟩, hc⟩, hd⟩, ho⟩, he⟩, hseq⟩, hlen⟩ := hB
  have hdl : (l.drop n).length = l.toArray.size - n := by simp
  have inv0 : HeadInv .any l.toArray n (Array.replicate l.toArray.size false) :=
    ⟨by simp, fun j oj _ hl => (by rw [getD_replicate_false] at hl; cases hl), fun t _ ht => getD_in (by simpa using ht) (getD_replicate_false _ _)⟩
  have inv1 := seg_inv D _ inv0 hd
  have inv2 := seg_inv O _ inv1 ho
  refine wp_region_any hm ?_
  refine any_only only_lets _ _ _ _ ?_
  have htail : ∀ a3, (∀ w', C w' → wpList P l.toArray (Only Q) (l.drop n) a3 w') → anyM P .any l.toArray C (Only Q) n (l.toArray.size - n) (setAll E (setAll O (setAll D (Array.replicate l.toArray.size false)))) a3 := fun a3 h3 => by
    have hwp : ∀ w', C w' → wpAny P .any l.toArray (Only Q) (l.toArray.size - n) (setAll E (setAll O (setAll D (Array.replicate l.toArray.size false)))) a3 w' := fun w' hw' => by
      have := wpAny_of_seq (md := .any) (Q' := Only Q) (l.drop n) n _ a3 w' (fun j => by simp [List.getElem?_drop]) (by rw [hdl]; exact hseq) (h3 w' hw')
      rwa [hdl] at this
    obtain ⟨g, hg⟩ : ∃ g, l.toArray.size - n = g + 1 := ⟨l.toArray.size - n - 1, by omega⟩
    rw [hg] at hwp hseq ⊢
    have hge := seqB_ready hseq
    simp only [Region.seqB, Bool.and_eq_true, decide_eq_true_eq] at hseq
    exact ⟨by rw [hseq.1]; simp, fun i hi => ⟨fun h => absurd h (Nat.not_lt.2 (hge i hi)), fun _ w' hw' => (hwp w' hw').2 i hi⟩⟩
  have := anyM_pures (C := C) (Q := Q) (f := l.toArray.size - n + E.length + O.length) hsel D lD _ a h1 hd (fun a1 hL1 => anyM_quiets (Q := Only Q) (f := l.toArray.size - n + E.length) hsel hc hn O lO _ a1 h2 inv1 ho
    (fun a2 hL2 => anyM_pures (C := C) (Q := Q) (f := l.toArray.size - n) hsel E lE _ a2 h3 he htail hL2) hL1) h
  rw [show l.toArray.size - n + E.length + O.length + D.length = l.toArray.size by omega] at this
  exact any_of_anyM _ _ _ _ hC this
/-- What is asked of the frame behind a stretch. -/
def QHead (P : Program) (ops : Array Oper) (M : World → Prop) (K : Act → Prop) (l : List Oper) : Act → Prop := fun a' => wpQuiet P ops M K l a'
theorem XQ_nilH {n : Nat} {R : Regs} {M M' : World → Prop} {K : Act → Prop} {l : List Oper} (h : XQ P n ops K l R M) : XQ P n ops (QHead P ops M K l) [] R M' := .q fun a hR => h.runQ a hR
theorem XQ_nilT {n : Nat} {R : Regs} {M M' : World → Prop} {l : List Oper} (h : X P n ops Q l R M) : XQ P n ops (QTail P ops Q l M) [] R M' := .q fun a hR => fun w' hw' => h.runX a w' hR hw'
def pickL (l : List Oper) : List Nat → List Oper
  | [] => []
  | d :: r => match l[d]? with | some o => o :: pickL l r | none => pickL l r
theorem pickL_map {l : List Oper} : ∀ (D : List Nat), (∀ d ∈ D, d < l.length) → D.map (fun d => l.toArray[d]?) = (pickL l D).map some
  | [], _ => rfl
  | d :: r, h => by
    have hd := h d (List.mem_cons_self ..)
    have := pickL_map r (fun e he => h e (List.mem_cons_of_mem _ he))
    simp only [List.map_cons, pickL, List.getElem?_eq_getElem hd, List.getElem?_toArray] at this ⊢
    rw [this]
theorem seg_lt {n : Nat} {pure : Bool} : ∀ (O : List Nat) (listed : Array Bool), segB md ops n pure O listed = true → ∀ d ∈ O, d < n
  | [], _, _, d, hd => by cases hd
  | k :: r, listed, h, d, hd => by
    simp only [segB, Bool.and_eq_true, decide_eq_true_eq] at h
    rcases List.mem_cons.1 hd with rfl | hd
    · exact h.1.1.1.1
    · exact seg_lt r _ h.2 d hd
theorem XC_hoist {n id : Nat} {R : Regs} {M : World → Prop} {l : List Oper} (D O E : List Nat) (N : Nat) (hm : P.follows .mixedOrders = true) (hB : hoistB l.toArray D O E N = true) (hD : Drw M) {lD lO lE lT : List Oper}
    (h1 : pickL l D = lD) (h2 : pickL l O = lO) (h3 : pickL l E = lE) (h4 : l.drop N = lT)
    (h : XQ P n l.toArray (QHead P l.toArray M (QHead P l.toArray (fun _ => True) (QTail P l.toArray (Only Q) lT M) lE) lO) lD R (fun _ => True)) : XC P n (.region id l.toArray true) Q R M := by
  have hB' := hB
  simp only [hoistB, Bool.and_eq_true, decide_eq_true_eq] at hB'
  obtain ⟨⟨⟨⟨⟨⟨⟨hsel, hn⟩, hc⟩, hd⟩, ho⟩, he⟩, hseq⟩, hlen⟩ := hB'
  have hn' : N < l.length := by simpa using hn
  refine ⟨fun a w hR hM => wp_region_hoist (C := M) D O E N hm hB (hD w 1 hM) (lD := lD) (lO := lO) (lE := lE) ?_ ?_ ?_ (by rw [h4]; exact h.runQ a hR)⟩
  · rw [← h1]; exact pickL_map D (fun d hd' => by have := seg_lt D _ hd d hd'; omega)
  · rw [← h2]; exact pickL_map O (fun d hd' => by have := seg_lt O _ ho d hd'; omega)
  · rw [← h3]; exact pickL_map E (fun d hd' => by have := seg_lt E _ he d hd'; omega)
theorem XT_only {n : Nat} {R : Regs} {M : World → Prop} (h : XT n Q .normal R M) : XT n (Only Q) .normal R M := ⟨fun a w hR hM => h.run a w hR hM⟩
/-! ### Few orders left: each of them is walked -/
theorem wp_only2 {Q2 : Exit → Act → World → Prop} {o : Oper} {a : Act} {w : World} {K K' : Act → World → Prop} (h : ∀ a w, K a w → K' a w) (hh : o.wp P a w K (Only Q)) : o.wp P a w K' Q2 := by
  unfold Oper.wp at *
  generalize (execOp a.eval o).run P w = r at *
  cases r with
  | ok n w' =>
    cases n <;> simp only [Oper.upon] at hh ⊢ <;>
      first
        | exact h _ _ hh
        | exact Calls.mono hh (fun e w'' he => by cases e <;> first | exact h _ _ he | exact False.elim (he.elim fun _ h => h.elim fun _ h => h) | exact False.elim he)
        | exact Rows.mono hh (fun _ _ he => h _ _ he)
  | halt x w' => cases x <;> simp only [Oper.upon] at hh ⊢ <;> first | exact hh | exact False.elim hh
theorem wpOp_only2 {Q2 : Exit → Act → World → Prop} {i : Nat} {a : Act} {w : World} {K K' : Act → World → Prop} (h : ∀ a w, K a w → K' a w) (hh : wpOp P ops (Only Q) i K a w) : wpOp P ops Q2 i K' a w := by
  unfold wpOp at hh ⊢
  split
  · rename_i ho; simp only [ho] at hh; exact h _ _ hh
  · rename_i o ho
    simp only [ho] at hh
    split
    · rename_i hw
      simp only [hw, if_true] at hh
      rcases hh with hh | hh
      · exact .inl (wp_only2 h hh)
      · exact False.elim (hh.2.elim fun _ h => h.elim fun _ h => h)
    · rename_i hw; simp only [hw] at hh; exact h _ _ hh
def lst (ops : Array Oper) (ds : List Nat) : Array Bool := setAll ds (Array.replicate ops.size false)
theorem lst_snoc (ds : List Nat) (i : Nat) : lst ops (ds ++ [i]) = (lst ops ds).setIfInBounds i true := by simp [lst, setAll, List.foldl_append]
/-- What the frame and the world behind an operation shall meet: all orders of the rest. -/
def QW (P : Program) (ops : Array Oper) (Q : Exit → Act → World → Prop) (f : Nat) (ds : List Nat) : Exit → Act → World → Prop := fun _ a w => wpAny P .any ops (Only Q) f (lst ops ds) a w
def QM (P : Program) (ops : Array Oper) (M : World → Prop) (Q : Exit → Act → World → Prop) (N f : Nat) (ds : List Nat) : Act → Prop := fun a => anyM P .any ops M (Only Q) N f (lst ops ds) a
structure TN (P : Program) (n : Nat) (ops : Array Oper) (Q : Exit → Act → World → Prop) (f : Nat) (ds : List Nat) (R : Regs) (M : World → Prop) : Prop where run : ∀ a w, Mod n a R → M w → wpAny P .any ops (Only Q) f (lst ops ds) a w
structure TM (P : Program) (n : Nat) (ops : Array Oper) (Q : Exit → Act → World → Prop) (N f : Nat) (ds : List Nat) (R : Regs) (M : World → Prop) : Prop where run : ∀ a, Mod n a R → anyM P .any ops M (Only Q) N f (lst ops ds) a
def readyB (ops : Array Oper) (ds rs : List Nat) : Bool := Region.ready .any ops (lst ops ds) == rs
def AllN (P : Program) (n : Nat) (ops : Array Oper) (Q : Exit → Act → World → Prop) (f : Nat) (ds : List Nat) (R : Regs) (M : World → Prop) : List Nat → Prop
  | [] => True
  | i :: r => (∀ o, ops[i]? = some o → X P n ops (Only (QW P ops Q f (ds ++ [i]))) [o] R M) ∧ AllN P n ops Q f ds R M r
def AllM (P : Program) (n : Nat) (ops : Array Oper) (Q : Exit → Act → World → Prop) (N f : Nat) (ds : List Nat) (R : Regs) (M : World → Prop) : List Nat → Prop
  | [] => True
  | i :: r => (match Nat.blt i N with | true => ∀ o, ops[i]? = some o → XQ P n ops (QM P ops M Q N f (ds ++ [i])) [o] R M | false => ∀ o, ops[i]? = some o → X P n ops (Only (QW P ops Q f (ds ++ [i]))) [o] R M) ∧ AllM P n ops Q N f ds R M r
theorem of_at {i : Nat} {o : Oper} {φ : Oper → Prop} (h : ops[i]? = some o) (k : φ o) : ∀ o', ops[i]? = some o' → φ o' := fun o' h' => Option.some.inj (h.symm.trans h') ▸ k
theorem allN_mem {n f : Nat} {ds : List Nat} {R : Regs} {M : World → Prop} : ∀ {rs : List Nat}, AllN P n ops Q f ds R M rs → ∀ i ∈ rs, ∀ o, ops[i]? = some o → X P n ops (Only (QW P ops Q f (ds ++ [i]))) [o] R M
  | _ :: _, h, i, hi => by
    rcases List.mem_cons.1 hi with rfl | hi
    · exact h.1
    · exact allN_mem h.2 i hi
theorem allM_mem {n N f : Nat} {ds : List Nat} {R : Regs} {M : World → Prop} : ∀ {rs : List Nat}, AllM P n ops Q N f ds R M rs → ∀ i ∈ rs, (i < N → ∀ o, ops[i]? = some o → XQ P n ops (QM P ops M Q N f (ds ++ [i])) [o] R M) ∧ (N ≤ i → ∀ o, ops[i]? = some o → X P n ops (Only (QW P ops Q f (ds ++ [i]))) [o] R M)
  | j :: _, h, i, hi => by
    rcases List.mem_cons.1 hi with rfl | hi
    · have h1 := h.1
      cases hb : Nat.blt i N with
      | true => rw [hb] at h1; exact ⟨fun _ => h1, fun h2 => absurd (Nat.le_of_ble_eq_true hb) (by show ¬ i + 1 ≤ N; omega)⟩
      | false => rw [hb] at h1; exact ⟨fun h2 => (by have : Nat.blt i N = true := Nat.ble_eq_true_of_le h2; rw [hb] at this; cases this), fun _ => h1⟩
    · exact allM_mem h.2 i hi
theorem TN_step {n f : Nat} {ds : List Nat} {R : Regs} {M : World → Prop} (rs : List Nat) (hr : readyB ops ds rs = true) (hne : rs ≠ []) (hb : rs.all (fun i => decide (i < ops.size)) = true) (h : AllN P n ops Q f ds R M rs) : TN P n ops Q (f + 1) ds R M := ⟨fun a w hR hM => by
  have e : Region.ready .any ops (lst ops ds) = rs := by simpa [readyB] using hr
  refine ⟨fun h0 => absurd (e.symm.trans h0) hne, fun i hi => ?_⟩
  rw [e] at hi
  have hlt : i < ops.size := by simpa using List.all_eq_true.1 hb i hi
  have ho : ops[i]? = some ops[i] := Array.getElem?_eq_getElem hlt
  have h1 := (allN_mem h i hi _ ho).runX a w hR hM
  have h2 : wpOp P ops (Only (QW P ops Q f (ds ++ [i]))) i (wpList P ops (Only (QW P ops Q f (ds ++ [i]))) []) a w := by unfold wpOp; simp only [ho]; exact h1
  refine wpOp_only2 (fun a' w' h' => ?_) h2
  rw [← lst_snoc]
  exact h'⟩
theorem TN_end {n : Nat} {ds : List Nat} {R : Regs} {M : World → Prop} (hr : readyB ops ds [] = true) (h : XT n Q .normal R M) : TN P n ops Q 0 ds R M := ⟨fun a w hR hM => ⟨by simpa [readyB] using hr, h.run a w hR hM⟩⟩
theorem XT_node {n f : Nat} {ds : List Nat} {R : Regs} {M : World → Prop} (h : TN P n ops Q f ds R M) : XT n (Only (QW P ops Q f ds)) .normal R M := ⟨fun a w hR hM => h.run a w hR hM⟩
theorem TM_step {n N f : Nat} {ds : List Nat} {R : Regs} {M : World → Prop} (rs : List Nat) (hr : readyB ops ds rs = true) (hne : rs ≠ []) (hb : rs.all (fun i => decide (i < ops.size)) = true) (h : AllM P n ops Q N f ds R M rs) : TM P n ops Q N (f + 1) ds R M := ⟨fun a hR => by
  have e : Region.ready .any ops (lst ops ds) = rs := by simpa [readyB] using hr
  refine ⟨fun h0 => absurd (e.symm.trans h0) hne, fun i hi => ?_⟩
  rw [e] at hi
  have hlt : i < ops.size := by simpa using List.all_eq_true.1 hb i hi
  have ho : ops[i]? = some ops[i] := Array.getElem?_eq_getElem hlt
  obtain ⟨hq, hx⟩ := allM_mem h i hi
  refine ⟨fun hn => ?_, fun hn w hM => ?_⟩
  · have h1 := (hq hn _ ho).runQ a hR
    have h2 : qOp P ops M i (wpQuiet P ops M (QM P ops M Q N f (ds ++ [i])) []) a := by unfold qOp; simp only [ho]; exact h1
    refine qOp_mono (fun a' h' => ?_) h2
    rw [← lst_snoc]
    exact h'
  · have h1 := (hx hn _ ho).runX a w hR hM
    have h2 : wpOp P ops (Only (QW P ops Q f (ds ++ [i]))) i (wpList P ops (Only (QW P ops Q f (ds ++ [i]))) []) a w := by unfold wpOp; simp only [ho]; exact h1
    refine wpOp_only2 (fun a' w' h' => ?_) h2
    rw [← lst_snoc]
    exact h'⟩
theorem XQ_node {n N f : Nat} {ds : List Nat} {R : Regs} {M : World → Prop} (h : TM P n ops Q N f ds R M) : XQ P n ops (QM P ops M Q N f ds) [] R M := .q fun a hR => h.run a hR
def treeB (ops : Array Oper) (D O : List Nat) (n : Nat) : Bool :=
  Region.noSelect ops && decide (n < ops.size) && Region.chainB .any ops n && segB .any ops n true D (lst ops []) && segB .any ops n false O (setAll D (lst ops []))
/-- As XC_hoist, but behind D and O each order of what is left is walked. -/
theorem XC_tree {n id : Nat} {R : Regs} {M : World → Prop} {l : List Oper} (D O : List Nat) (N f : Nat) (hm : P.follows .mixedOrders = true) (hB : treeB l.toArray D O N = true) (hf : Nat.beq (f + O.length + D.length) l.length = true) (hD : Drw M) {lD lO : List Oper}
    (h1 : pickL l D = lD) (h2 : pickL l O = lO)
    (h : XQ P n l.toArray (QHead P l.toArray M (QM P l.toArray M Q N f (D ++ O)) lO) lD R (fun _ => True)) : XC P n (.region id l.toArray true) Q R M := by
  simp only [treeB, Bool.and_eq_true, decide_eq_true_eq] at hB
  obtain ⟨⟨⟨⟨hsel, hn⟩, hc⟩, hd⟩, ho⟩ := hB
  have hn' : N < l.length := by simpa using hn
  have hf' := Nat.eq_of_beq_eq_true hf
  have inv0 : HeadInv .any l.toArray N (lst l.toArray []) :=
    ⟨by simp [lst, setAll], fun j oj _ hl => (by rw [show lst l.toArray [] = Array.replicate l.toArray.size false from rfl, getD_replicate_false] at hl; cases hl), fun t _ ht => getD_in (by simpa [lst, setAll] using ht) (getD_replicate_false _ _)⟩
  have inv1 := seg_inv D _ inv0 hd
  refine ⟨fun a w hR hM => wp_region_any hm (any_only only_lets _ _ _ _ ?_)⟩
  have hq := h.runQ a hR
  rw [← h1] at hq
  have := anyM_pures (C := M) (Q := Q) (f := f + O.length) hsel D _ (lst l.toArray []) a (pickL_map D (fun d hd' => by have := seg_lt D _ hd d hd'; omega)) hd (fun a1 hL1 => anyM_quiets (Q := Only Q) (f := f) hsel hc hn O _ _ a1 (pickL_map O (fun d hd' => by have := seg_lt O _ ho d hd'; omega)) inv1 ho
    (fun a2 hL2 => by
      have e : setAll O (setAll D (lst l.toArray [])) = lst l.toArray (D ++ O) := by simp [lst, setAll, List.foldl_append]
      rw [e]
      exact hL2) (by rw [h2]; exact hL1)) hq
  rw [hf'] at this
  have e3 : l.length = l.toArray.size := by simp
  rw [e3] at this
  exact any_of_anyM _ _ _ _ (hD w 1 hM) this
end
end Go.Proofs.Ytfkhdhdbfejbpaa.MX
