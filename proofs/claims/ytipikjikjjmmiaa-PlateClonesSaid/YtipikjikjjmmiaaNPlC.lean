/- Plays on disks: the steps that come in; both disks beside one another. -/
import Derived.Test.YtipikjikjjmmiaaNPl6
import Derived.Test.YtipikjikjjmmiaaNPlB
import Derived.Test.YtipikjikjjmmiaaNPlP
import Derived.Test.YtipikjikjjmmiaaNSame
namespace Go.Proofs.Ytipikjikjjmmiaa.NPl
open Go Go.RowKit Go.Proofs.Ytipikjikjjmmiaa.MX Go.Proofs.Ytipikjikjjmmiaa.NSame
set_option linter.unusedVariables false
set_option linter.unusedSimpArgs false
set_option linter.unusedVariables false
def shOp := shRec Try.underlying41 (shCons (shInt .i64 Try.underlying3) (shCons (shInt .i64 Try.underlying3) (shCons (shInt .i64 Try.underlying3) (shCons (shInt .u8 Try.underlying5) (shCons shBs shNil)))))
def shOps := shSl Try.underlying35 shOp
abbrev OpD := Int × Int × Int × Int × (Option Addr × Nat × List Bool) × Unit
/-- A step's cells. -/
def opC (o : OpD) : List Value := [.int .i64 o.1, .int .i64 o.2.1, .int .i64 o.2.2.1, .int .u8 o.2.2.2.1, .slice o.2.2.2.2.1.1 o.2.2.2.2.1.2.2.length o.2.2.2.2.1.2.1]
theorem opC_one (o : OpD) : ∀ v ∈ opC o, v.oneCell' = true := by simp [opC, Value.oneCell']
/-- What is known of a step. -/
structure OpOk (w : World) (o : OpD) : Prop where
  kd : (Lit.int .i64 o.1).wf = true
  at_ : (Lit.int .i64 o.2.1).wf = true
  sz : (Lit.int .i64 o.2.2.1).wf = true
  fl : (Lit.int .u8 o.2.2.2.1).wf = true
  kp : RdV w o.2.2.2.2.1.1 o.2.2.2.2.1.2.1 1 o.2.2.2.2.1.2.2.length (o.2.2.2.2.1.2.2.map Value.bool)
theorem OpOk.keep {w w' : World} {o : OpD} (h : OpOk w o) (hc : Chg (fun _ => False) w w') : OpOk w' o := ⟨h.kd, h.at_, h.sz, h.fl, h.kp.keep hc old_false⟩
/-- The steps that come in, read. -/
structure Ops (w : World) (l : List OpD) (A : Option Addr) (c : Nat) : Prop where
  ad : 0 < l.length → A = some (adOf A)
  le : l.length ≤ c
  lm : l.length ≤ 9223372036854775807
  at_ : ∀ j o, l[j]? = some o → (∀ i v, (opC o)[i]? = some v → w.cell? (((adOf A).add (j * 5)).add i) = some v) ∧ OpOk w o
theorem Ops.keep {w w' : World} {l : List OpD} {A : Option Addr} {c : Nat} (h : Ops w l A c) (hc : Chg (fun _ => False) w w') : Ops w' l A c :=
  ⟨h.ad, h.le, h.lm, fun j o hj => ⟨fun i v hv => cell_chg ((h.at_ j o hj).1 i v hv) hc (fun h => h), (h.at_ j o hj).2.keep hc⟩⟩
theorem ops_at {w : World} {l : List OpD} {A : Option Addr} {c : Nat} (h : shOps.has w [.slice A l.length c] (A, c, l)) : Ops w l A c := by
  obtain ⟨h1, h2, h3, h4, _, h5⟩ := h
  have hm : maxLen ≤ 9223372036854775807 := by decide
  refine ⟨fun hp => ?_, h2, by have h3 : c ≤ maxLen := h3; have h2 : l.length ≤ c := h2; omega, fun j o hj => ?_⟩
  · cases A with
    | none => have := h4 rfl; dsimp only at this h2; omega
    | some a => rfl
  obtain ⟨cs, g1, g2, g3⟩ := h5 j o hj
  have e3 : Try.prog.cellsOf 41 = 5 := by kernel_rfl
  rw [e3] at g1 g2
  match cs, g1 with
  | [c0, c1, c2, c3, c4], _ =>
    obtain ⟨_, k1, k2, k3, k4, k5, _⟩ := g3
    have q1 : [c0] = [Value.int .i64 o.1] := k1.1
    have q2 : [c1] = [Value.int .i64 o.2.1] := k2.1
    have q3 : [c2] = [Value.int .i64 o.2.2.1] := k3.1
    have q4 : [c3] = [Value.int .u8 o.2.2.2.1] := k4.1
    have k5' := k5
    have q5 : [c4] = [Value.slice o.2.2.2.2.1.1 o.2.2.2.2.1.2.2.length o.2.2.2.2.1.2.1] := k5.1
    obtain rfl := (List.cons.inj q1).1
    obtain rfl := (List.cons.inj q2).1
    obtain rfl := (List.cons.inj q3).1
    obtain rfl := (List.cons.inj q4).1
    obtain rfl := (List.cons.inj q5).1
    exact ⟨fun i v hv => by rw [add_add _ _ _ (.inr trivial)]; exact g2 i v hv, k1.2, k2.2, k3.2, k4.2, bs_rdv k5'⟩
/-- What a step does to a disk. -/
def opP (p : Pl) (o : OpD) : Pl :=
  if o.1 = 1 then (writeP p o.2.1 (List.replicate o.2.2.1.toNat o.2.2.2.1)).1
  else if o.1 = 2 then p
  else if o.1 = 3 then (syncP p).1
  else if o.1 = 4 then armP p o.2.1
  else if o.1 = 5 then revP p o.2.2.2.2.1.2.2
  else p
/-- Both disks are right. -/
structure Two (p q : Pl) (si : List It) (li : List (Nat × It)) : Prop where
  po : PlOk p
  qo : PlOk q
  rf : RfOk q si li
  nw : PNow q
  nn : p.n = q.n
theorem syncP_n (p : Pl) : (syncP p).1.n = p.n := by
  unfold syncP
  split
  · rfl
  · split
    · exact (stepP_same p).1
    · exact (stepP_same p).1
theorem writeP_n (p : Pl) (i : Int) (b : List Int) : (writeP p i b).1.n = p.n := by
  unfold writeP
  split
  · rfl
  · split
    · rfl
    · split
      · exact (stepP_same p).1
      · exact (stepP_same p).1
theorem ok_op {p : Pl} {w : World} {o : OpD} (h : PlOk p) (hl : p.loose.length ≤ 10000) (ho : OpOk w o) : PlOk (opP p o) ∧ (opP p o).n = p.n ∧ (opP p o).loose.length ≤ p.loose.length + 1 := by
  have hat := wf64 ho.at_
  unfold opP
  split
  · exact ⟨ok_write h hl _ _, writeP_n _ _ _, loose_write _ _ _⟩
  split
  · exact ⟨h, rfl, by omega⟩
  split
  · refine ⟨ok_sync h, syncP_n p, ?_⟩
    unfold syncP
    split
    · show p.loose.length ≤ _; omega
    · split
      · rw [(stepP_same p).2.2.2]; omega
      · show 0 ≤ _; omega
  split
  · exact ⟨ok_arm h _ hat.2, rfl, by show p.loose.length ≤ _; omega⟩
  split
  · exact ⟨ok_rev h _, rfl, by show 0 ≤ _; omega⟩
  · exact ⟨h, rfl, by omega⟩
section
variable {g g' : Nat} {a : Ad} {a' : Rd} {p q : Pl} {si : List It} {li : List (Nat × It)} {w w0 : World} {TS : Nat → Prop} {es : List Ch} {x y : Ch}
theorem pr_swap (h : Hp w0 TS (PlC g a p (RfC g' a' q si li es)) w) : Hp w0 TS (RfC g' a' q si li (PlC g a p es)) w := h.of_perm (List.perm_append_comm_assoc (PlC g a p []) (RfC g' a' q si li []) es)
theorem rp_swap (h : Hp w0 TS (RfC g' a' q si li (PlC g a p es)) w) : Hp w0 TS (PlC g a p (RfC g' a' q si li es)) w := h.of_perm (List.perm_append_comm_assoc (RfC g' a' q si li []) (PlC g a p []) es)
theorem rfc_in (h : Hp w0 TS (x :: RfC g' a' q si li es) w) : Hp w0 TS (RfC g' a' q si li (x :: es)) w := h.of_perm (List.perm_middle (l₁ := RfC g' a' q si li [])).symm
theorem rfc_out (h : Hp w0 TS (RfC g' a' q si li (x :: es)) w) : Hp w0 TS (x :: RfC g' a' q si li es) w := h.of_perm (List.perm_middle (l₁ := RfC g' a' q si li []))
theorem pr_in (h : Hp w0 TS (x :: PlC g a p (RfC g' a' q si li es)) w) : Hp w0 TS (PlC g a p (RfC g' a' q si li (x :: es))) w := h.of_perm (List.perm_middle (l₁ := PlC g a p [] ++ RfC g' a' q si li [])).symm
theorem pr_out (h : Hp w0 TS (PlC g a p (RfC g' a' q si li (x :: es))) w) : Hp w0 TS (x :: PlC g a p (RfC g' a' q si li es)) w := h.of_perm (List.perm_middle (l₁ := PlC g a p [] ++ RfC g' a' q si li []))
theorem pr_in2 (h : Hp w0 TS (x :: y :: PlC g a p (RfC g' a' q si li es)) w) : Hp w0 TS (PlC g a p (RfC g' a' q si li (x :: y :: es))) w :=
  h.of_perm ((List.Perm.cons x (List.perm_middle (l₁ := PlC g a p [] ++ RfC g' a' q si li []) (a := y) (l₂ := es)).symm).trans (List.perm_middle (l₁ := PlC g a p [] ++ RfC g' a' q si li []) (a := x) (l₂ := y :: es)).symm)
theorem pr_out2 (h : Hp w0 TS (PlC g a p (RfC g' a' q si li (x :: y :: es))) w) : Hp w0 TS (x :: y :: PlC g a p (RfC g' a' q si li es)) w :=
  h.of_perm (((List.Perm.cons x (List.perm_middle (l₁ := PlC g a p [] ++ RfC g' a' q si li []) (a := y) (l₂ := es)).symm).trans (List.perm_middle (l₁ := PlC g a p [] ++ RfC g' a' q si li []) (a := x) (l₂ := y :: es)).symm).symm)
theorem rnew_es (n : Nat) (hT : Hp w0 TS es w) (h1 : 8 ≤ n) (h2 : n ≤ 16384) : Calls Try.prog 16 #[.int .i64 n] w fun e w' => ∃ g a, e = .returned (.tuple #[.pointer (some ⟨g, 0, none⟩), .bool true]) ∧ Hp w0 TS (RfC g a (new0 n) (List.replicate n it0) [] es) w' :=
  (rnew_in n w h1 h2).mono fun e w' h => by
    obtain ⟨g, a, rfl, h⟩ := h
    exact ⟨g, a, rfl, hT.frame0 h⟩
end
def smallB (l : List OpD) : Bool := decide (l.length ≤ 200) && l.all (fun o => decide (0 ≤ o.2.2.1) && decide (o.2.2.1 ≤ 200))
set_option maxHeartbeats 2000000 in
set_option maxRecDepth 100000 in
theorem small_any (l : List OpD) (A : Option Addr) (c : Nat) (w : World) (h : Ops w l A c) : Calls Try.prog 15 #[.slice A l.length c] w (Says w (.bool (smallB l))) := by
  obtain ⟨hA, hlc, hlm, hops⟩ := h
  have hops := Lib.hid hops
  refine calls_of_X (vs := [_]) (M := Hp w (fun _ => False) []) Try.func15 rfl Try.ntmps15 rfl (Hp.nil _ _) ?_
  repeat first
    | refine XC_region ?_
    | refine X_nil ?_
    | refine XC_seq ?_
    | refine XT_seq ?_
    | refine Y_res (r_move rfl) rfl ?_
    | refine Y_res (r_assign rfl) rfl ?_
    | refine Y_res (r_gtr rfl rfl) rfl ?_
    | refine Y_res (r_len rfl) rfl ?_
  refine XC_condP rfl (fun h1 => ?_) (fun h1 => ?_)
  · repeat first
      | refine XC_region ?_
      | refine X_nil ?_
      | refine XC_seq ?_
      | refine XT_seq ?_
      | refine XT_then_ret ?_
      | refine XC_ret ?_
      | refine Y_res (r_assign rfl) rfl ?_
    exact XT_says (.inl rfl) Try.results15 rfl (by rw [smallB, decide_eq_false (by omega)]; rfl)
  have hl2 : l.length ≤ 200 := by omega
  repeat first
    | refine XC_region ?_
    | refine X_nil ?_
    | refine XC_seq ?_
    | refine XT_seq ?_
    | refine XC_block ?_
    | refine XC_skip ?_
    | refine Y_res (r_move rfl) rfl ?_
    | refine Y_res (r_len rfl) rfl ?_
  refine XC_loop (ι := Nat) (fun i => i ≤ l.length ∧ ∀ j o, j < i → l[j]? = some o → 0 ≤ o.2.2.1 ∧ o.2.2.1 ≤ 200) (fun i => [(8, .slice A l.length c), (9, .int .i64 l.length), (10, .int .i64 i)]) (fun i => Hp w (fun _ => False) []) (fun i => l.length - i) 0 ⟨Nat.zero_le _, fun j o hj => by omega⟩ ⟨rfl, rfl, rfl, trivial⟩ (fun _ h => h) ?_
  rintro i ⟨hi, hall⟩
  have hall := Lib.hid hall
  repeat first
    | refine XC_region ?_
    | refine X_nil ?_
    | refine XC_seq ?_
    | refine XT_seq ?_
    | refine Y_res (r_lss rfl rfl) rfl ?_
  refine XC_condP rfl (fun hlt => ?_) (fun hge => ?_)
  · have hi2 : i < l.length := by omega
    have hA1 := hA (by omega)
    obtain ⟨o, ho⟩ : ∃ o, l[i]? = some o := ⟨l[i], List.getElem?_eq_getElem hi2⟩
    obtain ⟨hcell, hok⟩ := hops.out i o ho
    have hsz := wf64 hok.sz
    have hone := opC_one o
    unfold opC at hcell hone
    repeat first
      | refine XC_region ?_
      | refine X_nil ?_
      | refine XC_seq ?_
      | refine XT_seq ?_
      | refine XC_block ?_
      | refine XC_skip ?_
      | refine Y_res (r_move rfl) rfl ?_
      | refine Y_res (r_lss rfl rfl) rfl ?_
      | refine Y_res (r_field' rfl) rfl ?_
      | refine Y_res (r_loadB rfl rfl) rfl ?_
      | refine Y_res (r_indexRs rfl rfl hA1 hi2) rfl ?_
      | refine Y_res (r_loadA (vs := [.int .i64 o.1, .int .i64 o.2.1, .int .i64 o.2.2.1, .int .u8 o.2.2.2.1, .slice o.2.2.2.2.1.1 o.2.2.2.2.1.2.2.length o.2.2.2.2.1.2.1]) rfl rfl (fun w1 hM j v hv => hM.old (hcell j v hv) (fun h => h))) rfl ?_
      | (refine X_allocB (zs := [.int .i64 0, .int .i64 0, .int .i64 0, .int .u8 0, .slice none 0 0]) rfl rfl ?_; intro _ _)
      | refine X_storeW (vs := [.int .i64 o.1, .int .i64 o.2.1, .int .i64 o.2.2.1, .int .u8 o.2.2.2.1, .slice o.2.2.2.2.1.1 o.2.2.2.2.1.2.2.length o.2.2.2.2.1.2.1]) rfl rfl rfl (by rfl) hone ?_
    refine Y_split rfl rfl (fun h2 => ?_) (fun h2 => ?_)
    · repeat first
        | refine XC_region ?_
        | refine X_nil ?_
        | refine XC_condT rfl ?_
        | refine XC_seq ?_
        | refine XT_seq ?_
        | refine XT_block_ret ?_
        | refine XT_then_ret ?_
        | refine XC_ret ?_
        | refine Y_res (r_assign rfl) rfl ?_
        | refine Y_off rfl rfl rfl ?_
        | refine Y_res (r_pickT rfl rfl) rfl ?_
      exact XT_says (.inl rfl) Try.results15 rfl (by
        rw [smallB, show (l.all fun o => decide (0 ≤ o.2.2.1) && decide (o.2.2.1 ≤ 200)) = false from List.all_eq_false.2 ⟨o, List.mem_of_getElem? ho, by simp; omega⟩, Bool.and_false])
    repeat first
      | refine X_nil ?_
      | refine XT_seq ?_
      | refine Y_res (r_gtr rfl rfl) rfl ?_
      | refine Y_on rfl rfl ?_
      | refine Y_res (r_field' rfl) rfl ?_
      | refine Y_res (r_loadB rfl rfl) rfl ?_
      | refine Y_res (r_pickF rfl rfl) rfl ?_
    refine XC_condP rfl (fun h3 => ?_) (fun h3 => ?_)
    · repeat first
        | refine XC_region ?_
        | refine X_nil ?_
        | refine XC_seq ?_
        | refine XT_seq ?_
        | refine XT_block_ret ?_
        | refine XT_then_ret ?_
        | refine XC_ret ?_
        | refine Y_res (r_assign rfl) rfl ?_
      exact XT_says (.inl rfl) Try.results15 rfl (by
        rw [smallB, show (l.all fun o => decide (0 ≤ o.2.2.1) && decide (o.2.2.1 ≤ 200)) = false from List.all_eq_false.2 ⟨o, List.mem_of_getElem? ho, by simp; omega⟩, Bool.and_false])
    · repeat first
        | refine XC_region ?_
        | refine X_nil ?_
        | refine XT_seq ?_
        | refine XT_block_normal ?_
        | refine XC_skip ?_
        | refine Y_res (r_move rfl) rfl ?_
        | refine Y_res (r_add64 rfl rfl (by omega)) rfl ?_
      refine XT_round (i + 1) ⟨by omega, fun j o' hj ho' => ?_⟩ (by omega) ⟨rfl, rfl, rfl, trivial⟩ (fun _ h => h.none)
      by_cases e : j = i
      · subst e
        rw [ho] at ho'
        obtain rfl := Option.some.inj ho'
        omega
      · exact hall.out j o' (by omega) ho'
  · repeat first
      | refine XC_region ?_
      | refine X_nil ?_
      | refine XC_seq ?_
      | refine XT_seq ?_
      | refine XT_block_same rfl ?_
      | refine XT_then_exit ?_
      | refine XC_exit ?_
      | refine XC_ret ?_
      | refine Y_res (r_assign rfl) rfl ?_
    have hil : i = l.length := by omega
    exact XT_says (.inl rfl) Try.results15 rfl (by
      rw [smallB, decide_eq_true hl2, Bool.true_and]
      refine congrArg Value.bool (Eq.symm (List.all_eq_true.2 fun o ho => ?_))

      obtain ⟨j, hj, rfl⟩ := List.getElem_of_mem ho
      have h3 := hall.out j l[j] (by omega) (List.getElem?_eq_getElem hj)
      exact Bool.and_eq_true_iff.2 ⟨decide_eq_true h3.1, decide_eq_true h3.2⟩)
end Go.Proofs.Ytipikjikjjmmiaa.NPl
