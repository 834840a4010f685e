/- A log's next record, taken: walked. -/
import Derived.Test.YtgfpibojgkleiaaNWl3
namespace Go.Proofs.Ytgfpibojgkleiaa.NWl
open Go Go.RowKit Go.Proofs.Ytgfpibojgkleiaa.MX Go.Proofs.Ytgfpibojgkleiaa.PWal Go.Proofs.Ytgfpibojgkleiaa.NPl
set_option linter.unusedVariables false
set_option linter.unusedSimpArgs false
set_option linter.unusedVariables false
theorem rds_hi {gl g : Nat} {w0 w : World} {TS : Nat → Prop} {b : Nat} {s : List Int} {cs : List Ch} (h : Hp w0 TS (Ch.ints b .u8 s 74 :: cs) w) (hs : s.length = 64) : Rds w (some ⟨b, 16, none⟩) 48 .u8 (s.drop 16) := by
  have h1 := (rds_ints (c := 64) h.head (by omega) (by decide)).drop 16 (by omega)
  exact h1
theorem nowAt_len {p : Pl} (hp : PlOk p) {i : Nat} (hi : i < p.n) : (nowAt p i).length = 64 := by
  have := hp.nl
  rw [nowAt, List.getD_eq_getElem?_getD, List.getElem?_eq_getElem (by omega)]
  exact hp.ns _ (List.getElem_mem _)
theorem nowAt_wf {p : Pl} (hp : PlOk p) (hw : PlWf p) {i : Nat} (hi : i < p.n) : ∀ x ∈ nowAt p i, 0 ≤ x ∧ x < 256 := by
  have := hp.nl
  rw [nowAt, List.getD_eq_getElem?_getD, List.getElem?_eq_getElem (by omega)]
  exact hw _ (List.getElem_mem _)
theorem rdS_bd {s : List Int} (hs : s.length = 64) (hw : ∀ x ∈ s, 0 ≤ x ∧ x < 256) : (rdS s).gen < 4294967296 ∧ (rdS s).op < 4294967296 ∧ (rdS s).num < 4294967296 ∧ (rdS s).place < 65536 ∧ (rdS s).last < 65536 ∧ (rdS s).body.length = 48 := by
  have h1 : ∀ l h, ∀ x ∈ (s.take h).drop l, 0 ≤ x ∧ x < 256 := fun l h x hx => hw x (List.mem_of_mem_take (List.mem_of_mem_drop hx))
  have e : ∀ l h, l ≤ h → h ≤ 64 → ((s.take h).drop l).length = h - l := fun l h _ _ => by simp; omega
  have k1 := numS_lt (s.take 4) (fun x hx => hw x (List.mem_of_mem_take hx))
  have k2 := numS_lt ((s.take 8).drop 4) (h1 4 8)
  have k3 := numS_lt ((s.take 12).drop 8) (h1 8 12)
  have k4 := numS_lt ((s.take 14).drop 12) (h1 12 14)
  have k5 := numS_lt ((s.take 16).drop 14) (h1 14 16)
  rw [e _ _ (by decide) (by decide)] at k2 k3 k4 k5
  rw [show (s.take 4).length = 4 by simp; omega] at k1
  exact ⟨k1, k2, k3, k4, k5, by show (s.drop 16).length = 48; simp; omega⟩
theorem bodyTo_len {p : Pl} (hp : PlOk p) (at_ : Nat) : ∀ m, at_ + m ≤ p.n → (bodyTo (nowAt p) at_ m).length = 48 * m
  | 0, _ => rfl
  | m + 1, h => by
    have h1 : ((rdS (nowAt p (at_ + m))).body).length = 48 := by
      show ((nowAt p (at_ + m)).drop 16).length = 48
      rw [List.length_drop, nowAt_len hp (by omega)]
    rw [bodyTo_succ, List.length_append, bodyTo_len hp at_ m (by omega), h1]
    omega
theorem bodyTo_wf {p : Pl} (hp : PlOk p) (hw : PlWf p) (at_ : Nat) : ∀ m, at_ + m ≤ p.n → ∀ x ∈ bodyTo (nowAt p) at_ m, 0 ≤ x ∧ x < 256
  | 0, _ => fun x hx => by cases hx
  | m + 1, h => fun x hx => by
    rw [bodyTo_succ, List.mem_append] at hx
    rcases hx with hx | hx
    · exact bodyTo_wf hp hw at_ m (by omega) x hx
    · exact nowAt_wf hp hw (i := at_ + m) (by omega) x (List.mem_of_mem_drop hx)
/-- A list of bytes that grows: a part of what is read at first, then one's own. -/
def bodyCh (own : Bool) (A : Option Addr) (c : Nat) (xs : List Int) : Ch := match own with | true => Ch.sl A c 5 .u8 xs | false => Ch.bagN [itI .u8 A c xs]
theorem body_rd {own : Bool} {A : Option Addr} {c : Nat} {xs : List Int} {w : World} (h : (bodyCh own A c xs).P w) : Rds w A c .u8 xs := by
  cases own
  · exact bagI_rd h
  · exact rds_sl h
theorem body_bag {own : Bool} {A : Option Addr} {c : Nat} {xs : List Int} {w0 w : World} {S : Nat → Prop} {cs : List Ch} (h : Hp w0 S (bodyCh own A c xs :: cs) w) : Hp w0 S (Ch.bagN [itI .u8 A c xs] :: cs) w := by
  cases own
  · exact h
  · exact bagI_sl h
theorem X_appendOG {P : Program} {n : Nat} {ops : Array Oper} {Q : Exit → Act → World → Prop} {rest : List Oper} {R : Regs} {ty T : TypeId} {x y : Operand} {w0 : World} {S : Nat → Prop} {cs : List Ch} {pos : String} {af : Array Edge} {d : Nat} {own : Bool} {A A2 : Option Addr} {c c2 l2 len : Nat} {xs ys : List Int}
    [hT : HasU P T (.slice 5)] {by_ : Nat} [hE : HasI P 5 1 by_] [hz : HasZ P 5 (.int .u8 0)] (hx : R.ev x = some (.slice A len c)) (hy : R.ev y = some (.slice A2 l2 c2)) (hl : len = xs.length) (hl2 : l2 = ys.length)
    (h2 : ∀ w, Hp w0 S (bodyCh own A c xs :: cs) w → Rds w A2 c2 .u8 ys) (hg : own = false → c < xs.length + ys.length) (hp : 0 < xs.length) (hb : (xs.length + ys.length) * by_ ≤ 140737488355328) (hm : xs.length + ys.length ≤ 9223372036854775807) (hd : Nat.blt d n = true)
    (q : ∀ A' cap', X P n ops Q rest ((d, .slice A' (xs ++ ys).length cap') :: R) (Hp w0 S (bodyCh true A' cap' (xs ++ ys) :: cs))) :
    X P n ops Q (⟨some d, .call { callee := .builtin .append, args := #[x, y], argTypes := #[T, T] }, ty, pos, af, none⟩ :: rest) R (Hp w0 S (bodyCh own A c xs :: cs)) := by
  subst hl
  subst hl2
  cases own with
  | false =>
    exact X_appendG hx hy (fun w hM => body_rd hM.head) h2 rfl rfl (hg rfl) hp hb hm hd (fun A' cap' => X_mem (fun w h => Hp.sublist h (.cons_cons _ (.cons _ (List.Sublist.refl _)))) (q A' cap'))
  | true =>
    unfold bodyCh at h2 ⊢
    exact X_append hx hy h2 rfl rfl rfl hb hm hd (fun A' cap' => q A' cap')
theorem pWin (gl g l a pg pa p) (xs es : List Ch) : (xs ++ WlC gl g l a (PlC pg pa p es)).Perm (WlC gl g l a (PlC pg pa p (xs ++ es))) := List.perm_append_comm_assoc xs (WlC gl g l a [] ++ PlC pg pa p []) es
section
variable {gl g : Nat} {l : Lg} {a : La} {pa : Ad} {p : Pl} {w w0 : World} {TS : Nat → Prop} {es : List Ch}
def TakeR (gl g : Nat) (l : Lg) (a : La) (pa : Ad) (p : Pl) (w0 : World) (TS : Nat → Prop) (es : List Ch) (r : Option (List Int × Nat)) (e : Ending) (w' : World) : Prop :=
  match r with
  | none => e = .returned (.tuple #[.slice none 0 0, .int .i64 0, .int .i64 20]) ∧ Hp w0 TS (WlC gl g l a (PlC g pa p es)) w'
  | some (b, o) => ∃ A c, e = .returned (.tuple #[.slice A b.length c, .int .i64 o, .int .i64 0]) ∧ Hp w0 TS (Ch.bagN [itI .u8 A c b] :: WlC gl g l a (PlC g pa p es)) w'
set_option maxRecDepth 100000 in
set_option maxHeartbeats 8000000 in
theorem take_any (low : Nat) (hT : Hp w0 TS (WlC gl g l a (PlC g pa p es)) w) (hp : PlOk p) (hd : p.down = false) (hwf : PlWf p) (hl : LgOk l) (hlt : l.at_ < l.to) (hto : l.to ≤ p.n) (hlow : low ≤ 4294967296) :
    Calls Try.prog 28 #[.pointer (some ⟨gl, 0, none⟩), .int .i64 low] w (TakeR gl g l a pa p w0 TS es (takeP (nowAt p) l.to l.at_ l.gen l.nx low)) := by
  have hl1 := hl.to
  have hl2 := hl.gen
  have hl3 := hl.op
  have hl4 := hl.nx
  have hfl := nowAt_len hp (i := l.at_) (by omega)
  have hfw := nowAt_wf hp hwf (i := l.at_) (by omega)
  obtain ⟨f1, f2, f3, f4, f5, f6⟩ := rdS_bd hfl hfw
  obtain ⟨f, hf⟩ : ∃ f, f = rdS (nowAt p l.at_) := ⟨_, rfl⟩
  rw [← hf] at f1 f2 f3 f4 f5 f6
  obtain ⟨r, hr⟩ : ∃ r, r = takeP (nowAt p) l.to l.at_ l.gen l.nx low := ⟨_, rfl⟩
  rw [← hr]
  have hr0 := hr
  unfold takeP at hr
  rw [← hf] at hr
  refine calls_of_X (vs := [_, _]) (M := Hp w0 TS (WlC gl g l a (PlC g pa p es))) Try.func28 rfl Try.ntmps28 rfl hT ?_
  clear hT
  have hb0 : Hp w0 TS (WlC gl g l a (PlC g pa p es)) = Hp w0 TS (Ch.blk gl (lgC g l a) 59 :: Ch.sv a.A a.c 30 1 l.list.length (a.js.map It.val) :: Ch.bagN a.js :: PlC g pa p es) := rfl
  unfold WlC lgC
  repeat first
    | refine XC_region ?_
    | refine X_nil ?_
    | refine XC_seq ?_
    | refine XT_seq ?_
    | refine Y_res (r_move rfl) rfl ?_
    | refine Y_res (r_assign rfl) rfl ?_
    | refine Y_res (r_field' rfl) rfl ?_
    | refine Y_res (r_nilCheck rfl) rfl ?_
    | refine Y_res (r_loadB rfl rfl) rfl ?_
  refine X_call (g := 27) rfl rfl (fun w1 q1 => (read_any (gl := gl) (g := g) (l := l) (a := a) (pa := pa) (p := p) (es := es) l.at_ q1 hp hd (by omega) hwf).mono ?_)
  rintro e w2 ⟨b, rfl, q2⟩
  rw [← hf] at *
  refine ⟨_, rfl, _, q2, ?_⟩
  clear q1 q2
  repeat first
    | refine Y_res (r_move rfl) rfl ?_
    | refine Y_res (r_extract rfl rfl) rfl ?_
  refine X_allocB (zs := [.int .i64 0, .int .i64 0, .int .i64 0, .int .i64 0, .int .i64 0, .slice none 0 0]) rfl rfl (fun g7 hg7 => ?_)
  repeat first
    | refine XC_region ?_
    | refine X_nil ?_
    | refine XC_condF rfl ?_
    | refine XC_seq ?_
    | refine XT_seq ?_
    | refine XC_skip ?_
    | refine Y_res (r_move rfl) rfl ?_
    | refine Y_res (r_assign rfl) rfl ?_
    | refine Y_res (r_neq rfl rfl) rfl ?_
    | refine X_storeW (vs := scC f b) rfl rfl rfl (by rfl) (scC_one _ _) ?_
  obtain ⟨P5, hP5⟩ : ∃ P5 : Prop, P5 = (f.gen ≠ l.gen ∨ f.num ≠ l.nx ∨ f.op < max low 1 ∨ f.place ≠ 0 ∨ l.to ≤ l.at_ + f.last) := ⟨_, rfl⟩
  haveI : Decidable P5 := by rw [hP5]; infer_instance
  have hend : P5 → r = none := fun h => by
    rw [hr, if_pos (by rw [← hP5]; exact h)]
  have hmax : (if (1 : Int) > (low : Int) then (1 : Int) else (low : Int)) = ((max low 1 : Nat) : Int) := by split <;> omega
  unfold WlC lgC scC
  refine XC_mid (ι := Unit) (fun _ => True) (fun _ => [(0, .pointer (some ⟨gl, 0, none⟩)), (1, .int .i64 low), (7, .pointer (some ⟨g7, 0, none⟩)), (67, .bool (decide P5))]) (fun _ => Hp w0 TS (Ch.blk g7 (scC f b) 61 :: Ch.ints b .u8 (nowAt p l.at_) 74 :: WlC gl g l a (PlC g pa p es))) ?_ ?_
  · repeat first
      | refine XC_quietF rfl (by kernel_rfl) (by kernel_rfl) drw_hp ?_
      | refine Y_res (r_move rfl) rfl ?_
      | refine Y_res (r_neq rfl rfl) rfl ?_
      | refine Y_res (r_field' rfl) rfl ?_
      | refine Y_res (r_nilCheck rfl) rfl ?_
      | refine Y_res (r_loadB rfl rfl) rfl ?_
    refine Y_split rfl rfl (fun h1 => ?_) (fun h1 => ?_)
    · repeat first
        | refine XQ_nil ?_
        | refine Y_res (r_move rfl) rfl ?_
        | refine Y_off rfl rfl rfl ?_
        | refine Y_res (r_pickT rfl rfl) rfl ?_
      refine XT_re (e := 67) (v' := .bool (decide P5)) rfl (by rw [decide_eq_true (show P5 by rw [hP5]; omega)]) ?_
      exact XT_mid () trivial ⟨rfl, rfl, rfl, rfl, trivial⟩ (fun _ h => h)
    repeat first
      | refine Y_res (r_move rfl) rfl ?_
      | refine Y_res (r_neq rfl rfl) rfl ?_
      | refine Y_on rfl rfl ?_
      | refine Y_res (r_field' rfl) rfl ?_
      | refine Y_res (r_nilCheck rfl) rfl ?_
      | refine Y_res (r_loadB rfl rfl) rfl ?_
      | refine Y_res (r_pickF rfl rfl) rfl ?_
    refine Y_split rfl rfl (fun h2 => ?_) (fun h2 => ?_)
    · repeat first
        | refine XQ_nil ?_
        | refine Y_res (r_move rfl) rfl ?_
        | refine Y_off rfl rfl rfl ?_
        | refine Y_res (r_pickT rfl rfl) rfl ?_
      refine XT_re (e := 67) (v' := .bool (decide P5)) rfl (by rw [decide_eq_true (show P5 by rw [hP5]; omega)]) ?_
      exact XT_mid () trivial ⟨rfl, rfl, rfl, rfl, trivial⟩ (fun _ h => h)
    repeat first
      | refine Y_res (r_move rfl) rfl ?_
      | refine Y_res (r_lss rfl rfl) rfl ?_
      | refine Y_on rfl rfl ?_
      | refine Y_res (r_field' rfl) rfl ?_
      | refine Y_res (r_loadB rfl rfl) rfl ?_
      | refine Y_res (r_pickF rfl rfl) rfl ?_
      | (refine Y_res (r_max2 rfl rfl) rfl ?_; rw [hmax])
    refine Y_split rfl rfl (fun h3 => ?_) (fun h3 => ?_)
    · repeat first
        | refine XQ_nil ?_
        | refine Y_res (r_move rfl) rfl ?_
        | refine Y_off rfl rfl rfl ?_
        | refine Y_res (r_pickT rfl rfl) rfl ?_
      refine XT_re (e := 67) (v' := .bool (decide P5)) rfl (by rw [decide_eq_true (show P5 by rw [hP5]; omega)]) ?_
      exact XT_mid () trivial ⟨rfl, rfl, rfl, rfl, trivial⟩ (fun _ h => h)
    repeat first
      | refine Y_res (r_move rfl) rfl ?_
      | refine Y_res (r_neq rfl rfl) rfl ?_
      | refine Y_on rfl rfl ?_
      | refine Y_res (r_field' rfl) rfl ?_
      | refine Y_res (r_loadB rfl rfl) rfl ?_
      | refine Y_res (r_pickF rfl rfl) rfl ?_
    refine Y_split rfl rfl (fun h4 => ?_) (fun h4 => ?_)
    · repeat first
        | refine XQ_nil ?_
        | refine Y_off rfl rfl rfl ?_
        | refine Y_res (r_pickT rfl rfl) rfl ?_
      refine XT_re (e := 67) (v' := .bool (decide P5)) rfl (by rw [decide_eq_true (show P5 by rw [hP5]; omega)]) ?_
      exact XT_mid () trivial ⟨rfl, rfl, rfl, rfl, trivial⟩ (fun _ h => h)
    repeat first
      | refine XQ_nil ?_
      | refine Y_res (r_move rfl) rfl ?_
      | refine Y_res (r_add64 rfl rfl (by omega)) rfl ?_
      | refine Y_res (r_geq rfl rfl) rfl ?_
      | refine Y_on rfl rfl ?_
      | refine Y_res (r_field' rfl) rfl ?_
      | refine Y_res (r_nilCheck rfl) rfl ?_
      | refine Y_res (r_loadB rfl rfl) rfl ?_
      | refine Y_res (r_pickF rfl rfl) rfl ?_
    refine XT_re (e := 67) (v' := .bool (decide P5)) rfl (by congr 1; rw [decide_eq_decide, hP5]; omega) ?_
    exact XT_mid () trivial ⟨rfl, rfl, rfl, rfl, trivial⟩ (fun _ h => h)
  intro _ _
  skip
  refine XC_condP rfl (fun h5 => ?_) (fun h5 => ?_)
  · repeat first
      | refine XC_region ?_
      | refine X_nil ?_
      | refine XC_seq ?_
      | refine XT_seq ?_
      | refine XT_then_ret ?_
      | refine XC_ret ?_
      | refine Y_res (r_assign rfl) rfl ?_
    refine XT_ret3 (.inl rfl) Try.results28 rfl rfl rfl (fun w' h => ?_)
    rw [hend h5]
    exact ⟨rfl, h.tail.tail⟩
  rw [hP5] at h5
  have hr2 := hr
  rw [if_neg h5] at hr2
  clear hend hr hP5
  have h5a : f.gen = l.gen := by omega
  have h5b : f.num = l.nx := by omega
  have h5c : l.at_ + f.last < l.to := by omega
  have hB1 : bodyTo (nowAt p) l.at_ 1 = (nowAt p l.at_).drop 16 := by
    rw [bodyTo_succ]
    show [] ++ (nowAt p (l.at_ + 0)).drop 16 = _
    simp
  have hB1l : (bodyTo (nowAt p) l.at_ 1).length = 48 := bodyTo_len hp _ 1 (by omega)
  unfold scC
  repeat first
    | refine XC_region ?_
    | refine X_nil ?_
    | refine XC_seq ?_
    | refine XT_seq ?_
    | refine XC_block ?_
    | refine XC_skip ?_
    | refine Y_res (r_assign rfl) rfl ?_
    | refine Y_res (r_field' rfl) rfl ?_
    | refine Y_res (r_loadB rfl rfl) rfl ?_
  refine XC_re (e := 9) (v' := .slice (some ⟨b, 16, none⟩) (bodyTo (nowAt p) l.at_ 1).length 48) rfl (by rw [hB1l]) ?_
  refine XC_loop (ι := Nat × Bool × Option Addr × Nat) (fun j => 1 ≤ j.1 ∧ j.1 ≤ f.last + 1 ∧ (∀ i, i + 1 < j.1 → partOk (nowAt p) f l.at_ l.gen l.nx (i + 1)) ∧ (j.2.1 = false → j.2.2.2 = (bodyTo (nowAt p) l.at_ j.1).length))
    (fun j => [(0, .pointer (some ⟨gl, 0, none⟩)), (7, .pointer (some ⟨g7, 0, none⟩)), (9, .slice j.2.2.1 (bodyTo (nowAt p) l.at_ j.1).length j.2.2.2), (10, .int .i64 j.1)])
    (fun j => Hp w0 TS (bodyCh j.2.1 j.2.2.1 j.2.2.2 (bodyTo (nowAt p) l.at_ j.1) :: Ch.blk g7 (scC f b) 61 :: WlC gl g l a (PlC g pa p es))) (fun j => f.last + 1 - j.1) (1, false, some ⟨b, 16, none⟩, 48) ⟨Nat.le_refl _, by omega, fun i hi => by omega, fun _ => hB1l.symm⟩ ⟨rfl, rfl, rfl, rfl, trivial⟩ (fun w1 h => ?_) ?_
  · have h2 : Hp w0 TS (Ch.ints b .u8 (nowAt p l.at_) 74 :: Ch.blk g7 (scC f b) 61 :: WlC gl g l a (PlC g pa p es)) w1 := h.swap
    have h3 := bagI_cut (bagI_ints (c := 64) h2 (by omega) (by decide)) 16 64 (by decide) (by omega)
    rw [show (nowAt p l.at_).take 64 = nowAt p l.at_ from List.take_of_length_le (by omega), ← hB1] at h3
    exact h3
  rintro ⟨i, own, A, c⟩ ⟨hi1, hi2, hall, hown⟩
  dsimp only at hi1 hi2 hall hown ⊢
  have hall := Lib.hid hall
  have hbl : (bodyTo (nowAt p) l.at_ i).length = 48 * i := bodyTo_len hp _ i (by omega)
  unfold scC
  repeat first
    | refine XC_region ?_
    | refine X_nil ?_
    | refine XC_seq ?_
    | refine XT_seq ?_
    | refine Y_res (r_move rfl) rfl ?_
    | refine Y_res (r_leq rfl rfl) rfl ?_
    | refine Y_res (r_field' rfl) rfl ?_
    | refine Y_res (r_loadB rfl rfl) rfl ?_
  refine XC_condP rfl (fun hle => ?_) (fun hgt => ?_)
  · have hi3 : i ≤ f.last := by omega
    unfold WlC lgC
    repeat first
      | refine XC_region ?_
      | refine XC_seq ?_
      | refine XT_seq ?_
      | refine XC_block ?_
      | refine XC_skip ?_
      | refine Y_res (r_move rfl) rfl ?_
      | refine Y_res (r_add64 rfl rfl (by omega)) rfl ?_
      | refine Y_res (r_field' rfl) rfl ?_
      | refine Y_res (r_nilCheck rfl) rfl ?_
      | refine Y_res (r_loadB rfl rfl) rfl ?_
    refine X_call (g := 27) rfl rfl (fun w1 q1 => (read_any (gl := gl) (g := g) (l := l) (a := a) (pa := pa) (p := p) (es := [bodyCh own A c (bodyTo (nowAt p) l.at_ i), Ch.blk g7 (scC f b) 61] ++ es) (l.at_ + i) (Hp.of_perm (cs := [bodyCh own A c (bodyTo (nowAt p) l.at_ i), Ch.blk g7 (scC f b) 61] ++ WlC gl g l a (PlC g pa p es)) q1 (pWin _ _ _ _ _ _ _ _ _)) hp hd (by omega) hwf).mono ?_)
    rintro e w2 ⟨b1, rfl, q2⟩
    have q3 : Hp w0 TS (Ch.ints b1 .u8 (nowAt p (l.at_ + i)) 74 :: bodyCh own A c (bodyTo (nowAt p) l.at_ i) :: Ch.blk g7 (scC f b) 61 :: WlC gl g l a (PlC g pa p es)) w2 := Hp.of_perm q2 (List.Perm.cons _ (pWin gl g l a g pa p [bodyCh own A c (bodyTo (nowAt p) l.at_ i), Ch.blk g7 (scC f b) 61] es).symm)
    refine ⟨_, rfl, _, q3, ?_⟩
    clear q1 q2 q3
    have hsl := nowAt_len hp (i := l.at_ + i) (by omega)
    have hsw := nowAt_wf hp hwf (i := l.at_ + i) (by omega)
    obtain ⟨s1, s2, s3, s4, s5, s6⟩ := rdS_bd hsl hsw
    have hpk : partOk (nowAt p) f l.at_ l.gen l.nx i ↔ ((rdS (nowAt p (l.at_ + i))).gen = l.gen ∧ (rdS (nowAt p (l.at_ + i))).op = f.op ∧ (rdS (nowAt p (l.at_ + i))).num = l.nx ∧ (rdS (nowAt p (l.at_ + i))).place = i ∧ (rdS (nowAt p (l.at_ + i))).last = f.last) := Iff.rfl
    have hsb : (rdS (nowAt p (l.at_ + i))).body = (nowAt p (l.at_ + i)).drop 16 := rfl
    obtain ⟨s, hs⟩ : ∃ s, s = rdS (nowAt p (l.at_ + i)) := ⟨_, rfl⟩
    have hbs := bodyTo_succ (nowAt p) l.at_ i
    rw [← hs] at s1 s2 s3 s4 s5 s6 hpk hsb hbs ⊢
    rw [hsb] at hbs
    repeat first
      | refine Y_res (r_move rfl) rfl ?_
      | refine Y_res (r_extract rfl rfl) rfl ?_
    refine X_allocB (zs := [.int .i64 0, .int .i64 0, .int .i64 0, .int .i64 0, .int .i64 0, .slice none 0 0]) rfl rfl (fun g11 hg11 => ?_)
    repeat first
      | refine XC_region ?_
      | refine X_nil ?_
      | refine XC_condF rfl ?_
      | refine XC_seq ?_
      | refine XT_seq ?_
      | refine XC_skip ?_
      | refine Y_res (r_move rfl) rfl ?_
      | refine Y_res (r_assign rfl) rfl ?_
      | refine Y_res (r_neq rfl rfl) rfl ?_
      | refine X_storeW (vs := scC s b1) rfl rfl rfl (by rfl) (scC_one _ _) ?_
    unfold WlC lgC scC
    refine XC_mid (ι := Unit) (fun _ => True) (fun _ => [(0, .pointer (some ⟨gl, 0, none⟩)), (7, .pointer (some ⟨g7, 0, none⟩)), (9, .slice A (bodyTo (nowAt p) l.at_ i).length c), (10, .int .i64 i), (11, .pointer (some ⟨g11, 0, none⟩)), (125, .bool (decide (¬ partOk (nowAt p) f l.at_ l.gen l.nx i)))]) (fun _ => Hp w0 TS (Ch.blk g11 (scC s b1) 61 :: Ch.ints b1 .u8 (nowAt p (l.at_ + i)) 74 :: bodyCh own A c (bodyTo (nowAt p) l.at_ i) :: Ch.blk g7 (scC f b) 61 :: WlC gl g l a (PlC g pa p es))) ?_ ?_
    · repeat first
        | refine XC_quietF rfl (by kernel_rfl) (by kernel_rfl) drw_hp ?_
        | refine Y_res (r_move rfl) rfl ?_
        | refine Y_res (r_neq rfl rfl) rfl ?_
        | refine Y_res (r_field' rfl) rfl ?_
        | refine Y_res (r_nilCheck rfl) rfl ?_
        | refine Y_res (r_loadB rfl rfl) rfl ?_
      refine Y_split rfl rfl (fun h1 => ?_) (fun h1 => ?_)
      · repeat first
          | refine XQ_nil ?_
          | refine Y_res (r_move rfl) rfl ?_
          | refine Y_off rfl rfl rfl ?_
          | refine Y_res (r_pickT rfl rfl) rfl ?_
        refine XT_re (e := 125) (v' := .bool (decide (¬ partOk (nowAt p) f l.at_ l.gen l.nx i))) rfl (by rw [decide_eq_true]; rw [hpk]; omega) ?_
        exact XT_mid () trivial ⟨rfl, rfl, rfl, rfl, rfl, rfl, trivial⟩ (fun _ h => h)
      repeat first
        | refine Y_res (r_move rfl) rfl ?_
        | refine Y_res (r_neq rfl rfl) rfl ?_
        | refine Y_on rfl rfl ?_
        | refine Y_res (r_field' rfl) rfl ?_
        | refine Y_res (r_loadB rfl rfl) rfl ?_
        | refine Y_res (r_pickF rfl rfl) rfl ?_
      refine Y_split rfl rfl (fun h2 => ?_) (fun h2 => ?_)
      · repeat first
          | refine XQ_nil ?_
          | refine Y_res (r_move rfl) rfl ?_
          | refine Y_off rfl rfl rfl ?_
          | refine Y_res (r_pickT rfl rfl) rfl ?_
        refine XT_re (e := 125) (v' := .bool (decide (¬ partOk (nowAt p) f l.at_ l.gen l.nx i))) rfl (by rw [decide_eq_true]; rw [hpk]; omega) ?_
        exact XT_mid () trivial ⟨rfl, rfl, rfl, rfl, rfl, rfl, trivial⟩ (fun _ h => h)
      repeat first
        | refine Y_res (r_move rfl) rfl ?_
        | refine Y_res (r_neq rfl rfl) rfl ?_
        | refine Y_on rfl rfl ?_
        | refine Y_res (r_field' rfl) rfl ?_
        | refine Y_res (r_nilCheck rfl) rfl ?_
        | refine Y_res (r_loadB rfl rfl) rfl ?_
        | refine Y_res (r_pickF rfl rfl) rfl ?_
      refine Y_split rfl rfl (fun h3 => ?_) (fun h3 => ?_)
      · repeat first
          | refine XQ_nil ?_
          | refine Y_res (r_move rfl) rfl ?_
          | refine Y_off rfl rfl rfl ?_
          | refine Y_res (r_pickT rfl rfl) rfl ?_
        refine XT_re (e := 125) (v' := .bool (decide (¬ partOk (nowAt p) f l.at_ l.gen l.nx i))) rfl (by rw [decide_eq_true]; rw [hpk]; omega) ?_
        exact XT_mid () trivial ⟨rfl, rfl, rfl, rfl, rfl, rfl, trivial⟩ (fun _ h => h)
      repeat first
        | refine Y_res (r_move rfl) rfl ?_
        | refine Y_res (r_neq rfl rfl) rfl ?_
        | refine Y_on rfl rfl ?_
        | refine Y_res (r_field' rfl) rfl ?_
        | refine Y_res (r_loadB rfl rfl) rfl ?_
        | refine Y_res (r_pickF rfl rfl) rfl ?_
      refine Y_split rfl rfl (fun h4 => ?_) (fun h4 => ?_)
      · repeat first
          | refine XQ_nil ?_
          | refine Y_off rfl rfl rfl ?_
          | refine Y_res (r_pickT rfl rfl) rfl ?_
        refine XT_re (e := 125) (v' := .bool (decide (¬ partOk (nowAt p) f l.at_ l.gen l.nx i))) rfl (by rw [decide_eq_true]; rw [hpk]; omega) ?_
        exact XT_mid () trivial ⟨rfl, rfl, rfl, rfl, rfl, rfl, trivial⟩ (fun _ h => h)
      repeat first
        | refine XQ_nil ?_
        | refine Y_res (r_neq rfl rfl) rfl ?_
        | refine Y_on rfl rfl ?_
        | refine Y_res (r_field' rfl) rfl ?_
        | refine Y_res (r_loadB rfl rfl) rfl ?_
        | refine Y_res (r_pickF rfl rfl) rfl ?_
      refine XT_re (e := 125) (v' := .bool (decide (¬ partOk (nowAt p) f l.at_ l.gen l.nx i))) rfl (by congr 1; rw [decide_eq_decide, hpk]; omega) ?_
      exact XT_mid () trivial ⟨rfl, rfl, rfl, rfl, rfl, rfl, trivial⟩ (fun _ h => h)
    intro _ _
    skip
    refine XC_condP rfl (fun h6 => ?_) (fun h6 => ?_)
    · repeat first
        | refine XC_region ?_
        | refine X_nil ?_
        | refine XC_seq ?_
        | refine XT_seq ?_
        | refine XT_block_ret ?_
        | refine XT_then_ret ?_
        | refine XC_ret ?_
        | refine Y_res (r_assign rfl) rfl ?_
      refine XT_ret3 (.inl rfl) Try.results28 rfl rfl rfl (fun w' h => ?_)
      rw [hr2, if_pos (fun hx => h6 (by have := hx (i - 1) (by omega); rwa [show i - 1 + 1 = i by omega] at this))]
      exact ⟨rfl, h.tail.tail.tail.tail⟩
    · have h6 := Classical.not_not.1 h6
      refine XC_mem (M' := Hp w0 TS (bodyCh own A c (bodyTo (nowAt p) l.at_ i) :: Ch.blk g11 (scC s b1) 61 :: Ch.ints b1 .u8 (nowAt p (l.at_ + i)) 74 :: Ch.blk g7 (scC f b) 61 :: WlC gl g l a (PlC g pa p es))) (fun _ h => Hp.mv [_, _] h) ?_
      unfold scC
      repeat first
        | refine XC_region ?_
        | refine X_nil ?_
        | refine XT_seq ?_
        | refine XT_block_normal ?_
        | refine XC_skip ?_
        | refine Y_res (r_move rfl) rfl ?_
        | refine Y_res (r_assign rfl) rfl ?_
        | refine Y_res (r_add64 rfl rfl (by omega)) rfl ?_
        | refine Y_res (r_field' rfl) rfl ?_
        | refine Y_res (r_loadB rfl rfl) rfl ?_
        | refine X_appendOG (ys := (nowAt p (l.at_ + i)).drop 16) rfl rfl rfl (by rw [← hsb, s6]) (fun w1 h => rds_hi (gl := gl) (g := g) (w := w1) (cs := _) (Hp.mv [_, _] h) hsl) (fun e => by have := hown e; rw [hbl] at this; rw [hbl, ← hsb, s6]; omega) (by omega) (by rw [hbl, ← hsb, s6]; omega) (by rw [hbl, ← hsb, s6]; omega) rfl (fun A3 c3 => ?_)
      rw [← hbs]
      exact XT_round (i + 1, true, A3, c3) ⟨by dsimp only; omega, by dsimp only; omega, fun j hj => by
        by_cases e : j + 1 = i
        · rw [e]; exact h6
        · exact hall.out j (by dsimp only at hj; omega), fun e => by cases e⟩ (by dsimp only; omega) ⟨rfl, rfl, rfl, rfl, trivial⟩ (fun _ h => Hp.sublist h (.cons_cons _ (.cons _ (.cons _ (List.Sublist.refl _)))))
  obtain rfl : i = f.last + 1 := by omega
  have hrs : r = (if 65536 < numS ((bodyTo (nowAt p) l.at_ (f.last + 1)).take 4) ∨ needs (numS ((bodyTo (nowAt p) l.at_ (f.last + 1)).take 4)) ≠ f.last + 1 ∨ noughts ((bodyTo (nowAt p) l.at_ (f.last + 1)).drop (4 + numS ((bodyTo (nowAt p) l.at_ (f.last + 1)).take 4))) = false then none else some (((bodyTo (nowAt p) l.at_ (f.last + 1)).take (4 + numS ((bodyTo (nowAt p) l.at_ (f.last + 1)).take 4))).drop 4, f.op)) := by
    rw [hr2, if_neg (fun h => h (fun j hj => hall.out j (by omega)))]
  have hbw := bodyTo_wf hp hwf l.at_ (f.last + 1) (by omega)
  have hnb := numS_lt ((bodyTo (nowAt p) l.at_ (f.last + 1)).take 4) (fun x hx => hbw x (List.mem_of_mem_take hx))
  rw [show ((bodyTo (nowAt p) l.at_ (f.last + 1)).take 4).length = 4 by rw [List.length_take]; omega] at hnb
  obtain ⟨body, hbody⟩ : ∃ body, body = bodyTo (nowAt p) l.at_ (f.last + 1) := ⟨_, rfl⟩
  rw [← hbody] at hrs hbw hnb hbl ⊢
  obtain ⟨n, hn⟩ : ∃ n, n = numS (body.take 4) := ⟨_, rfl⟩
  have hn0 := hn
  rw [← hn] at hrs hnb
  clear hr2 hall hown hr0 hb0 hB1 hB1l hgt hbody
  refine XC_open (ι := Unit) (fun _ => body.length ≤ c ∧ c ≤ 9223372036854775807) (fun _ => Hp w0 TS (Ch.bagN [itI .u8 A c body] :: Ch.blk g7 (scC f b) 61 :: WlC gl g l a (PlC g pa p es))) (fun w1 h => ⟨(), ⟨(body_rd h.head).le, (body_rd h.head).cap⟩, body_bag h⟩) ?_
  rintro _ ⟨hc1, hc2⟩
  unfold scC
  repeat first
    | refine XC_region ?_
    | refine XC_seq ?_
    | refine XT_seq ?_
    | refine XT_block_same rfl ?_
    | refine XT_then_exit ?_
    | refine XC_exit ?_
    | refine Y_res (r_move rfl) rfl ?_
    | refine Y_res (r_cut0 rfl rfl (by omega)) rfl ?_
  refine Y_says (g := 37) rfl rfl (fun w1 hM => num_at (body.take 4) A c 4 w1 ((bagI_rd hM.head).take 4) (by rw [List.length_take]; omega) (by decide) (fun x hx => hbw x (List.mem_of_mem_take hx))) ?_
  rw [← hn]
  repeat first
    | refine X_nil ?_
    | refine XC_seq ?_
    | refine XT_seq ?_
    | refine Y_res (r_assign rfl) rfl ?_
  obtain ⟨P3, hP3⟩ : ∃ P3 : Prop, P3 = (65536 < n ∨ needs n ≠ f.last + 1 ∨ noughts (body.drop (4 + n)) = false) := ⟨_, rfl⟩
  haveI : Decidable P3 := by rw [hP3]; infer_instance
  refine XC_mid (ι := Unit) (fun _ => True) (fun _ => [(0, .pointer (some ⟨gl, 0, none⟩)), (7, .pointer (some ⟨g7, 0, none⟩)), (9, .slice A body.length c), (13, .int .i64 n), (149, .bool (decide P3))]) (fun _ => Hp w0 TS (Ch.bagN [itI .u8 A c body] :: Ch.blk g7 (scC f b) 61 :: WlC gl g l a (PlC g pa p es))) ?_ ?_
  · repeat first
      | refine XC_quietF rfl (by kernel_rfl) (by kernel_rfl) drw_hp ?_
      | refine Y_res (r_move rfl) rfl ?_
      | refine Y_res (r_gtr rfl rfl) rfl ?_
    refine Y_split rfl rfl (fun h1 => ?_) (fun h1 => ?_)
    · repeat first
        | refine XQ_nil ?_
        | refine Y_res (r_move rfl) rfl ?_
        | refine Y_off rfl rfl rfl ?_
        | refine Y_res (r_pickT rfl rfl) rfl ?_
      refine XT_re (e := 149) (v' := .bool (decide P3)) rfl (by rw [decide_eq_true (show P3 by rw [hP3]; omega)]) ?_
      exact XT_mid () trivial ⟨rfl, rfl, rfl, rfl, rfl, trivial⟩ (fun _ h => h)
    repeat first
      | refine Y_res (r_move rfl) rfl ?_
      | refine Y_res (r_add64 rfl rfl (by omega)) rfl ?_
      | refine Y_res (r_neq rfl rfl) rfl ?_
      | refine Y_on rfl rfl ?_
      | refine Y_res (r_field' rfl) rfl ?_
      | refine Y_res (r_loadB rfl rfl) rfl ?_
      | refine Y_res (r_pickF rfl rfl) rfl ?_
      | refine Y_says (g := 30) rfl rfl (fun w1 hM => needs_any n w1 (by omega)) ?_
    refine Y_split rfl rfl (fun h2 => ?_) (fun h2 => ?_)
    · repeat first
        | refine XQ_nil ?_
        | refine Y_off rfl rfl rfl ?_
        | refine Y_res (r_pickT rfl rfl) rfl ?_
      refine XT_re (e := 149) (v' := .bool (decide P3)) rfl (by rw [decide_eq_true (show P3 by rw [hP3]; omega)]) ?_
      exact XT_mid () trivial ⟨rfl, rfl, rfl, rfl, rfl, trivial⟩ (fun _ h => h)
    have hnd := needs_bd n
    have hle : 4 + n ≤ body.length := by
      have : needs n = f.last + 1 := by omega
      omega
    repeat first
      | refine Y_res (r_move rfl) rfl ?_
      | refine Y_res (r_add64 rfl rfl (by omega)) rfl ?_
      | refine Y_on rfl rfl ?_
      | refine Y_res (r_cutL rfl rfl (by omega)) rfl ?_
    refine Y_says (g := 38) rfl rfl (fun w1 hM => contains_any (body.drop (4 + n)) _ _ _ w1 ((bagI_rd hM.head).drop (4 + n) hle) (by rw [List.length_drop])) ?_
    repeat first
      | refine XQ_nil ?_
      | refine Y_res (r_pickF rfl rfl) rfl ?_
    refine XT_re (e := 149) (v' := .bool (decide P3)) rfl (by
      congr 1
      rw [decide_eq_decide, hP3]
      exact ⟨fun h => .inr (.inr h), fun h => by
        rcases h with h | h | h
        · omega
        · omega
        · exact h⟩) ?_
    exact XT_mid () trivial ⟨rfl, rfl, rfl, rfl, rfl, trivial⟩ (fun _ h => h)
  intro _ _
  skip
  refine XC_condP rfl (fun h5 => ?_) (fun h5 => ?_)
  · repeat first
      | refine XC_region ?_
      | refine X_nil ?_
      | refine XC_seq ?_
      | refine XT_seq ?_
      | refine XT_then_ret ?_
      | refine XC_ret ?_
      | refine Y_res (r_assign rfl) rfl ?_
    refine XT_ret3 (.inl rfl) Try.results28 rfl rfl rfl (fun w' h => ?_)
    rw [hrs, if_pos (by rw [← hP3]; exact h5)]
    exact ⟨rfl, h.tail.tail⟩
  · have h5' : ¬ (65536 < n ∨ needs n ≠ f.last + 1 ∨ noughts (body.drop (4 + n)) = false) := by rw [← hP3]; exact h5
    have hnd := needs_bd n
    have hle : 4 + n ≤ body.length := by
      have : needs n = f.last + 1 := Classical.not_not.1 fun h => h5' (.inr (.inl h))
      omega
    repeat first
      | refine XC_quietF rfl (by kernel_rfl) (by kernel_rfl) drw_hp ?_
      | refine XQ_nil ?_
      | refine XC_seq ?_
      | refine XT_seq ?_
      | refine XC_skip ?_
      | refine XC_ret ?_
      | refine Y_res (r_move rfl) rfl ?_
      | refine Y_res (r_assign rfl) rfl ?_
      | refine Y_res (r_add64 rfl rfl (by omega)) rfl ?_
      | refine Y_res (r_field' rfl) rfl ?_
      | refine Y_res (r_loadB rfl rfl) rfl ?_
      | refine Y_res (r_cutLH rfl rfl rfl (by omega) (by omega)) rfl ?_
    refine XT_ret3 (.inl rfl) Try.results28 rfl rfl rfl (fun w' h => ?_)
    rw [hrs, if_neg h5']
    refine ⟨_, _, ?_, (Hp.sublist (bagI_cut h 4 (4 + n) (by omega) hle) (.cons_cons _ (.cons _ (List.Sublist.refl _))))⟩
    rw [show ((body.take (4 + n)).drop 4).length = 4 + n - 4 by rw [List.length_drop, List.length_take]; omega]
end
end Go.Proofs.Ytgfpibojgkleiaa.NWl
