/- A log, opened: walked. -/
import Derived.Test.YtgfpibojgkleiaaNWl4
namespace Go.Proofs.Ytgfpibojgkleiaa.NWl
open Go Go.RowKit Go.Proofs.Ytgfpibojgkleiaa.MX Go.Proofs.Ytgfpibojgkleiaa.PWal Go.Proofs.Ytgfpibojgkleiaa.NPl
set_option linter.unusedVariables false
set_option linter.unusedSimpArgs false
set_option linter.unusedVariables false
theorem scan_fuel (S : Nat → List Int) (to gen : Nat) : ∀ (f at_ nx low : Nat), to - at_ ≤ f → scan S to gen f at_ nx low = scan S to gen (to - at_) at_ nx low := by
  intro f
  induction f using Nat.strongRecOn with
  | _ f ih =>
    intro at_ nx low h
    cases f with
    | zero => rw [show to - at_ = 0 by omega]
    | succ f =>
      by_cases hlt : at_ < to
      · obtain ⟨m, hm⟩ : ∃ m, to - at_ = m + 1 := ⟨to - at_ - 1, by omega⟩
        rw [hm]
        simp only [scan, if_pos hlt]
        cases ht : takeP S to at_ gen nx low with
        | none => rfl
        | some x =>
          obtain ⟨b, o⟩ := x
          have hn := needs_bd b.length
          dsimp only
          rw [ih f (by omega) _ _ _ (by omega), ih m (by omega) _ _ _ (by omega)]
      · rw [show to - at_ = 0 by omega]
        simp only [scan, if_neg hlt]
theorem scan_none {S : Nat → List Int} {to gen at_ nx low : Nat} (h : at_ < to → takeP S to at_ gen nx low = none) : scan S to gen (to - at_) at_ nx low = ([], at_, nx) := by
  by_cases hlt : at_ < to
  · obtain ⟨m, hm⟩ : ∃ m, to - at_ = m + 1 := ⟨to - at_ - 1, by omega⟩
    rw [hm]
    simp only [scan, if_pos hlt, h hlt]
  · rw [show to - at_ = 0 by omega]
    rfl
theorem scan_some {S : Nat → List Int} {to gen at_ nx low o : Nat} {b : List Int} (hlt : at_ < to) (h : takeP S to at_ gen nx low = some (b, o)) :
    scan S to gen (to - at_) at_ nx low = (b :: (scan S to gen (to - (at_ + needs b.length)) (at_ + needs b.length) (nx + 1) o).1, (scan S to gen (to - (at_ + needs b.length)) (at_ + needs b.length) (nx + 1) o).2) := by
  have hn := needs_bd b.length
  obtain ⟨m, hm⟩ : ∃ m, to - at_ = m + 1 := ⟨to - at_ - 1, by omega⟩
  rw [hm]
  simp only [scan, if_pos hlt, h]
  rw [scan_fuel S to gen m _ _ _ (by omega)]
theorem take_fits {S : Nat → List Int} {to gen at_ nx low o : Nat} {b : List Int} (h : takeP S to at_ gen nx low = some (b, o)) (hb : ∀ i, at_ ≤ i → i < to → (rdS (S i)).body.length = 48 ∧ (rdS (S i)).op < 4294967296) (hlt : at_ < to) : at_ + needs b.length ≤ to ∧ o < 4294967296 ∧ b.length ≤ 65536 := by
  unfold takeP at h
  dsimp only at h
  split at h
  · cases h
  rename_i h1
  split at h
  · cases h
  split at h
  · cases h
  rename_i h3
  simp only [Option.some.injEq, Prod.mk.injEq] at h
  obtain ⟨rfl, rfl⟩ := h
  have hbl : ∀ m, at_ + m ≤ to → (bodyTo S at_ m).length = 48 * m := by
    intro m
    induction m with
    | zero => intro _; rfl
    | succ m ih =>
      intro hm
      rw [bodyTo_succ, List.length_append, ih (by omega), (hb (at_ + m) (by omega) (by omega)).1]
      omega
  have h4 := hbl ((rdS (S at_)).last + 1) (by omega)
  obtain ⟨n, hn⟩ : ∃ n, n = numS ((bodyTo S at_ ((rdS (S at_)).last + 1)).take 4) := ⟨_, rfl⟩
  rw [← hn] at h3 ⊢
  have h5 : needs n = (rdS (S at_)).last + 1 := Classical.not_not.1 fun h => h3 (.inr (.inl h))
  have h6 := needs_bd n
  have e : (((bodyTo S at_ ((rdS (S at_)).last + 1)).take (4 + n)).drop 4).length = n := by
    rw [List.length_drop, List.length_take, h4]
    omega
  rw [e, h5]
  exact ⟨by omega, (hb at_ (Nat.le_refl _) hlt).2, by omega⟩
def openP (S : Nat → List Int) (from_ to gen : Nat) : Lg :=
  ⟨(scan S to gen (to - from_) from_ 1 0).2.1, to, gen, topTo S gen from_ (to - from_) + 1, (scan S to gen (to - from_) from_ 1 0).2.2, (scan S to gen (to - from_) from_ 1 0).1, false⟩
theorem topTo_lt {p : Pl} (hp : PlOk p) (hw : PlWf p) (gen from_ : Nat) : ∀ m, from_ + m ≤ p.n → topTo (nowAt p) gen from_ m < 4294967296
  | 0, _ => by simp [topTo]
  | m + 1, h => by
    have h1 := topTo_lt hp hw gen from_ m (by omega)
    have h2 := (rdS_bd (nowAt_len hp (i := from_ + m) (by omega)) (nowAt_wf hp hw (by omega))).2.1
    simp only [topTo]
    split <;> omega
theorem Hp_p3 (a b c : Ch) (es : List Ch) : (a :: b :: c :: es).Perm (c :: a :: b :: es) := (List.Perm.cons a (List.Perm.swap c b es)).trans (List.Perm.swap c a (b :: es))
theorem wl_add {w0 w : World} {S : Nat → Prop} {es : List Ch} {B A' : Option Addr} {cb c' n gl : Nat} {x : List Int} {js : List It} {C : List Value} (h : Hp w0 S (Ch.sl B cb 5 .u8 x :: Ch.blk gl C 59 :: Ch.sv A' c' 30 1 n (js.map It.val ++ [.slice B x.length cb]) :: Ch.bagN js :: es) w) :
    Hp w0 S (Ch.blk gl C 59 :: Ch.sv A' c' 30 1 n ((js ++ [itI .u8 B cb x]).map It.val) :: Ch.bagN (js ++ [itI .u8 B cb x]) :: es) w := by
  have h1 : Hp w0 S (Ch.sv B cb 5 1 x.length (x.map (Value.int .u8)) :: Ch.bagN js :: Ch.blk gl C 59 :: Ch.sv A' c' 30 1 n (js.map It.val ++ [.slice B x.length cb]) :: es) w := h.of_perm (List.Perm.cons _ (Hp_p3 _ _ _ _))
  have h2 := (h1.bagNV).bagNSub (jts := js ++ [itI .u8 B cb x]) (fun it hit => by
    rw [List.mem_append, List.mem_singleton] at hit
    rcases hit with hit | rfl
    · exact List.mem_cons_of_mem _ hit
    · exact List.mem_cons_self ..)
  rw [List.map_append]
  exact h2.of_perm (Hp_p3 _ _ _ _).symm
section
variable {gl g : Nat} {l : Lg} {a : La} {pa : Ad} {p : Pl} {w w0 : World} {TS : Nat → Prop} {es : List Ch}
/-- Where an opening stands. -/
structure Opn (p : Pl) (from_ to gen : Nat) (l : Lg) (a : La) (low : Nat) : Prop where
  le : from_ ≤ l.at_ ∧ l.at_ ≤ to
  tt : l.to = to
  gn : l.gen = gen
  op : l.op = topTo (nowAt p) gen from_ (to - from_) + 1
  nx : l.nx = l.list.length + 1
  ll : l.list.length ≤ l.at_
  br : l.broken = false
  js : JOk .u8 a.js l.list
  lw : low ≤ 4294967296
  rest : scan (nowAt p) to gen (to - from_) from_ 1 0 = (l.list ++ (scan (nowAt p) to gen (to - l.at_) l.at_ l.nx low).1, (scan (nowAt p) to gen (to - l.at_) l.at_ l.nx low).2)
theorem Opn.ok {from_ to gen low : Nat} (h : Opn p from_ to gen l a low) (hg : 1 ≤ gen ∧ gen < 2147483648) (ht : to ≤ 16384) (hop : topTo (nowAt p) gen from_ (to - from_) < 4294967296) : LgOk l := by
  have h1 := h.le
  have h2 := h.tt
  have h3 := h.gn
  have h4 := h.op
  have h5 := h.nx
  have h6 := h.ll
  exact ⟨by omega, by omega, by omega, by omega, by omega, by omega⟩
set_option maxRecDepth 100000 in
set_option maxHeartbeats 8000000 in
theorem open_any (from_ to gen : Nat) (hT : Hp w0 TS (PlC g pa p es) w) (hp : PlOk p) (hd : p.down = false) (hwf : PlWf p) (hft : from_ < to) (hto : to ≤ p.n) (hgen : 1 ≤ gen ∧ gen < 2147483648) :
    Calls Try.prog 11 #[.pointer (some ⟨g, 0, none⟩), .int .i64 from_, .int .i64 to, .int .i64 gen] w fun e w' => ∃ gl a, e = .returned (.tuple #[.pointer (some ⟨gl, 0, none⟩), .int .i64 0]) ∧ Hp w0 TS (WlC gl g (openP (nowAt p) from_ to gen) a (PlC g pa p es)) w' ∧ JOk .u8 a.js (openP (nowAt p) from_ to gen).list := by
  have hn := hp.hi
  have htop := topTo_lt hp hwf gen from_
  refine calls_of_X (vs := [_, _, _, _]) (M := Hp w0 TS (PlC g pa p es)) Try.func11 rfl Try.ntmps11 rfl hT ?_
  clear hT
  repeat first
    | refine XC_region ?_
    | refine X_nil ?_
    | refine XC_seq ?_
    | refine XT_seq ?_
    | refine XC_block ?_
    | refine Y_res (r_move rfl) rfl ?_
    | refine Y_res (r_assign rfl) rfl ?_
    | refine Y_res (r_lss rfl rfl) rfl ?_
    | refine Y_res (r_geq rfl rfl) rfl ?_
    | refine Y_on rfl rfl ?_
    | refine Y_res (r_pickF rfl rfl) rfl ?_
    | refine Y_splitF rfl rfl (by omega) ?_
  refine Y_call (g := 26) rfl rfl (fun w1 hM => (sectors_any hM).mono fun e w2 h => h) ?_
  repeat first
    | refine X_nil ?_
    | refine XT_seq ?_
    | refine Y_res (r_assign rfl) rfl ?_
    | refine Y_res (r_gtr rfl rfl) rfl ?_
    | refine Y_on rfl rfl ?_
    | refine Y_res (r_pickF rfl rfl) rfl ?_
  refine XC_condP rfl (fun hx => absurd hx (by omega)) (fun _ => ?_)
  repeat first
    | refine XC_region ?_
    | refine X_nil ?_
    | refine XC_seq ?_
    | refine XT_seq ?_
    | refine Y_res (r_move rfl) rfl ?_
    | refine Y_res (r_assign rfl) rfl ?_
    | refine Y_res (r_lss rfl rfl) rfl ?_
    | refine Y_res (r_geq rfl rfl) rfl ?_
    | refine Y_on rfl rfl ?_
    | refine Y_res (r_pickF rfl rfl) rfl ?_
    | refine Y_splitF rfl rfl (by omega) ?_
  refine XC_condP rfl (fun hx => absurd hx (by omega)) (fun _ => ?_)
  repeat first
    | refine XC_region ?_
    | refine XC_seq ?_
    | refine XT_seq ?_
    | refine XT_block_normal ?_
    | refine XC_skip ?_
    | refine Y_res (r_move rfl) rfl ?_
    | refine Y_res (r_buildX (v := .agg (lgC g ⟨from_, to, gen, 0, 1, [], false⟩ ⟨none, 0, []⟩).toArray) rfl (fun w => by kernel_rfl)) rfl ?_
  refine X_boxA (vs := lgC g ⟨from_, to, gen, 0, 1, [], false⟩ ⟨none, 0, []⟩) rfl rfl (fun gl hgl => ?_)
  repeat first
    | refine XC_region ?_
    | refine X_nil ?_
    | refine XC_seq ?_
    | refine XT_seq ?_
    | refine XC_block ?_
    | refine Y_res (r_move rfl) rfl ?_
    | refine Y_res (r_assign rfl) rfl ?_
  refine XC_loop (ι := Nat) (fun m => m ≤ to - from_) (fun m => [(2, .int .i64 to), (3, .int .i64 gen), (10, .pointer (some ⟨gl, 0, none⟩)), (11, .int .i64 ((from_ + m : Nat) : Int))]) (fun m => Hp w0 TS (WlC gl g ⟨from_, to, gen, topTo (nowAt p) gen from_ m, 1, [], false⟩ ⟨none, 0, []⟩ (PlC g pa p es))) (fun m => to - from_ - m) 0 (Nat.zero_le _) ⟨rfl, rfl, rfl, rfl, trivial⟩ (fun w1 h => ?_) ?_
  · have h2 := (h.bagN0.nilV 30 1)
    exact h2.of_perm ((List.Perm.cons _ (List.Perm.swap _ _ _)).trans (List.Perm.swap _ _ _))
  intro m hm
  repeat first
    | refine XC_region ?_
    | refine X_nil ?_
    | refine XC_seq ?_
    | refine XT_seq ?_
    | refine Y_res (r_move rfl) rfl ?_
    | refine Y_res (r_lss rfl rfl) rfl ?_
  refine XC_condP rfl (fun hlt => ?_) (fun hge => ?_)
  · have hm2 : m < to - from_ := by omega
    have hsl := nowAt_len hp (i := from_ + m) (by omega)
    have hsw := nowAt_wf hp hwf (i := from_ + m) (by omega)
    obtain ⟨s1, s2, s3, s4, s5, s6⟩ := rdS_bd hsl hsw
    have htm := htop m (by omega)
    have hst : topTo (nowAt p) gen from_ (m + 1) = if (rdS (nowAt p (from_ + m))).gen = gen ∧ 0 < (rdS (nowAt p (from_ + m))).num ∧ (rdS (nowAt p (from_ + m))).place ≤ (rdS (nowAt p (from_ + m))).last then max (topTo (nowAt p) gen from_ m) (rdS (nowAt p (from_ + m))).op else topTo (nowAt p) gen from_ m := rfl
    repeat first
      | refine XC_region ?_
      | refine XC_seq ?_
      | refine XT_seq ?_
      | refine XC_block ?_
      | refine XC_skip ?_
      | refine Y_res (r_move rfl) rfl ?_
    refine X_call (g := 27) rfl rfl (fun w1 q1 => (read_any (from_ + m) q1 hp hd (by omega) hwf).mono ?_)
    rintro e w2 ⟨b, rfl, q2⟩
    obtain ⟨s, hs⟩ : ∃ s, s = rdS (nowAt p (from_ + m)) := ⟨_, rfl⟩
    rw [← hs] at s1 s2 s3 s4 s5 s6 hst ⊢
    obtain ⟨tm, htm2⟩ : ∃ tm, tm = topTo (nowAt p) gen from_ m := ⟨_, rfl⟩
    rw [← htm2] at htm hst q2
    refine ⟨_, rfl, _, q2, ?_⟩
    clear q1 q2
    have hmx : (if (s.op : Int) > (tm : Int) then (s.op : Int) else (tm : Int)) = ((max tm s.op : Nat) : Int) := by split <;> omega
    repeat first
      | refine Y_res (r_move rfl) rfl ?_
      | refine Y_res (r_extract rfl rfl) rfl ?_
    refine X_allocB (zs := [.int .i64 0, .int .i64 0, .int .i64 0, .int .i64 0, .int .i64 0, .slice none 0 0]) rfl rfl (fun g12 hg12 => ?_)
    repeat first
      | refine XC_region ?_
      | refine X_nil ?_
      | refine XC_condF rfl ?_
      | refine XC_seq ?_
      | refine XT_seq ?_
      | refine XC_skip ?_
      | refine Y_res (r_move rfl) rfl ?_
      | refine Y_res (r_assign rfl) rfl ?_
      | refine Y_res (r_eql rfl rfl) rfl ?_
      | refine Y_res (r_neq rfl rfl) rfl ?_
      | refine Y_res (r_field' rfl) rfl ?_
      | refine Y_res (r_loadB rfl rfl) rfl ?_
      | refine X_storeW (vs := scC s b) rfl rfl rfl (by rfl) (scC_one _ _) ?_
    unfold scC
    skip
    refine Y_split rfl rfl (fun h1 => ?_) (fun h1 => ?_)
    · repeat first
        | refine Y_res (r_move rfl) rfl ?_
        | refine Y_res (r_gtr rfl rfl) rfl ?_
        | refine Y_on rfl rfl ?_
        | refine Y_res (r_field' rfl) rfl ?_
        | refine Y_res (r_loadB rfl rfl) rfl ?_
        | refine Y_res (r_pickT rfl rfl) rfl ?_
      refine Y_split rfl rfl (fun h2 => ?_) (fun h2 => ?_)
      · repeat first
          | refine X_nil ?_
          | refine XT_seq ?_
          | refine Y_res (r_leq rfl rfl) rfl ?_
          | refine Y_on rfl rfl ?_
          | refine Y_res (r_field' rfl) rfl ?_
          | refine Y_res (r_loadB rfl rfl) rfl ?_
          | refine Y_res (r_pickT rfl rfl) rfl ?_
        refine XC_condP rfl (fun h3 => ?_) (fun h3 => ?_)
        · rw [if_pos (by omega)] at hst
          unfold WlC lgC
          dsimp only
          repeat first
            | refine XC_region ?_
            | refine XC_tailF (by kernel_rfl) (by kernel_rfl) drw_hp ?_
            | refine X_nil ?_
            | refine XQ_nilX ?_
            | refine XT_seq ?_
            | refine XT_block_normal ?_
            | refine Y_res (r_move rfl) rfl ?_
            | refine Y_res (r_assign rfl) rfl ?_
            | refine Y_res (r_add64 rfl rfl (by omega)) rfl ?_
            | refine Y_res (r_field' rfl) rfl ?_
            | refine Y_res (r_nilCheck rfl) rfl ?_
            | refine Y_res (r_loadB rfl rfl) rfl ?_
            | refine X_storeB rfl rfl rfl (by simp) ?_
            | (refine Y_res (r_max2 rfl rfl) rfl ?_; rw [hmx])
          exact XT_round (m + 1) (by omega) (by omega) ⟨rfl, rfl, rfl, rfl, trivial⟩ (fun _ h => by rw [hst]; exact h.tail.tail)
        · rw [if_neg (by omega)] at hst
          repeat first
            | refine XC_region ?_
            | refine X_nil ?_
            | refine XT_seq ?_
            | refine XT_block_normal ?_
            | refine XC_skip ?_
            | refine Y_res (r_move rfl) rfl ?_
            | refine Y_res (r_assign rfl) rfl ?_
            | refine Y_res (r_add64 rfl rfl (by omega)) rfl ?_
          exact XT_round (m + 1) (by omega) (by omega) ⟨rfl, rfl, rfl, rfl, trivial⟩ (fun _ h => by rw [hst]; exact h.tail.tail)
      · rw [if_neg (by omega)] at hst
        repeat first
          | refine XC_region ?_
          | refine X_nil ?_
          | refine XC_condF rfl ?_
          | refine XT_seq ?_
          | refine XT_block_normal ?_
          | refine XC_skip ?_
          | refine Y_res (r_move rfl) rfl ?_
          | refine Y_res (r_assign rfl) rfl ?_
          | refine Y_res (r_add64 rfl rfl (by omega)) rfl ?_
          | refine Y_off rfl rfl rfl ?_
          | refine Y_res (r_pickF rfl rfl) rfl ?_
        exact XT_round (m + 1) (by omega) (by omega) ⟨rfl, rfl, rfl, rfl, trivial⟩ (fun _ h => by rw [hst]; exact h.tail.tail)
    · rw [if_neg (by omega)] at hst
      repeat first
        | refine XC_region ?_
        | refine X_nil ?_
        | refine XC_condF rfl ?_
        | refine XT_seq ?_
        | refine XT_block_normal ?_
        | refine XC_skip ?_
        | refine Y_res (r_move rfl) rfl ?_
        | refine Y_res (r_assign rfl) rfl ?_
        | refine Y_res (r_add64 rfl rfl (by omega)) rfl ?_
        | refine Y_off rfl rfl rfl ?_
        | refine Y_res (r_pickF rfl rfl) rfl ?_
      exact XT_round (m + 1) (by omega) (by omega) ⟨rfl, rfl, rfl, rfl, trivial⟩ (fun _ h => by rw [hst]; exact h.tail.tail)
  obtain rfl : m = to - from_ := by omega
  have htl := htop (to - from_) (by omega)
  have hO0 : Opn p from_ to gen ⟨from_, to, gen, topTo (nowAt p) gen from_ (to - from_) + 1, 1, [], false⟩ ⟨none, 0, []⟩ 0 := ⟨⟨Nat.le_refl _, by dsimp only; omega⟩, rfl, rfl, rfl, rfl, Nat.zero_le _, rfl, JOk.nil _, by decide, by simp⟩
  obtain ⟨tp, htp⟩ : ∃ tp, tp = topTo (nowAt p) gen from_ (to - from_) := ⟨_, rfl⟩
  rw [← htp] at hO0 htl ⊢
  unfold WlC lgC
  dsimp only
  repeat first
    | refine XC_region ?_
    | refine X_nil ?_
    | refine XC_seq ?_
    | refine XT_seq ?_
    | refine XC_block ?_
    | refine XT_block_same rfl ?_
    | refine XT_then_exit ?_
    | refine XC_exit ?_
    | refine Y_res (r_move rfl) rfl ?_
    | refine Y_res (r_assign rfl) rfl ?_
    | refine Y_res (r_add64 rfl rfl (by omega)) rfl ?_
    | refine Y_res (r_field' rfl) rfl ?_
    | refine Y_res (r_nilCheck rfl) rfl ?_
    | refine Y_res (r_loadB rfl rfl) rfl ?_
    | refine X_storeB rfl rfl rfl (by simp) ?_
  refine XC_loop (ι := Lg × La × Nat) (fun j => Opn p from_ to gen j.1 j.2.1 j.2.2) (fun j => [(2, .int .i64 to), (10, .pointer (some ⟨gl, 0, none⟩)), (14, .int .i64 j.2.2)]) (fun j => Hp w0 TS (WlC gl g j.1 j.2.1 (PlC g pa p es))) (fun j => to - j.1.at_) (⟨from_, to, gen, tp + 1, 1, [], false⟩, ⟨none, 0, []⟩, 0) hO0 ⟨rfl, rfl, rfl, trivial⟩ (fun w1 h => h) ?_
  clear hO0
  rintro ⟨l, a, low⟩ hO
  dsimp only at hO ⊢
  have hok := hO.ok hgen (by omega) (by rw [← htp]; exact htl)
  have hle := hO.le
  have htt := hO.tt
  have hgn := hO.gn
  have hnx := hO.nx
  have hll := hO.ll
  have hlw := hO.lw
  have hfin : (at_' : Nat) → True := fun _ => trivial
  unfold WlC lgC
  repeat first
    | refine XC_region ?_
    | refine X_nil ?_
    | refine XC_seq ?_
    | refine XT_seq ?_
    | refine Y_res (r_move rfl) rfl ?_
    | refine Y_res (r_lss rfl rfl) rfl ?_
    | refine Y_res (r_field' rfl) rfl ?_
    | refine Y_res (r_nilCheck rfl) rfl ?_
    | refine Y_res (r_loadB rfl rfl) rfl ?_
  refine XC_condP rfl (fun hlt => ?_) (fun hge => ?_)
  · have hlt2 : l.at_ < to := by omega
    have hbds : ∀ i, l.at_ ≤ i → i < to → (rdS (nowAt p i)).body.length = 48 ∧ (rdS (nowAt p i)).op < 4294967296 := fun i _ hi => by
      obtain ⟨_, s2, _, _, _, s6⟩ := rdS_bd (nowAt_len hp (i := i) (by omega)) (nowAt_wf hp hwf (by omega))
      exact ⟨s6, s2⟩
    cases ht : takeP (nowAt p) to l.at_ gen l.nx low with
    | none =>
      repeat first
        | refine XC_region ?_
        | refine XC_seq ?_
        | refine XT_seq ?_
        | refine XC_block ?_
        | refine XC_skip ?_
        | refine Y_res (r_move rfl) rfl ?_
      refine X_call (g := 28) rfl rfl (fun w1 q1 => (take_any (gl := gl) (g := g) (l := l) (a := a) (pa := pa) (p := p) (es := es) low q1 hp hd hwf hok (by omega) (by omega) hlw).mono ?_)
      intro e w2 hh
      rw [htt, hgn, ht] at hh
      obtain ⟨rfl, q2⟩ := hh
      refine ⟨_, rfl, _, q2, ?_⟩
      clear q1 q2
      repeat first
        | refine XC_region ?_
        | refine X_nil ?_
        | refine XC_condT rfl ?_
        | refine XC_seq ?_
        | refine XT_seq ?_
        | refine XT_block_same rfl ?_
        | refine XT_block_other rfl ?_
        | refine XT_then_exit ?_
        | refine XC_exit ?_
        | refine XC_ret ?_
        | refine Y_res (r_move rfl) rfl ?_
        | refine Y_res (r_assign rfl) rfl ?_
        | refine Y_res (r_eql rfl rfl) rfl ?_
        | refine Y_res (r_extract rfl rfl) rfl ?_
      refine XT_ret2 (.inl rfl) Try.results11 rfl rfl (fun w' h => ⟨gl, a, rfl, ?_⟩)
      have hr := hO.rest
      rw [scan_none (fun _ => ht)] at hr
      have e : openP (nowAt p) from_ to gen = l := by
        obtain ⟨l1, l2, l3, l4, l5, l6, l7⟩ := l
        dsimp only at hr htt hgn
        have h4 := hO.op
        have h7 := hO.br
        dsimp only at h4 h7
        rw [openP, hr, htt, hgn, h4, h7]
        simp
      rw [e]
      exact ⟨h, hO.js⟩
    | some x =>
      obtain ⟨b, o⟩ := x
      obtain ⟨k1, k2, k3⟩ := take_fits ht hbds hlt2
      have hnd := needs_bd b.length
      have hrest := hO.rest
      rw [scan_some hlt2 ht] at hrest
      have e1 : (l.list ++ [b]).length = l.list.length + 1 := by simp
      have hO2 : ∀ B cb A' c', Opn p from_ to gen { l with at_ := l.at_ + needs b.length, nx := l.nx + 1, list := l.list ++ [b] } ⟨A', c', a.js ++ [itI .u8 B cb b]⟩ o := fun B cb A' c' =>
        ⟨⟨by dsimp only; omega, by dsimp only; omega⟩, htt, hgn, hO.op, by dsimp only; rw [e1, hnx], by dsimp only; rw [e1]; omega, hO.br, hO.js.snoc B cb b, by omega, by rw [hrest]; simp⟩
      repeat first
        | refine XC_region ?_
        | refine XC_seq ?_
        | refine XT_seq ?_
        | refine XC_block ?_
        | refine XC_skip ?_
        | refine Y_res (r_move rfl) rfl ?_
      refine X_call (g := 28) rfl rfl (fun w1 q1 => (take_any (gl := gl) (g := g) (l := l) (a := a) (pa := pa) (p := p) (es := es) low q1 hp hd hwf hok (by omega) (by omega) hlw).mono ?_)
      intro e w2 hh
      rw [htt, hgn, ht] at hh
      obtain ⟨A, c, rfl, q2⟩ := hh
      refine ⟨_, rfl, _, q2, ?_⟩
      clear q1 q2
      repeat first
        | refine XC_region ?_
        | refine X_nil ?_
        | refine XC_condF rfl ?_
        | refine XC_seq ?_
        | refine XT_seq ?_
        | refine XC_skip ?_
        | refine Y_res (r_move rfl) rfl ?_
        | refine Y_res (r_assign rfl) rfl ?_
        | refine Y_res (r_eql rfl rfl) rfl ?_
        | refine Y_res (r_neq rfl rfl) rfl ?_
        | refine Y_res (r_extract rfl rfl) rfl ?_
      unfold WlC
      refine XC_held 11 (Hp w0 TS [Ch.bagN [itI .u8 A c b], Ch.blk gl (lgC g l a) 59]) rfl drw_hp (fun _ h => Hp.sublist h (.cons_cons _ (.cons_cons _ (List.nil_sublist _)))) ?_
      unfold lgC
      refine TE_reads [0, 1, 2, 3, 4, 5] (by decide +kernel) (by decide +kernel) rfl ?_
      repeat first
        | refine Y_res (r_move rfl) rfl ?_
        | refine Y_res (r_field' rfl) rfl ?_
        | refine Y_res (r_nilCheck rfl) rfl ?_
        | refine Y_res (r_loadB rfl rfl) rfl ?_
      refine XQ_nodeE ?_
      refine TE_one 6 (by decide +kernel) rfl rfl ?_
      refine X_tells (g := 29) (E := 5) (k := .u8) (z := b) rfl rfl (fun w1 hM => clone_any b A c w1 (bagI_rd hM.head) (by omega)) ?_
      intro B cb y hy
      subst hy
      repeat first
        | refine X_nil ?_
        | refine XT_only ?_
      refine XT_nodeE (fun _ h => Hp.sublist h (.cons _ (.cons_cons _ (.cons_cons _ (List.nil_sublist _))))) ?_
      refine TE_one 7 (by decide +kernel) rfl rfl ?_
      refine X_buildV rfl rfl (fun u hu => by simp at hu; rw [hu]; rfl) rfl (by simp) rfl (fun g9 hg9 => ?_)
      repeat first
        | refine X_nil ?_
        | refine XT_only ?_
      refine XT_nodeE (fun _ h => Hp.sublist h (.cons _ (.cons _ (.cons_cons _ (.cons_cons _ (List.nil_sublist _)))))) ?_
      refine TE_one 8 (by decide +kernel) rfl rfl ?_
      refine X_appendV (s := 1) rfl rfl (fun w_ hM => rdv_blk (r := []) hM.head (List.append_nil _).symm rfl (Nat.le_refl 1) (by decide)) (fun u hu => by simp at hu; rw [hu]; rfl) rfl (by decide) rfl rfl (by omega) (by omega) rfl ?_
      intro A4 c4
      repeat first
        | refine X_nil ?_
        | refine XT_only ?_
      refine XT_nodeE (fun _ h => Hp.sublist h (.cons _ (.cons _ (.cons_cons _ (.cons_cons _ (List.nil_sublist _)))))) ?_
      refine TE_reads [9, 10] (by decide +kernel) (by decide +kernel) rfl ?_
      repeat first
        | refine Y_res (r_field' rfl) rfl ?_
        | refine Y_res (r_nilCheck rfl) rfl ?_
      refine XQ_nodeE ?_
      refine TE_tail 11 (by decide +kernel) rfl rfl ?_
      refine X_storeB (i := 6) rfl rfl rfl (by simp) ?_
      repeat first
        | refine X_nil ?_
        | refine XT_only ?_
      refine XT_nodeW (TN_end (by decide +kernel) ?_)
      repeat first
        | refine XC_hoist [1, 15] [0, 2, 3, 4, 5, 6, 7, 8, 9, 10, 11, 12, 13, 16, 17] [14] 18 (by kernel_rfl) (by decide +kernel) drw_hp rfl rfl rfl rfl ?_
        | refine X_nil ?_
        | refine XQ_nilH ?_
        | refine XQ_nilT ?_
        | refine XT_only ?_
        | refine XT_seq ?_
        | refine XT_block_normal ?_
        | refine Y_res (r_move rfl) rfl ?_
        | refine Y_res (r_assign rfl) rfl ?_
        | refine Y_res (r_add64 rfl rfl (by omega)) rfl ?_
        | refine Y_res (r_len rfl) rfl ?_
        | refine Y_res (r_field' rfl) rfl ?_
        | refine Y_res (r_nilCheck rfl) rfl ?_
        | refine Y_res (r_loadB rfl rfl) rfl ?_
        | refine X_storeB rfl rfl rfl (by simp) ?_
        | refine Y_says (g := 30) rfl rfl (fun w1 hM => needs_any y.length w1 (by omega)) ?_
      refine XT_round ({ l with at_ := l.at_ + needs y.length, nx := l.nx + 1, list := l.list ++ [y] }, ⟨A4, c4, a.js ++ [itI .u8 B cb y]⟩, o) (hO2 B cb A4 c4) (by dsimp only; omega) ⟨rfl, rfl, rfl, trivial⟩ (fun w1 h => ?_)
      dsimp only
      rw [e1]
      exact wl_add (Hp.sublist h (.cons _ (.cons_cons _ (.cons _ (List.Sublist.refl _)))))
  · repeat first
      | refine XC_region ?_
      | refine X_nil ?_
      | refine XC_seq ?_
      | refine XT_seq ?_
      | refine XT_block_same rfl ?_
      | refine XT_then_exit ?_
      | refine XC_exit ?_
      | refine XC_ret ?_
      | refine Y_res (r_move rfl) rfl ?_
      | refine Y_res (r_assign rfl) rfl ?_
    refine XT_ret2 (.inl rfl) Try.results11 rfl rfl (fun w' h => ⟨gl, a, rfl, ?_⟩)
    have hr := hO.rest
    rw [scan_none (S := nowAt p) (to := to) (gen := gen) (at_ := l.at_) (nx := l.nx) (low := low) (fun h => absurd h (by omega))] at hr
    have e : openP (nowAt p) from_ to gen = l := by
      obtain ⟨l1, l2, l3, l4, l5, l6, l7⟩ := l
      dsimp only at hr htt hgn
      have h4 := hO.op
      have h7 := hO.br
      dsimp only at h4 h7
      rw [openP, hr, htt, hgn, h4, h7]
      simp
    rw [e]
    exact ⟨h, hO.js⟩
end
end Go.Proofs.Ytgfpibojgkleiaa.NWl
