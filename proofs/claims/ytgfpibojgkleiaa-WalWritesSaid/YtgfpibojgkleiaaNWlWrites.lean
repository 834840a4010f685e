/- WalWrites, walked: true at every input. -/
import Derived.Test.YtgfpibojgkleiaaNWlR
import Derived.Test.YtgfpibojgkleiaaNWlSm
namespace Go.Proofs.Ytgfpibojgkleiaa.NWl
open Go Go.RowKit Go.Proofs.Ytgfpibojgkleiaa.MX Go.Proofs.Ytgfpibojgkleiaa.PWal Go.Proofs.Ytgfpibojgkleiaa.NPl Go.Proofs.Ytgfpibojgkleiaa.NSame
set_option linter.unusedVariables false
set_option linter.unusedSimpArgs false
set_option linter.unusedVariables false
/-- What is written of a log: these sectors, noughts behind. -/
structure Wn (size gen : Nat) (q : Pl) (l : Lg) (a : La) (W : List (List Int)) : Prop where
  go : Go1 q l a
  to : l.to = 3 + size
  gn : l.gen = gen
  on : l.op = 1
  nx : l.nx = 1 + l.list.length
  at_ : l.at_ = 3 + W.length
  wl : W.length ≤ size
  nl : l.list.length ≤ W.length
  ww : ∀ i x, W[i]? = some x → nowAt q (3 + i) = x
  ze : ∀ i, l.at_ ≤ i → i < 3 + size → nowAt q i = List.replicate 64 0
  pn : q.n = 128
theorem new_now {n i : Nat} (h : i < n) : nowAt (new0 n) i = List.replicate 64 0 := by
  show (List.replicate n (List.replicate 64 (0 : Int))).getD i [] = _
  rw [List.getD_eq_getElem?_getD, List.getElem?_replicate, if_pos h]
  rfl
theorem Wn.next {size gen : Nat} {q : Pl} {l : Lg} {a : La} {W : List (List Int)} (h : Wn size gen q l a W) (hs : size ≤ 120) (b : List Int) (hb : ∀ x ∈ b, 0 ≤ x ∧ x < 256) (hbl : b.length ≤ 6000) (hfit : W.length + needs b.length ≤ size) :
    ∃ q', appendL q l b = (q', { l with at_ := l.at_ + needs b.length, nx := l.nx + 1, list := l.list ++ [b] }, 0) ∧
      ∀ (a' : La), JOk .u8 a'.js (l.list ++ [b]) → Wn size gen q' { l with at_ := l.at_ + needs b.length, nx := l.nx + 1, list := l.list ++ [b] } a' (W ++ secsB gen 1 (l.list.length + 1) b) := by
  have h1 := h.at_
  have h2 := h.to
  have h3 := h.nl
  have h4 := h.nx
  have hnd := needs_bd b.length
  obtain ⟨q', k1, k2, k3, k4⟩ := h.go.next (a' := a) hb (by omega) (by omega) (by omega) (by omega)
  rw [h.gn, h.on, h4, Nat.add_comm 1] at k3
  have hsl := secsB_len gen 1 (l.list.length + 1) b
  refine ⟨q', k1, fun a' hj => ⟨k4 a' hj, h2, h.gn, h.on, by dsimp only; simp; omega, by dsimp only; rw [List.length_append, hsl]; omega, by rw [List.length_append, hsl]; exact hfit, by dsimp only; rw [List.length_append, List.length_append, List.length_singleton, hsl]; omega, fun i x hx => ?_, fun i hi1 hi2 => ?_, by rw [k2]; exact h.pn⟩⟩
  · rw [List.getElem?_append] at hx
    split at hx
    · rw [k3, if_neg (by omega)]
      exact h.ww i x hx
    · rename_i hni
      rw [secsB, List.getElem?_map] at hx
      rcases Nat.lt_or_ge (i - W.length) (needs b.length) with hlt | hge
      · rw [List.getElem?_range hlt] at hx
        obtain rfl := Option.some.inj hx
        rw [k3, if_pos (by omega), show 3 + i - l.at_ = i - W.length by omega]
      · rw [List.getElem?_eq_none (by rw [List.length_range]; exact hge)] at hx
        cases hx
  · dsimp only at hi1
    rw [k3, if_neg (by omega)]
    exact h.ze i (by omega) hi2
section
variable {gl g : Nat} {l : Lg} {a : La} {pa : Ad} {p : Pl} {w w0 : World} {TS : Nat → Prop} {es : List Ch} {x y s t : Ch}
theorem wr2_in (h : Hp w0 TS (x :: y :: WlC gl g l a (PlC g pa p es)) w) : Hp w0 TS (WlC gl g l a (PlC g pa p (x :: y :: es))) w := h.of_perm (pWin gl g l a g pa p [x, y] es)
theorem wr2_out (h : Hp w0 TS (WlC gl g l a (PlC g pa p (x :: y :: es))) w) : Hp w0 TS (x :: y :: WlC gl g l a (PlC g pa p es)) w := h.of_perm (pWin gl g l a g pa p [x, y] es).symm
theorem wr4_in {x y s t : Ch} (h : Hp w0 TS (x :: y :: s :: t :: WlC gl g l a (PlC g pa p es)) w) : Hp w0 TS (WlC gl g l a (PlC g pa p (x :: y :: s :: t :: es))) w := h.of_perm (pWin gl g l a g pa p [x, y, s, t] es)
theorem wr4_out {x y s t : Ch} (h : Hp w0 TS (WlC gl g l a (PlC g pa p (x :: y :: s :: t :: es))) w) : Hp w0 TS (x :: y :: s :: t :: WlC gl g l a (PlC g pa p es)) w := h.of_perm (pWin gl g l a g pa p [x, y, s, t] es).symm
theorem wr2_out2 (h : Hp w0 TS (s :: t :: PlC g pa p (WlC gl g l a (x :: y :: es))) w) : Hp w0 TS (s :: t :: x :: y :: WlC gl g l a (PlC g pa p es)) w :=
  h.of_perm (List.Perm.cons _ (List.Perm.cons _ (((plw gl g l a g pa p (x :: y :: es)).symm).trans (pWin gl g l a g pa p [x, y] es).symm)))
theorem bagNN {is js : List It} (h : Hp w0 TS (Ch.bagN is :: Ch.bagN js :: es) w) : Hp w0 TS (Ch.bagN (js ++ is) :: es) w := by
  obtain ⟨hs1, hs2⟩ := List.pairwise_cons.1 h.sep
  obtain ⟨hs3, hs4⟩ := List.pairwise_cons.1 hs2
  have hb := h.sat _ (List.mem_cons_of_mem _ (List.mem_cons_self ..))
  have hsub : ∀ k, (Ch.bagN (js ++ is)).fp k → (Ch.bagN is).fp k ∨ (Ch.bagN js).fp k := fun k ⟨it, hit, hv, a, ha, hb⟩ => by
    rcases List.mem_append.1 hit with hit | hit
    · exact .inr ⟨it, hit, hv, a, ha, hb⟩
    · exact .inl ⟨it, hit, hv, a, ha, hb⟩
  refine ⟨h.chg, fun x hx => ?_, fun x hx k hk => ?_, .cons (fun x hx k hk hxk => ?_) hs4⟩
  · rcases List.mem_cons.1 hx with rfl | hx
    · intro it hit
      rcases List.mem_append.1 hit with hit | hit
      · exact hb it hit
      · exact h.head it hit
    · exact h.sat x (List.mem_cons_of_mem _ (List.mem_cons_of_mem _ hx))
  · rcases List.mem_cons.1 hx with rfl | hx
    · rcases hsub k hk with h1 | h1
      · exact h.own _ (List.mem_cons_self ..) k h1
      · exact h.own _ (List.mem_cons_of_mem _ (List.mem_cons_self ..)) k h1
    · exact h.own x (List.mem_cons_of_mem _ (List.mem_cons_of_mem _ hx)) k hk
  · rcases hsub k hk with h1 | h1
    · exact hs1 x (List.mem_cons_of_mem _ hx) k h1 hxk
    · exact hs3 x hx k h1 hxk
theorem joK_app {k : IntKind} {js js2 : List It} {L L2 : List (List Int)} (h : JOk k js L) (h2 : JOk k js2 L2) : JOk k (js ++ js2) (L ++ L2) := ⟨by simp [h.ln, h2.ln], fun i x hx => by
  rw [List.getElem?_append] at hx ⊢
  rw [h.ln]
  split at hx
  · rename_i hi
    rw [if_pos hi]
    exact h.at_ i x hx
  · rename_i hi
    rw [if_neg hi]
    exact h2.at_ _ x hx⟩
end
section
variable {P : Program} {n : Nat} {R : Regs} {ty T : TypeId} {M : World → Prop} {x : Operand} {A : Option Addr} {l : Nat} {vs : List Value} {v : Value}
theorem r_loadG [hA : IsAgg P T false] {i c s : Nat} (hx : R.ev x = some (.pointer (some ((adOf A).add i)))) (hr : ∀ w, M w → RdV w A c s l vs) (hi : vs[i]? = some v) : Res P n (.load T x) ty R M v := r_load hx (fun w hM => (hr w hM).at_ i v hi)
end
set_option maxRecDepth 100000 in
set_option maxHeartbeats 8000000 in
theorem writes_law (m gen : Int) (l : List ByD) (A : Option Addr) (c : Nat) (w : World) (hm : (Lit.int .i64 m).wf = true) (hg : (Lit.int .i64 gen).wf = true) (h : shLL.has w [.slice A l.length c] (A, c, l)) :
    Calls Try.prog 5 #[.int .i64 m, .int .i64 gen, .slice A l.length c] w fun e w' => e = .returned (.bool true) ∧ Chg (fun _ => False) w w' := by
  have hm64 := wf64 hm
  have hg64 := wf64 hg
  obtain ⟨hL, hxl, hxw⟩ := lls_at h
  have hle : l.length = (lss l).length := (List.length_map ..).symm
  rw [hle]
  clear h hle
  generalize lss l = L at *
  clear l
  have hLl := hL.le
  have hLc := hL.cap
  refine calls_of_X (Rr := Says w (.bool true)) (vs := [_, _, _]) (M := Hp w (fun _ => False) []) Try.func5 rfl Try.ntmps5 rfl (Hp.nil _ _) ?_
  repeat first
    | refine XC_region ?_
    | refine X_nil ?_
    | refine XC_condF rfl ?_
    | refine XC_seq ?_
    | refine XT_seq ?_
    | refine XC_skip ?_
    | refine Y_res (r_move rfl) rfl ?_
    | refine Y_res (r_assign rfl) rfl ?_
    | refine Y_res (r_lss rfl rfl) rfl ?_
    | refine Y_res (r_notB rfl) rfl ?_
    | refine Y_says (g := 9) rfl rfl (fun w1 hM => anchor_any w1) ?_
  refine Y_split rfl rfl (fun h1 => ?_) (fun h1 => ?_)
  · repeat first
      | refine XC_region ?_
      | refine X_nil ?_
      | refine XC_condT rfl ?_
      | refine XC_seq ?_
      | refine XT_seq ?_
      | refine XT_then_ret ?_
      | refine XC_ret ?_
      | refine Y_res (r_move rfl) rfl ?_
      | refine Y_res (r_assign rfl) rfl ?_
      | refine Y_off rfl rfl rfl ?_
      | refine Y_res (r_pickT rfl rfl) rfl ?_
    exact XT_says (.inl rfl) Try.results5 rfl rfl
  repeat first
    | refine Y_res (r_move rfl) rfl ?_
    | refine Y_res (r_gtr rfl rfl) rfl ?_
    | refine Y_on rfl rfl ?_
    | refine Y_res (r_pickF rfl rfl) rfl ?_
  refine Y_split rfl rfl (fun h2 => ?_) (fun h2 => ?_)
  · repeat first
      | refine XC_region ?_
      | refine X_nil ?_
      | refine XC_condT rfl ?_
      | refine XC_seq ?_
      | refine XT_seq ?_
      | refine XT_then_ret ?_
      | refine XC_ret ?_
      | refine Y_res (r_move rfl) rfl ?_
      | refine Y_res (r_assign rfl) rfl ?_
      | refine Y_off rfl rfl rfl ?_
      | refine Y_res (r_pickT rfl rfl) rfl ?_
    exact XT_says (.inl rfl) Try.results5 rfl rfl
  repeat first
    | refine Y_res (r_move rfl) rfl ?_
    | refine Y_res (r_lss rfl rfl) rfl ?_
    | refine Y_on rfl rfl ?_
    | refine Y_res (r_pickF rfl rfl) rfl ?_
  refine Y_split rfl rfl (fun h3 => ?_) (fun h3 => ?_)
  · repeat first
      | refine XC_region ?_
      | refine X_nil ?_
      | refine XC_condT rfl ?_
      | refine XC_seq ?_
      | refine XT_seq ?_
      | refine XT_then_ret ?_
      | refine XC_ret ?_
      | refine Y_res (r_move rfl) rfl ?_
      | refine Y_res (r_assign rfl) rfl ?_
      | refine Y_off rfl rfl rfl ?_
      | refine Y_res (r_pickT rfl rfl) rfl ?_
    exact XT_says (.inl rfl) Try.results5 rfl rfl
  repeat first
    | refine Y_res (r_move rfl) rfl ?_
    | refine Y_res (r_geq rfl rfl) rfl ?_
    | refine Y_on rfl rfl ?_
    | refine Y_res (r_pickF rfl rfl) rfl ?_
  refine Y_split rfl rfl (fun h4 => ?_) (fun h4 => ?_)
  · repeat first
      | refine XC_region ?_
      | refine X_nil ?_
      | refine XC_condT rfl ?_
      | refine XC_seq ?_
      | refine XT_seq ?_
      | refine XT_then_ret ?_
      | refine XC_ret ?_
      | refine Y_res (r_assign rfl) rfl ?_
      | refine Y_off rfl rfl rfl ?_
      | refine Y_res (r_pickT rfl rfl) rfl ?_
    exact XT_says (.inl rfl) Try.results5 rfl rfl
  repeat first
    | refine X_nil ?_
    | refine XT_seq ?_
    | refine Y_res (r_move rfl) rfl ?_
    | refine Y_res (r_gtr rfl rfl) rfl ?_
    | refine Y_on rfl rfl ?_
    | refine Y_res (r_len rfl) rfl ?_
    | refine Y_res (r_pickF rfl rfl) rfl ?_
  refine XC_condP rfl (fun h5 => ?_) (fun h5 => ?_)
  · repeat first
      | refine XC_region ?_
      | refine X_nil ?_
      | refine XC_seq ?_
      | refine XT_seq ?_
      | refine XT_then_ret ?_
      | refine XC_ret ?_
      | refine Y_res (r_assign rfl) rfl ?_
    exact XT_says (.inl rfl) Try.results5 rfl rfl
  obtain ⟨size, rfl⟩ : ∃ q : Nat, m = q := ⟨m.toNat, by omega⟩
  obtain ⟨gen, rfl⟩ : ∃ q : Nat, gen = q := ⟨gen.toNat, by omega⟩
  have hs1 : 1 ≤ size := by omega
  have hs120 : size ≤ 120 := by omega
  have hgen : 1 ≤ gen ∧ gen < 2147483648 := by omega
  have hl40 : L.length ≤ 40 := by omega
  repeat first
    | refine XC_region ?_
    | refine XC_seq ?_
    | refine XT_seq ?_
    | refine XC_skip ?_
  refine X_call (g := 10) rfl rfl (fun w1 q1 => (new_es 128 q1 (by decide) (by decide)).mono ?_)
  rintro e w2 ⟨g, pa, rfl, q2⟩
  refine ⟨_, rfl, _, q2, ?_⟩
  clear q1 q2
  have hu := upp_new (n := 128) (by decide) (by decide)
  have hgn : ∀ i, (rdS (nowAt (new0 128) i)).gen ≠ gen := fun i => new_gen hgen.1
  have hz0 : ∀ i, i < 128 → nowAt (new0 128) i = List.replicate 64 0 := fun i hi => new_now hi
  have hn8 : (new0 128).n = 128 := rfl
  generalize new0 128 = p at *
  repeat first
    | refine XC_region ?_
    | refine X_nil ?_
    | refine XC_condF rfl ?_
    | refine XC_seq ?_
    | refine XT_seq ?_
    | refine XC_skip ?_
    | refine Y_res (r_move rfl) rfl ?_
    | refine Y_res (r_assign rfl) rfl ?_
    | refine Y_res (r_add64 rfl rfl (by omega)) rfl ?_
    | refine Y_res (r_eqlNil rfl rfl) rfl ?_
  refine X_call (g := 11) rfl rfl (fun w1 q1 => (open_any 3 (3 + size) gen q1 hu.ok hu.dn hu.wf (by omega) (by omega) hgen).mono ?_)
  rintro e w2 ⟨gl, a, rfl, q2, hj⟩
  have eo : openP (nowAt p) 3 (3 + size) gen = ⟨3, 3 + size, gen, 1, 1, [], false⟩ := open_none (fun i _ _ => hgn i) (by omega)
  rw [eo] at q2 hj
  refine ⟨_, rfl, _, q2, ?_⟩
  clear q1 q2 eo hgn
  have hS : Wn size gen p ⟨3, 3 + size, gen, 1, 1, [], false⟩ a [] := ⟨⟨hu, ⟨by dsimp only; omega, by dsimp only; omega, hgen, (show (1 : Nat) ≤ 4294967296 by decide), (show (1 : Nat) ≤ 100000 by decide), (show (0 : Nat) ≤ 100000 by decide)⟩, (show (1 : Nat) < 4294967296 by decide), rfl, by dsimp only; omega, hj⟩, rfl, rfl, rfl, rfl, rfl, Nat.zero_le _, Nat.zero_le _, fun i x hx => by simp at hx, fun i h1 h2 => hz0 i (by omega), hn8⟩
  obtain ⟨l0, hl0⟩ : ∃ l0 : Lg, l0 = ⟨3, 3 + size, gen, 1, 1, [], false⟩ := ⟨_, rfl⟩
  rw [← hl0] at hS ⊢
  have hl0n : l0.list.length = 0 := by rw [hl0]; rfl
  clear hl0 hj hu hz0 hn8
  repeat first
    | refine XC_region ?_
    | refine X_nil ?_
    | refine XC_condF rfl ?_
    | refine XC_seq ?_
    | refine XT_seq ?_
    | refine XC_block ?_
    | refine XC_skip ?_
    | refine Y_res (r_move rfl) rfl ?_
    | refine Y_res (r_assign rfl) rfl ?_
    | refine Y_res (r_neq rfl rfl) rfl ?_
    | refine Y_res (r_eqlNil rfl rfl) rfl ?_
    | refine Y_on rfl rfl ?_
    | refine Y_res (r_len rfl) rfl ?_
    | refine Y_res (r_extract rfl rfl) rfl ?_
    | refine Y_res (r_pickF rfl rfl) rfl ?_
  refine XC_loop (ι := Nat × (Ad × Pl) × (Lg × La) × (Option Addr × Nat) × List (List Int) × List It) (fun j => j.1 ≤ L.length ∧ Wn size gen j.2.1.2 j.2.2.1.1 j.2.2.1.2 j.2.2.2.2.1 ∧ JOk .u8 j.2.2.2.2.2 j.2.2.2.2.1 ∧ ∀ x ∈ j.2.2.1.1.list, x.length ≤ 6000)
    (fun j => [(0, .int .i64 size), (1, .int .i64 gen), (7, .pointer (some ⟨g, 0, none⟩)), (8, .pointer (some ⟨gl, 0, none⟩)), (10, .slice j.2.2.2.1.1 j.2.2.2.2.1.length j.2.2.2.1.2), (11, .int .i64 j.2.2.1.1.list.length), (59, .slice A L.length c), (60, .int .i64 L.length), (61, .int .i64 j.1)])
    (fun j => Hp w (fun _ => False) (Ch.sv j.2.2.2.1.1 j.2.2.2.1.2 30 1 j.2.2.2.2.1.length (j.2.2.2.2.2.map It.val) :: Ch.bagN j.2.2.2.2.2 :: WlC gl g j.2.2.1.1 j.2.2.1.2 (PlC g j.2.1.1 j.2.1.2 []))) (fun j => L.length - j.1) (0, (pa, p), (l0, a), (none, 0), [], []) ⟨Nat.zero_le _, hS, JOk.nil _, fun x hx => by dsimp only at hx; rw [List.eq_nil_of_length_eq_zero hl0n] at hx; cases hx⟩ ⟨rfl, rfl, rfl, rfl, rfl, by dsimp only; rw [hl0n]; rfl, rfl, rfl, rfl, trivial⟩ (fun _ h => h.bagN0.nilV _ _) ?_
  clear hS hl0n
  rintro ⟨k, ⟨pc, q⟩, ⟨l1, a1⟩, ⟨Aw, cw⟩, W, js⟩ ⟨hk, hS, hjs, hx6000⟩
  dsimp only at hk hS hjs hx6000 ⊢
  have hwl := hS.wl
  have hnl := hS.nl
  have hat := hS.at_
  have hto := hS.to
  repeat first
    | refine XC_region ?_
    | refine X_nil ?_
    | refine XC_seq ?_
    | refine XT_seq ?_
    | refine Y_res (r_lss rfl rfl) rfl ?_
  refine XC_condP rfl (fun hlt2 => ?_) (fun hge2 => ?_)
  · have hk2 : k < L.length := by omega
    have hLA := hL.some (by omega)
    obtain ⟨b, hb⟩ : ∃ b, L[k]? = some b := ⟨L[k], List.getElem?_eq_getElem hk2⟩
    obtain ⟨B, d, hcell2, hrd⟩ := hL.at_ k b hb
    have hbm := List.mem_of_getElem? hb
    have hb8 : ∀ x ∈ b, 0 ≤ x ∧ x < 256 := fun x hx => wf8 (hxw b hbm x hx)
    have hbl0 := hxl b hbm
    repeat first
      | refine XC_region ?_
      | refine X_nil ?_
      | refine XC_seq ?_
      | refine XT_seq ?_
      | refine XC_block ?_
      | refine XC_skip ?_
      | refine Y_res (r_move rfl) rfl ?_
      | refine Y_res (r_assign rfl) rfl ?_
      | refine Y_res (r_gtr rfl rfl) rfl ?_
      | refine Y_res (r_len rfl) rfl ?_
      | refine Y_res (r_indexO rfl rfl hk2 hLA) rfl ?_
      | refine Y_res (r_loadO rfl hcell2 (fun h => h)) rfl ?_
    refine XC_condP rfl (fun h5 => ?_) (fun h5 => ?_)
    · repeat first
        | refine XC_region ?_
        | refine X_nil ?_
        | refine XC_seq ?_
        | refine XT_seq ?_
        | refine XT_block_ret ?_
        | refine XT_then_ret ?_
        | refine XC_ret ?_
        | refine Y_res (r_assign rfl) rfl ?_
      exact XT_says (.inl rfl) Try.results5 rfl rfl
    have hbl : b.length ≤ 6000 := by omega
    have hnd := needs_bd b.length
    repeat first
      | refine XC_region ?_
      | refine XC_seq ?_
      | refine XT_seq ?_
      | refine XC_skip ?_
      | refine Y_res (r_move rfl) rfl ?_
      | refine Y_res (r_add64 rfl rfl (by omega)) rfl ?_
    refine X_call (g := 16) rfl rfl (fun w1 q1 => (rsect_any b B d gen 1 (l1.list.length + 1) w1 (hrd.old q1 old_false) (by omega) (by omega) (by decide) (by omega)).mono ?_)
    rintro e w2 ⟨As, cs, js2, rfl, hj2, q2⟩
    refine ⟨_, rfl, _, q1.frame0 q2, ?_⟩
    clear q1 q2
    have hsl := secsB_len gen 1 (l1.list.length + 1) b
    have hjl := hjs.ln
    repeat first
      | refine XC_region ?_
      | refine X_nil ?_
      | refine XC_seq ?_
      | refine XT_seq ?_
      | refine Y_res (r_move rfl) rfl ?_
      | refine Y_res (r_assign rfl) rfl ?_
    refine X_call (g := 12) rfl rfl (fun w1 q1 => (append_any (gl := gl) (g := g) (l := l1) (a := a1) (pa := pc) (p := q) b B d (wr4_in q1) hS.go.up.ok hS.go.ok hS.go.op (by omega) hS.go.ll (fun cs w1 h1 => hrd.old h1 old_false) hS.go.js).mono ?_)
    rintro e w2 ⟨a2, pd, rfl, q2, hjl2⟩
    by_cases hfit : W.length + needs b.length ≤ size
    · obtain ⟨q', k1, k2⟩ := hS.next hs120 b hb8 hbl hfit
      rw [k1] at q2 hjl2 ⊢
      refine ⟨_, rfl, _, wr4_out q2, ?_⟩
      clear q1 q2
      have hS2 := k2 a2 hjl2
      repeat first
        | refine XC_region ?_
        | refine X_nil ?_
        | refine XC_seq ?_
        | refine XT_seq ?_
        | refine Y_res (r_move rfl) rfl ?_
        | refine Y_res (r_assign rfl) rfl ?_
        | refine Y_res (r_add64 rfl rfl (by omega)) rfl ?_
        | refine Y_res (r_gtr rfl rfl) rfl ?_
        | refine Y_res (r_len rfl) rfl ?_
      refine XC_condP rfl (fun hx => absurd hx (by omega)) (fun _ => ?_)
      repeat first
        | refine XC_region ?_
        | refine X_nil ?_
        | refine XC_condF rfl ?_
        | refine XC_seq ?_
        | refine XT_seq ?_
        | refine XC_skip ?_
        | refine Y_res (r_move rfl) rfl ?_
        | refine Y_res (r_assign rfl) rfl ?_
        | refine Y_res (r_add64 rfl rfl (by omega)) rfl ?_
        | refine Y_res (r_neq rfl rfl) rfl ?_
      refine X_appendV (s := 1) (ys := js2.map It.val) (l2 := needs b.length) rfl rfl (fun w_ hM => rdv_sv hM.head) (fun u hu => by rw [List.mem_map] at hu; obtain ⟨it, _, rfl⟩ := hu; rfl) rfl (by decide) rfl rfl (by omega) (by omega) rfl ?_
      intro A4 c4
      repeat first
        | refine XC_region ?_
        | refine X_nil ?_
        | refine XT_seq ?_
        | refine XT_block_normal ?_
        | refine Y_res (r_move rfl) rfl ?_
        | refine Y_res (r_assign rfl) rfl ?_
        | refine Y_res (r_add64 rfl rfl (by omega)) rfl ?_
      refine XT_re (e := 10) (v' := .slice A4 (W ++ secsB gen 1 (l1.list.length + 1) b).length c4) rfl (by rw [List.length_append, hsl]) ?_
      refine XT_re (e := 11) (v' := .int .i64 (((l1.list ++ [b]).length : Nat) : Int)) rfl (by congr 1; simp) ?_
      refine XT_round (k + 1, (pd, q'), ({ l1 with at_ := l1.at_ + needs b.length, nx := l1.nx + 1, list := l1.list ++ [b] }, a2), (A4, c4), W ++ secsB gen 1 (l1.list.length + 1) b, js ++ js2) ⟨by dsimp only; omega, hS2, joK_app hjs hj2, fun x hx => ?_⟩ (by dsimp only; omega) ⟨rfl, rfl, rfl, rfl, rfl, rfl, rfl, rfl, rfl, trivial⟩ (fun _ h => ?_)
      · have hx : x ∈ l1.list ++ [b] := hx
        rw [List.mem_append, List.mem_singleton] at hx
        rcases hx with hx | rfl
        · exact hx6000 x hx
        · exact hbl
      · dsimp only
        rw [List.length_append, hsl, List.map_append]
        exact (bagNN (h.tail.of_perm (List.Perm.cons _ (List.Perm.swap _ _ _)))).swap
    · have hle1 := hS.go.ok.le
      have hff := append_full (p := q) (l := l1) (b := b) hS.go.br (by omega) (by omega)
      rw [hff] at q2 hjl2 ⊢
      refine ⟨_, rfl, _, wr4_out q2, ?_⟩
      clear q1 q2
      have hS2 : Wn size gen q l1 a2 W := ⟨⟨hS.go.up, hS.go.ok, hS.go.op, hS.go.br, hS.go.tn, hjl2⟩, hS.to, hS.gn, hS.on, hS.nx, hS.at_, hS.wl, hS.nl, hS.ww, hS.ze, hS.pn⟩
      repeat first
        | refine XC_region ?_
        | refine X_nil ?_
        | refine XC_seq ?_
        | refine XT_seq ?_
        | refine Y_res (r_move rfl) rfl ?_
        | refine Y_res (r_assign rfl) rfl ?_
        | refine Y_res (r_add64 rfl rfl (by omega)) rfl ?_
        | refine Y_res (r_gtr rfl rfl) rfl ?_
        | refine Y_res (r_len rfl) rfl ?_
      refine XC_condP rfl (fun _ => ?_) (fun hx => absurd (by omega) hx)
      repeat first
        | refine XC_region ?_
        | refine X_nil ?_
        | refine XC_condF rfl ?_
        | refine XC_seq ?_
        | refine XT_seq ?_
        | refine XT_block_same rfl ?_
        | refine XT_then_exit ?_
        | refine XC_skip ?_
        | refine XC_exit ?_
        | refine Y_res (r_move rfl) rfl ?_
        | refine Y_res (r_add64 rfl rfl (by omega)) rfl ?_
        | refine Y_res (r_neq rfl rfl) rfl ?_
      exact XT_round (k + 1, (pd, q), (l1, a2), (Aw, cw), W, js) ⟨by dsimp only; omega, hS2, hjs, hx6000⟩ (by dsimp only; omega) ⟨rfl, rfl, rfl, rfl, rfl, rfl, rfl, rfl, rfl, trivial⟩ (fun _ h => h.tail.tail)
  · repeat first
      | refine XC_region ?_
      | refine XC_seq ?_
      | refine XT_seq ?_
      | refine XT_block_same rfl ?_
      | refine XT_then_exit ?_
      | refine XC_exit ?_
      | refine Y_res (r_move rfl) rfl ?_
      | refine Y_res (r_add64 rfl rfl (by omega)) rfl ?_
    refine X_call (g := 17) rfl rfl (fun w1 q1 => (lsect_any 3 size (wl_pl (wr2_in q1)) hS.go.up.ok hS.go.up.dn (by rw [hS.pn]; omega)).mono ?_)
    rintro e w2 ⟨A5, c5, js5, rfl, hj5, q2⟩
    refine ⟨_, rfl, _, wr2_out2 q2, ?_⟩
    clear q1 q2
    repeat first
      | refine XC_region ?_
      | refine X_nil ?_
      | refine XC_seq ?_
      | refine XT_seq ?_
      | refine XC_block ?_
      | refine Y_res (r_move rfl) rfl ?_
      | refine Y_res (r_assign rfl) rfl ?_
      | refine Y_res (r_len rfl) rfl ?_
    refine XC_open (ι := Unit) (fun _ => size ≤ c5 ∧ (W.length < c5 → cutA A5 W.length c5 1 = some (adOf (cutA A5 W.length c5 1)))) (fun _ => Hp w (fun _ => False) (Ch.sv A5 c5 30 1 size (js5.map It.val) :: Ch.bagN js5 :: Ch.sv Aw cw 30 1 W.length (js.map It.val) :: Ch.bagN js :: WlC gl g l1 a1 (PlC g pc q []))) (fun w1 h => ⟨(), ⟨(rdv_sv h.head).le, fun hlt => ((rdv_sv h.head).cut W.length size hwl (Nat.le_refl _)).some (by omega)⟩, h⟩) ?_
    rintro _ ⟨hc5, hA5⟩
    have hjl5 := hj5.ln
    rw [List.length_map, List.length_range] at hjl5
    refine XC_loop (ι := Nat) (fun i => i ≤ W.length) (fun i => [(7, .pointer (some ⟨g, 0, none⟩)), (8, .pointer (some ⟨gl, 0, none⟩)), (10, .slice Aw W.length cw), (11, .int .i64 l1.list.length), (16, .slice A5 size c5), (97, .slice Aw W.length cw), (98, .int .i64 W.length), (99, .int .i64 i)])
      (fun _ => Hp w (fun _ => False) (Ch.sv A5 c5 30 1 size (js5.map It.val) :: Ch.bagN js5 :: Ch.sv Aw cw 30 1 W.length (js.map It.val) :: Ch.bagN js :: WlC gl g l1 a1 (PlC g pc q []))) (fun i => W.length - i) 0 (Nat.zero_le _) ⟨rfl, rfl, rfl, rfl, rfl, rfl, rfl, rfl, trivial⟩ (fun _ h => h) ?_
    intro i hi
    repeat first
      | refine XC_region ?_
      | refine X_nil ?_
      | refine XC_seq ?_
      | refine XT_seq ?_
      | refine Y_res (r_lss rfl rfl) rfl ?_
    refine XC_condP rfl (fun hlt3 => ?_) (fun hge3 => ?_)
    · have hi2 : i < W.length := by omega
      have hi5 : i < size := by omega
      obtain ⟨x, hx⟩ : ∃ x, W[i]? = some x := ⟨W[i], List.getElem?_eq_getElem hi2⟩
      obtain ⟨B1, d1, hB1⟩ := hjs.at_ i x hx
      obtain ⟨B2, d2, hB2⟩ := hj5.at_ i x (by rw [List.getElem?_map, List.getElem?_range hi5]; exact congrArg some (hS.ww i x hx))
      have hv1 : (js.map It.val)[i]? = some (.slice B1 x.length d1) := by rw [List.getElem?_map, hB1]; rfl
      have hv2 : (js5.map It.val)[i]? = some (.slice B2 x.length d2) := by rw [List.getElem?_map, hB2]; rfl
      repeat first
        | refine XC_region ?_
        | refine X_nil ?_
        | refine XC_seq ?_
        | refine XT_seq ?_
        | refine XC_block ?_
        | refine XC_skip ?_
        | refine Y_res (r_move rfl) rfl ?_
        | refine Y_res (r_assign rfl) rfl ?_
        | refine Y_res (r_geq rfl rfl) rfl ?_
        | refine Y_on rfl rfl ?_
        | refine Y_res (r_len rfl) rfl ?_
        | refine Y_res (r_indexV0 (i := i) rfl rfl hi2 (Nat.le_refl _)) rfl ?_
        | refine Y_res (r_indexV0 (i := i) rfl rfl hi5 (Nat.le_refl _)) rfl ?_
        | refine Y_res (r_loadV (i := i) rfl hv1) rfl ?_
        | refine Y_res (r_loadV (i := i) rfl hv2) rfl ?_
        | refine Y_splitF rfl rfl (by omega) ?_
      refine Y_says (g := 15) rfl rfl (fun w1 hM => NSame.same_any x x _ _ _ _ w1 (RdV.toS (bagN_rd (it := itI .u8 B2 d2 x) hM.tail.head (List.mem_of_getElem? hB2))) (RdV.toS (bagN_rd (it := itI .u8 B1 d1 x) hM.tail.tail.tail.head (List.mem_of_getElem? hB1)))) ?_
      rw [decide_eq_true (rfl : x = x)]
      repeat first
        | refine XC_region ?_
        | refine X_nil ?_
        | refine XC_condF rfl ?_
        | refine XT_seq ?_
        | refine XT_block_normal ?_
        | refine XC_skip ?_
        | refine Y_res (r_move rfl) rfl ?_
        | refine Y_res (r_add64 rfl rfl (by omega)) rfl ?_
        | refine Y_on rfl rfl ?_
        | refine Y_res (r_notB rfl) rfl ?_
        | refine Y_res (r_pickF rfl rfl) rfl ?_
      exact XT_round (i + 1) (by omega) (by omega) ⟨rfl, rfl, rfl, rfl, rfl, rfl, rfl, rfl, trivial⟩ (fun _ h => h)
    clear hi
    repeat first
      | refine XC_region ?_
      | refine X_nil ?_
      | refine XC_seq ?_
      | refine XT_seq ?_
      | refine XC_block ?_
      | refine XT_block_same rfl ?_
      | refine XT_then_exit ?_
      | refine XC_exit ?_
      | refine Y_res (r_move rfl) rfl ?_
      | refine Y_res (r_len rfl) rfl ?_
      | refine Y_res (r_cutL rfl rfl (by omega)) rfl ?_
    refine XC_loop (ι := Nat) (fun i => i ≤ size - W.length) (fun i => [(7, .pointer (some ⟨g, 0, none⟩)), (8, .pointer (some ⟨gl, 0, none⟩)), (11, .int .i64 l1.list.length), (121, .slice (cutA A5 W.length c5 1) (size - W.length) (c5 - W.length)), (122, .int .i64 ((size - W.length : Nat) : Int)), (123, .int .i64 i)])
      (fun _ => Hp w (fun _ => False) (Ch.sv A5 c5 30 1 size (js5.map It.val) :: Ch.bagN js5 :: Ch.sv Aw cw 30 1 W.length (js.map It.val) :: Ch.bagN js :: WlC gl g l1 a1 (PlC g pc q []))) (fun i => size - W.length - i) 0 (Nat.zero_le _) ⟨rfl, rfl, rfl, rfl, rfl, rfl, trivial⟩ (fun _ h => h) ?_
    intro i hi
    repeat first
      | refine XC_region ?_
      | refine X_nil ?_
      | refine XC_seq ?_
      | refine XT_seq ?_
      | refine Y_res (r_lss rfl rfl) rfl ?_
    refine XC_condP rfl (fun hlt3 => ?_) (fun hge3 => ?_)
    · have hi2 : i < size - W.length := by omega
      have hAc := hA5 (by omega)
      obtain ⟨B3, d3, hB3⟩ := hj5.at_ (W.length + i) (List.replicate 64 0) (by rw [List.getElem?_map, List.getElem?_range (by omega)]; exact congrArg some (hS.ze _ (by omega) (by omega)))
      have hv3 : (((js5.map It.val).take size).drop W.length)[i]? = some (.slice B3 64 d3) := by
        rw [List.getElem?_drop, List.getElem?_take_of_lt (by omega), List.getElem?_map, hB3]
        rfl
      repeat first
        | refine XC_region ?_
        | refine X_nil ?_
        | refine XC_seq ?_
        | refine XT_seq ?_
        | refine XC_block ?_
        | refine XC_skip ?_
        | refine Y_res (r_move rfl) rfl ?_
        | refine Y_res (r_assign rfl) rfl ?_
        | (refine X_make rfl rfl (by omega) (by omega) (by omega) rfl ?_; intro _ _)
        | refine Y_res (r_indexO rfl rfl hi2 hAc) rfl ?_
        | refine Y_res (r_loadG (i := i) rfl (fun w1 hM => (rdv_sv hM.head).cut W.length size hwl (Nat.le_refl _)) hv3) rfl ?_
      refine Y_says (g := 15) (v := .bool true) rfl rfl (fun w1 hM => by
        have := NSame.same_any (List.replicate 64 0) (List.replicate 64 0) _ _ _ _ w1 (RdV.toS (bagN_rd (it := itI .u8 B3 d3 (List.replicate 64 0)) hM.tail.tail.head (List.mem_of_getElem? hB3))) (rds_sl hM.head)
        rwa [decide_eq_true rfl] at this) ?_
      repeat first
        | refine XC_region ?_
        | refine X_nil ?_
        | refine XC_condF rfl ?_
        | refine XT_seq ?_
        | refine XT_block_normal ?_
        | refine XC_skip ?_
        | refine Y_res (r_move rfl) rfl ?_
        | refine Y_res (r_add64 rfl rfl (by omega)) rfl ?_
        | refine Y_res (r_notB rfl) rfl ?_
      exact XT_round (i + 1) (by omega) (by omega) ⟨rfl, rfl, rfl, rfl, rfl, rfl, trivial⟩ (fun _ h => h.tail)
    repeat first
      | refine XC_region ?_
      | refine XC_seq ?_
      | refine XT_seq ?_
      | refine XT_block_same rfl ?_
      | refine XT_then_exit ?_
      | refine XC_exit ?_
      | refine Y_res (r_move rfl) rfl ?_
    refine X_call (g := 18) rfl rfl (fun w1 q3 => (loose_any (wl_pl q3.tail.tail.tail.tail)).mono ?_)
    rintro e w2 ⟨rfl, q4⟩
    rw [hS.go.up.ls]
    refine ⟨_, rfl, _, pl_wl q4, ?_⟩
    clear q3 q4
    repeat first
      | refine Y_res (r_move rfl) rfl ?_
      | refine Y_res (r_eql rfl rfl) rfl ?_
      | refine Y_on rfl rfl ?_
    refine X_call (g := 14) rfl rfl (fun w1 q1 => (records_any q1 hS.go.ok hS.go.js (fun x hx => Nat.le_trans (hx6000 x hx) (by decide))).mono ?_)
    rintro e w2 ⟨A6, c6, js6, rfl, hj6, q2⟩
    refine ⟨_, rfl, _, q2, ?_⟩
    clear q1 q2
    repeat first
      | refine X_nil ?_
      | refine XT_seq ?_
      | refine XC_ret ?_
      | refine Y_res (r_move rfl) rfl ?_
      | refine Y_res (r_assign rfl) rfl ?_
      | refine Y_res (r_eql rfl rfl) rfl ?_
      | refine Y_on rfl rfl ?_
      | refine Y_res (r_len rfl) rfl ?_
      | refine Y_res (r_pickT rfl rfl) rfl ?_
    exact XT_says (.inl rfl) Try.results5 rfl (by simp)
end Go.Proofs.Ytgfpibojgkleiaa.NWl
