/- A path, verified: walked. -/
import Derived.Test.YtgnhpkdhicfeiaaDoorNMkA
namespace Go.Proofs.YtgnhpkdhicfeiaaDoor.NMk
open Go Go.RowKit Go.Proofs.YtgnhpkdhicfeiaaDoor.MX Go.Proofs.YtgnhpkdhicfeiaaDoor.PSha Go.Proofs.YtgnhpkdhicfeiaaDoor.NSha Go.Proofs.YtgnhpkdhicfeiaaDoor.PMerkle
set_option linter.unusedVariables false
set_option linter.unusedSimpArgs false
set_option linter.unusedVariables false
set_option maxRecDepth 100000 in
set_option maxHeartbeats 4000000 in
/-- Rows put one behind the other. -/
theorem conc_any (its : List It) (A : Option Addr) (c : Nat) (w : World) (h : RdV w A c 1 its.length (its.map It.val)) (hr : ∀ it ∈ its, it.rd w) (ho : ∀ it ∈ its, ∀ v ∈ it.vs, v.oneCell' = true) (h0 : 0 < (its.map It.l).sum) (ht : (its.map It.l).sum ≤ 1000000) :
    Calls Tryd.prog 38 #[.slice A its.length c] w fun e w' => ∃ A' c', e = .returned (.slice A' (its.map It.l).sum c') ∧ Hp w (fun _ => False) [Ch.sv A' c' 34 1 (its.map It.l).sum (its.map It.vs).flatten] w' := by
  have hle := h.le
  have hcap := h.cap
  have hstep : ∀ (i : Nat) (l : It), its[i]? = some l → ((its.take (i + 1)).map It.l).sum = ((its.take i).map It.l).sum + l.l ∧ ((its.take (i + 1)).map It.vs).flatten = ((its.take i).map It.vs).flatten ++ l.vs := fun i l hl => by
    obtain ⟨h1, h2⟩ := List.getElem?_eq_some_iff.1 hl
    rw [List.take_succ_eq_append_getElem h1, h2]
    simp
  have hsum : ∀ i, ((its.take i).map It.l).sum ≤ (its.map It.l).sum := fun i => by
    have := congrArg (fun l => (l.map It.l).sum) (List.take_append_drop i its)
    simp only [List.map_append, List.sum_append] at this
    omega
  refine calls_of_X (vs := [_]) (M := Hp w (fun _ => False) []) Tryd.func38 rfl Tryd.ntmps38 rfl (Hp.nil _ _) ?_
  repeat first
    | refine XC_region ?_
    | refine X_nil ?_
    | refine XC_seq ?_
    | refine XT_seq ?_
    | refine XC_block ?_
    | refine Y_res (r_move rfl) rfl ?_
    | refine Y_res (r_assign rfl) rfl ?_
    | refine Y_res (r_len rfl) rfl ?_
  refine XC_loop (ι := Nat) (fun i => i ≤ its.length) (fun i => [(0, .slice A its.length c), (3, .int .i64 ((its.take i).map It.l).sum), (9, .slice A its.length c), (10, .int .i64 its.length), (11, .int .i64 i)]) (fun i => Hp w (fun _ => False) []) (fun i => its.length - i) 0 (Nat.zero_le _) ⟨rfl, rfl, rfl, rfl, rfl, trivial⟩ (fun _ h => h) ?_
  intro i hi
  repeat first
    | refine XC_region ?_
    | refine X_nil ?_
    | refine XC_seq ?_
    | refine XT_seq ?_
    | refine Y_res (r_lss rfl rfl) rfl ?_
  refine XC_condP rfl (fun hlt => ?_) (fun hge => ?_)
  · have hi2 : i < its.length := by omega
    obtain ⟨l, hl⟩ : ∃ l, its[i]? = some l := ⟨its[i], List.getElem?_eq_getElem hi2⟩
    obtain ⟨hs1, hs2⟩ := hstep i l hl
    have hs3 := hsum (i + 1)
    have hv : (its.map It.val)[i]? = some (.slice l.A l.l l.c) := by rw [List.getElem?_map, hl]; rfl
    repeat first
      | refine XC_region ?_
      | refine X_nil ?_
      | refine XC_condF rfl ?_
      | refine XC_seq ?_
      | refine XT_seq ?_
      | refine XC_block ?_
      | refine XT_block_normal ?_
      | refine XC_skip ?_
      | refine Y_res (r_move rfl) rfl ?_
      | refine Y_res (r_assign rfl) rfl ?_
      | refine Y_res (r_add64 rfl rfl (by omega)) rfl ?_
      | refine Y_res (r_lss rfl rfl) rfl ?_
      | refine Y_res (r_len rfl) rfl ?_
      | refine Y_res (r_indexRv rfl rfl h hi2 (by omega)) rfl ?_
      | refine Y_res (r_loadRv rfl h old_false hv) rfl ?_
    refine XT_re (e := 3) (v' := .int .i64 ((its.take (i + 1)).map It.l).sum) rfl (by rw [hs1]; rfl) ?_
    exact XT_round (i + 1) hi2 (by omega) ⟨rfl, rfl, rfl, rfl, rfl, trivial⟩ (fun _ h => h)
  have hge : i = its.length := by omega
  subst hge
  rw [List.take_length]
  repeat first
    | refine XC_region ?_
    | refine XC_seq ?_
    | refine XT_seq ?_
    | refine XT_block_same rfl ?_
    | refine XT_then_exit ?_
    | refine XC_exit ?_
    | refine Y_res (r_move rfl) rfl ?_
  refine X_call (g := 50) rfl rfl (fun w1 hM => (growv_any _ w1 (by omega) h0).mono ?_)
  rintro e w2 ⟨A3, c3, rfl, q2⟩
  refine ⟨_, rfl, _, hM.frame0 q2, ?_⟩
  clear q2 hM
  repeat first
    | refine XC_region ?_
    | refine X_nil ?_
    | refine XC_seq ?_
    | refine XT_seq ?_
    | refine XC_block ?_
    | refine Y_res (r_move rfl) rfl ?_
    | refine Y_res (r_assign rfl) rfl ?_
    | refine Y_res (r_len rfl) rfl ?_
  refine XC_loop (ι := Nat × Option Addr × Nat) (fun s => s.1 ≤ its.length) (fun s => [(0, .slice A its.length c), (6, .slice s.2.1 ((its.take s.1).map It.l).sum s.2.2), (25, .slice A its.length c), (26, .int .i64 its.length), (27, .int .i64 s.1)]) (fun s => Hp w (fun _ => False) [Ch.sv s.2.1 s.2.2 34 1 ((its.take s.1).map It.l).sum ((its.take s.1).map It.vs).flatten]) (fun s => its.length - s.1) (0, A3, c3) (Nat.zero_le _) ⟨rfl, rfl, rfl, rfl, rfl, trivial⟩ (fun _ h => h) ?_
  rintro ⟨i, A4, c4⟩ hi
  dsimp only at hi ⊢
  repeat first
    | refine XC_region ?_
    | refine X_nil ?_
    | refine XC_seq ?_
    | refine XT_seq ?_
    | refine Y_res (r_lss rfl rfl) rfl ?_
  refine XC_condP rfl (fun hlt => ?_) (fun hge => ?_)
  · have hi2 : i < its.length := by omega
    obtain ⟨l, hl⟩ : ∃ l, its[i]? = some l := ⟨its[i], List.getElem?_eq_getElem hi2⟩
    have hli := List.mem_of_getElem? hl
    have hrd := hr l hli
    obtain ⟨hs1, hs2⟩ := hstep i l hl
    have hs3 := hsum (i + 1)
    have hv : (its.map It.val)[i]? = some (.slice l.A l.l l.c) := by rw [List.getElem?_map, hl]; rfl
    repeat first
      | refine XC_region ?_
      | refine X_nil ?_
      | refine XC_seq ?_
      | refine XT_seq ?_
      | refine XC_block ?_
      | refine XT_block_normal ?_
      | refine XC_skip ?_
      | refine Y_res (r_move rfl) rfl ?_
      | refine Y_res (r_assign rfl) rfl ?_
      | refine Y_res (r_add64 rfl rfl (by omega)) rfl ?_
      | refine Y_res (r_indexRv rfl rfl h hi2 (by omega)) rfl ?_
      | refine Y_res (r_loadRv rfl h old_false hv) rfl ?_
      | (refine X_appendV (s := 1) rfl rfl (fun w_ hM => RdV.old hrd hM old_false) (ho l hli) rfl (by decide) rfl rfl (by omega) (by omega) rfl ?_; intro _ _)
    rename_i A5 c5
    rw [← hs1, ← hs2]
    exact XT_round (i + 1, A5, c5) hi2 (by dsimp only; omega) ⟨rfl, rfl, rfl, rfl, rfl, trivial⟩ (fun _ h => h)
  · have hge : i = its.length := by omega
    subst hge
    rw [List.take_length]
    repeat first
      | refine XC_region ?_
      | refine X_nil ?_
      | refine XC_seq ?_
      | refine XT_seq ?_
      | refine XT_block_same rfl ?_
      | refine XT_then_exit ?_
      | refine XC_exit ?_
      | refine XC_ret ?_
      | refine Y_res (r_move rfl) rfl ?_
      | refine Y_res (r_assign rfl) rfl ?_
    exact XT_ret1 (.inl rfl) Tryd.results38 rfl (fun w' h => ⟨_, _, rfl, h⟩)
/-- Where a path's walk stands. -/
structure Up (w : World) (P : List (List Int)) (A' root : List Int) (w1 : World) (j x y : Nat) (H : Option Addr) (hc : Nat) (a b : List Int) : Prop where
  jl : j ≤ P.length
  ch : Chg (fun _ => False) w w1
  rd : Rds w1 H hc .u8 b
  l32 : b.length = 32
  go : gr (P.drop j) x y a b = some (0, 0, A', root)
  xl : x ≤ 200
  yl : y ≤ 200
theorem nodeS_len (l r : List Int) : (nodeS l r).length = 32 := rfl
set_option maxRecDepth 100000 in
set_option maxHeartbeats 8000000 in
theorem included_any (leaf root : List Int) (P : List (List Int)) (m n : Nat) (A R Ap : Option Addr) (ca cr cp : Nat) (w : World) (hl : Rds w A ca .u8 leaf) (hr : Rds w R cr .u8 root) (hp : LLs .u8 w Ap cp P) (hl32 : leaf.length = 32) (hr32 : root.length = 32) (hp32 : ∀ x ∈ P, x.length = 32) (hm : m < n) (hn : n ≤ 100) (a0 A' : List Int) (hg : gr P m (n - 1) a0 leaf = some (0, 0, A', root)) (hK : KAt KS w) :
    Calls Tryd.prog 23 #[.slice A leaf.length ca, .int .i64 m, .int .i64 n, .slice Ap P.length cp, .slice R root.length cr] w (Says w (.bool true)) := by
  have hpl := hp.le
  have hpc := hp.cap
  refine calls_of_X (vs := [_, _, _, _, _]) (M := Hp w (fun _ => False) []) Tryd.func23 rfl Tryd.ntmps23 rfl (Hp.nil _ _) ?_
  repeat first
    | refine XC_region ?_
    | refine X_nil ?_
    | refine XC_seq ?_
    | refine XT_seq ?_
    | refine Y_res (r_move rfl) rfl ?_
    | refine Y_res (r_assign rfl) rfl ?_
    | refine Y_res (r_lss rfl rfl) rfl ?_
    | refine Y_res (r_geq rfl rfl) rfl ?_
    | refine Y_on rfl rfl ?_
    | refine Y_res (r_pickF rfl rfl) rfl ?_
    | refine Y_splitF rfl rfl (by omega) ?_
    | (refine X_buildV rfl rfl (fun u hu => by simp at hu; rcases hu with h | h <;> rw [h] <;> rfl) rfl (by simp) rfl ?_; intro _ _)
  rename_i g1 hg1
  refine Y_says (g := 36) rfl rfl (fun w1 q1 => sized_any [leaf, root] _ _ w1 (lls_blk q1.head (Nat.le_refl 2) (by decide) (fun i l hi => by
        match i, hi with
        | 0, hi => obtain rfl := Option.some.inj hi; exact ⟨_, _, rfl, hl.old q1 old_false⟩
        | 1, hi => obtain rfl := Option.some.inj hi; exact ⟨_, _, rfl, hr.old q1 old_false⟩)) (fun x hx => by simp at hx; rcases hx with rfl | rfl <;> assumption)) ?_
  repeat first
    | refine Y_res (r_move rfl) rfl ?_
    | refine Y_on rfl rfl ?_
    | refine Y_res (r_notB rfl) rfl ?_
    | refine Y_res (r_pickF rfl rfl) rfl ?_
  refine Y_says (g := 36) rfl rfl (fun w1 q1 => sized_any P _ _ w1 (hp.keep q1.chg (fun _ h => h)) hp32) ?_
  repeat first
    | refine XC_region ?_
    | refine X_nil ?_
    | refine XC_condF rfl ?_
    | refine XC_seq ?_
    | refine XT_seq ?_
    | refine XC_block ?_
    | refine XC_skip ?_
    | refine Y_res (r_move rfl) rfl ?_
    | refine Y_res (r_assign rfl) rfl ?_
    | refine Y_res (r_sub64 rfl rfl (by omega)) rfl ?_
    | refine Y_on rfl rfl ?_
    | refine Y_res (r_notB rfl) rfl ?_
    | refine Y_res (r_len rfl) rfl ?_
    | refine Y_res (r_pickF rfl rfl) rfl ?_
  refine XC_re (e := 12) (v' := .int .i64 ((n - 1 : Nat) : Int)) rfl (by congr 1; omega) ?_
  refine XC_loop (ι := World × (Nat × Nat × Nat) × (Option Addr × Nat) × List Int × List Int) (fun s => Up w P A' root s.1 s.2.1.1 s.2.1.2.1 s.2.1.2.2 s.2.2.1.1 s.2.2.1.2 s.2.2.2.1 s.2.2.2.2)
    (fun s => [(4, .slice R root.length cr), (11, .int .i64 s.2.1.2.1), (12, .int .i64 s.2.1.2.2), (13, .slice s.2.2.1.1 s.2.2.2.2.length s.2.2.1.2), (39, .slice Ap P.length cp), (40, .int .i64 P.length), (41, .int .i64 s.2.1.1)])
    (fun s => Hp s.1 (fun _ => False) []) (fun s => P.length - s.2.1.1) (w, (0, m, n - 1), (A, ca), a0, leaf) ⟨Nat.zero_le _, Chg.refl _ _, hl, hl32, hg, by dsimp only; omega, by dsimp only; omega⟩ ⟨rfl, rfl, rfl, rfl, rfl, rfl, rfl, trivial⟩ (fun w1 h => h.none) ?_
  rintro ⟨w1, ⟨j, x, y⟩, ⟨H, hc⟩, a, b⟩ hU
  dsimp only at hU ⊢
  have hjl := hU.jl
  have hxl := hU.xl
  have hyl := hU.yl
  have hbl := hU.rd.le
  have hb32 := hU.l32
  repeat first
    | refine XC_region ?_
    | refine X_nil ?_
    | refine XC_seq ?_
    | refine XT_seq ?_
    | refine Y_res (r_lss rfl rfl) rfl ?_
  refine XC_condP rfl (fun hlt => ?_) (fun hge => ?_)
  · have hj2 : j < P.length := by omega
    have hA := hp.some (by omega)
    obtain ⟨p, hpj⟩ : ∃ p, P[j]? = some p := ⟨P[j], List.getElem?_eq_getElem hj2⟩
    obtain ⟨B, d, hcell, hrd⟩ := hp.at_ j p hpj
    have hp1 := hp32 p (List.mem_of_getElem? hpj)
    have hcell1 := cell_chg hcell hU.ch (fun h => h)
    have hrd1 := hrd.keep hU.ch old_false
    have hgo := hU.go
    rw [List.drop_eq_getElem_cons hj2, show P[j] = p from Option.some.inj ((List.getElem?_eq_getElem hj2).symm.trans hpj)] at hgo
    have hK1 := hK.keep hU.ch (fun h => h)
    repeat first
      | refine XC_region ?_
      | refine X_nil ?_
      | refine XC_seq ?_
      | refine XT_seq ?_
      | refine XC_block ?_
      | refine XC_skip ?_
      | refine Y_res (r_move rfl) rfl ?_
      | refine Y_res (r_assign rfl) rfl ?_
      | refine Y_res (r_eql rfl rfl) rfl ?_
      | refine Y_res (r_indexO rfl rfl hj2 hA) rfl ?_
      | refine Y_res (r_loadO rfl hcell1 (fun h => h)) rfl ?_
    have hy0 : y ≠ 0 := fun e => by
      rw [e] at hgo
      simp [gr] at hgo
    refine XC_condP rfl (fun hx => absurd (by omega) hy0) (fun _ => ?_)
    unfold gr at hgo
    rw [if_neg hy0] at hgo
    repeat first
      | refine XC_seq ?_
      | refine XT_seq ?_
      | refine XC_skip ?_
    refine XC_mid (ι := Unit) (fun _ => True) (fun _ => [(4, .slice R root.length cr), (11, .int .i64 x), (12, .int .i64 y), (13, .slice H b.length hc), (15, .slice B p.length d), (39, .slice Ap P.length cp), (40, .int .i64 P.length), (41, .int .i64 j), (54, .bool (decide (x % 2 = 1 ∨ x = y)))]) (fun _ => Hp w1 (fun _ => False) []) ?_ ?_
    · repeat first
        | refine XC_region ?_
        | refine Y_res (r_move rfl) rfl ?_
        | refine Y_res (r_rem rfl rfl (by omega)) rfl ?_
        | refine Y_res (r_eql rfl rfl) rfl ?_
      refine Y_split rfl rfl (fun h1 => ?_) (fun h1 => ?_)
      · repeat first
          | refine X_nil ?_
          | refine Y_off rfl rfl rfl ?_
          | refine Y_res (r_pickT rfl rfl) rfl ?_
        refine XT_re (e := 54) (v' := .bool (decide (x % 2 = 1 ∨ x = y))) rfl (by rw [decide_eq_true (show x % 2 = 1 ∨ x = y by omega)]) ?_
        exact XT_mid () trivial ⟨rfl, rfl, rfl, rfl, rfl, rfl, rfl, rfl, rfl, trivial⟩ (fun _ h => h)
      · repeat first
          | refine X_nil ?_
          | refine Y_res (r_move rfl) rfl ?_
          | refine Y_res (r_eql rfl rfl) rfl ?_
          | refine Y_on rfl rfl ?_
          | refine Y_res (r_pickF rfl rfl) rfl ?_
        refine XT_re (e := 54) (v' := .bool (decide (x % 2 = 1 ∨ x = y))) rfl (by congr 1; rw [decide_eq_decide]; omega) ?_
        exact XT_mid () trivial ⟨rfl, rfl, rfl, rfl, rfl, rfl, rfl, rfl, rfl, trivial⟩ (fun _ h => h)
    intro _ _
    skip
    refine XC_condP rfl (fun hc1 => ?_) (fun hc1 => ?_)
    · rw [if_pos hc1] at hgo
      repeat first
        | refine XC_region ?_
        | refine XC_seq ?_
        | refine Y_res (r_move rfl) rfl ?_
      refine X_call (g := 34) rfl rfl (fun w2 q2 => (node_any p b B H d hc w2 (hrd1.old q2 old_false) (hU.rd.old q2 old_false) (by omega) (by omega) (hK1.keep q2.chg (fun h => h))).mono ?_)
      rintro e w3 ⟨v, rfl, ⟨H2, hc2, rfl, h2, h3⟩, h4⟩
      have k3 : Chg (fun _ => False) w1 w3 := q2.chg.over h4 (fun _ _ h => h)
      refine ⟨_, rfl, Hp w3 (fun _ => False) [], Hp.nil _ _, ?_⟩
      have hr3 := rds_sl h2
      clear q2 h4 h3 h2
      repeat first
        | refine X_nil ?_
        | refine XT_seq ?_
        | refine XC_block ?_
        | refine Y_res (r_assign rfl) rfl ?_
      refine XC_loop (ι := Nat × Nat) (fun z => z.1 ≠ 0 ∧ z.1 ≤ 200 ∧ z.2 ≤ 200 ∧ strip0 z.1 z.2 = strip0 x y) (fun z => [(4, .slice R root.length cr), (11, .int .i64 z.1), (12, .int .i64 z.2), (13, .slice H2 (nodeS p b).length hc2), (39, .slice Ap P.length cp), (40, .int .i64 P.length), (41, .int .i64 j)]) (fun _ => Hp w3 (fun _ => False) []) (fun z => z.1) (x, y) ⟨by dsimp only; omega, hxl, hyl, rfl⟩ ⟨rfl, rfl, rfl, rfl, rfl, rfl, rfl, trivial⟩ (fun _ h => h) ?_
      rintro ⟨x1, y1⟩ ⟨hx1, hx2, hy2, hst⟩
      dsimp only at hx1 hx2 hy2 hst ⊢
      repeat first
        | refine XC_region ?_
        | refine X_nil ?_
        | refine XC_seq ?_
        | refine XT_seq ?_
        | refine Y_res (r_move rfl) rfl ?_
        | refine Y_res (r_rem rfl rfl (by omega)) rfl ?_
        | refine Y_res (r_eql rfl rfl) rfl ?_
      refine XC_condP rfl (fun hev => ?_) (fun hod => ?_)
      · rw [strip0_even (by omega) hx1] at hst
        repeat first
          | refine XC_region ?_
          | refine X_nil ?_
          | refine XT_seq ?_
          | refine XC_block ?_
          | refine XT_block_normal ?_
          | refine XC_skip ?_
          | refine Y_res (r_move rfl) rfl ?_
          | refine Y_res (r_assign rfl) rfl ?_
          | refine Y_res (r_shr rfl rfl rfl) rfl ?_
        exact XT_round (x1 / 2, y1 / 2) ⟨by dsimp only; omega, by dsimp only; omega, by dsimp only; omega, hst⟩ (by dsimp only; omega) ⟨rfl, rfl, rfl, rfl, rfl, rfl, rfl, trivial⟩ (fun _ h => h)
      · rw [strip0_odd (by omega)] at hst
        rw [← hst] at hgo
        repeat first
          | refine XC_region ?_
          | refine X_nil ?_
          | refine XT_seq ?_
          | refine XT_block_normal ?_
          | refine XT_block_same rfl ?_
          | refine XT_then_exit ?_
          | refine XC_exit ?_
          | refine Y_res (r_move rfl) rfl ?_
          | refine Y_res (r_assign rfl) rfl ?_
          | refine Y_res (r_add64 rfl rfl (by omega)) rfl ?_
          | refine Y_res (r_shr rfl rfl rfl) rfl ?_
        exact XT_round (w3, (j + 1, x1 / 2, y1 / 2), (H2, hc2), nodeS p a, nodeS p b) ⟨by dsimp only; omega, hU.ch.over k3 (fun _ _ h => h), hr3, rfl, hgo, by dsimp only; omega, by dsimp only; omega⟩ (by dsimp only; omega) ⟨rfl, rfl, rfl, rfl, rfl, rfl, rfl, trivial⟩ (fun _ h => h)
    · rw [if_neg hc1] at hgo
      repeat first
        | refine XC_region ?_
        | refine Y_res (r_move rfl) rfl ?_
      refine X_call (g := 34) rfl rfl (fun w2 q2 => (node_any b p H B hc d w2 (hU.rd.old q2 old_false) (hrd1.old q2 old_false) (by omega) (by omega) (hK1.keep q2.chg (fun h => h))).mono ?_)
      rintro e w3 ⟨v, rfl, ⟨H2, hc2, rfl, h2, h3⟩, h4⟩
      have k3 : Chg (fun _ => False) w1 w3 := q2.chg.over h4 (fun _ _ h => h)
      refine ⟨_, rfl, Hp w3 (fun _ => False) [], Hp.nil _ _, ?_⟩
      have hr3 := rds_sl h2
      clear q2 h4 h3 h2
      repeat first
        | refine XC_region ?_
        | refine X_nil ?_
        | refine XT_seq ?_
        | refine XT_block_normal ?_
        | refine Y_res (r_move rfl) rfl ?_
        | refine Y_res (r_assign rfl) rfl ?_
        | refine Y_res (r_add64 rfl rfl (by omega)) rfl ?_
        | refine Y_res (r_shr rfl rfl rfl) rfl ?_
      exact XT_round (w3, (j + 1, x / 2, y / 2), (H2, hc2), a, nodeS b p) ⟨by dsimp only; omega, hU.ch.over k3 (fun _ _ h => h), hr3, rfl, hgo, by dsimp only; omega, by dsimp only; omega⟩ (by dsimp only; omega) ⟨rfl, rfl, rfl, rfl, rfl, rfl, rfl, trivial⟩ (fun _ h => h)
  · have hjP : j = P.length := by omega
    have hgo := hU.go
    rw [hjP, List.drop_length] at hgo
    simp only [gr, Option.some.injEq, Prod.mk.injEq] at hgo
    obtain ⟨rfl, rfl, rfl, rfl⟩ := hgo
    have hrw := hr.keep hU.ch old_false
    repeat first
      | refine XC_region ?_
      | refine X_nil ?_
      | refine XC_seq ?_
      | refine XT_seq ?_
      | refine XT_block_same rfl ?_
      | refine XT_then_exit ?_
      | refine XC_exit ?_
      | refine XC_ret ?_
      | refine Y_res (r_move rfl) rfl ?_
      | refine Y_res (r_assign rfl) rfl ?_
      | refine Y_res (r_eql rfl rfl) rfl ?_
      | refine Y_on rfl rfl ?_
      | refine Y_res (r_pickT rfl rfl) rfl ?_
      | refine Y_says (g := 37) rfl rfl (fun w2 hM => equal_any b b H R hc cr w2 (hU.rd.old hM old_false) (hrw.old hM old_false) rfl) ?_
    exact XT_ret1 (.inl rfl) Tryd.results23 rfl (fun w' h => ⟨rfl, hU.ch.over h.chg (fun _ _ h => h)⟩)
end Go.Proofs.YtgnhpkdhicfeiaaDoor.NMk
