/- The laws' own anchor: a tree of three leaves, walked. -/
import Derived.Test.YtgnhpkdhicfeiaaDoorNMk7
namespace Go.Proofs.YtgnhpkdhicfeiaaDoor.NMk
open Go Go.RowKit Go.Proofs.YtgnhpkdhicfeiaaDoor.MX Go.Proofs.YtgnhpkdhicfeiaaDoor.PSha Go.Proofs.YtgnhpkdhicfeiaaDoor.NSha Go.Proofs.YtgnhpkdhicfeiaaDoor.PMerkle
set_option linter.unusedVariables false
set_option linter.unusedSimpArgs false
set_option linter.unusedVariables false
/-- A tree over leaves, and their hashes, read. -/
theorem tree2_any (Ls : List (List Int)) (A : Option Addr) (c : Nat) (w : World) (h : LLs .u8 w A c Ls) (hn : Ls.length ≤ 150) (hd : ∀ d ∈ Ls, d.length ≤ 100000) (hK : KAt KS w) :
    Calls Tryd.prog 11 #[.slice A Ls.length c] w fun e w' => ∃ g Al cl, e = .returned (.tuple #[.pointer (some ⟨g, 0, none⟩), .slice Al Ls.length cl]) ∧ TreeAt w' g (Ls.map leafS) ∧ LLs .u8 w' Al cl (Ls.map leafS) ∧ Chg (fun _ => False) w w' :=
  (tree_any Ls A c w h hn hd hK).mono fun e w' ⟨g, A0, c0, rows, its, Al, cl, js, he, ht, hj, hh⟩ =>
    ⟨g, Al, cl, he, treeAt_of (S := fun _ => False) (es := [_, _]) (hh.of_perm (List.perm_append_comm (l₁ := [_, _]))) ht, lls_js hh.head (fun it hit => bagN_rd hh.tail.head hit) hj, hh.chg⟩
theorem map_32 (Ls : List (List Int)) : ∀ x ∈ Ls.map leafS, x.length = 32 := fun x hx => by
  obtain ⟨y, _, rfl⟩ := List.mem_map.1 hx
  rfl
theorem TellsRO.lls {w w' : World} {o : Option (List (List Int))} {e : Ending} (h : TellsRO w o e w') : ∃ A c, e = .returned (.tuple #[.slice A (o.getD []).length c, .bool o.isSome]) ∧ LLs .u8 w' A c (o.getD []) ∧ Chg (fun _ => False) w w' := by
  obtain ⟨A, c, js, h1, h2, h3⟩ := h
  exact ⟨A, c, h1, lls_js h3.head (fun it hit => bagN_rd h3.tail.head hit) h2, h3.chg⟩
theorem TellsQ.lls {w w' : World} {L : List (List Int)} {e : Ending} (h : TellsQ w L e w') : ∃ A c, e = .returned (.slice A L.length c) ∧ LLs .u8 w' A c L ∧ Chg (fun _ => False) w w' := by
  obtain ⟨A, c, js, h1, h2, h3⟩ := h
  exact ⟨A, c, h1, lls_js h3.head (fun it hit => bag_rd h3.tail.head h3.chg hit) h2, h3.chg⟩
set_option maxRecDepth 100000 in
set_option maxHeartbeats 4000000 in
theorem anchor_any (w : World) (hK : KAt KS w) (hZ : TzAt w) : Calls Tryd.prog 9 #[] w (Says w (.bool true)) := by
  refine calls_of_X (vs := []) (M := Hp w (fun _ => False) []) Tryd.func9 rfl Tryd.ntmps9 rfl (Hp.nil _ _) ?_
  repeat first
    | refine XC_region ?_
    | refine X_nil ?_
    | refine XC_seq ?_
    | refine XT_seq ?_
    | refine Y_res (r_assign rfl) rfl ?_
    | (refine X_buildS (by rfl) (by rfl) (by simp) rfl ?_; intro _ _)
    | (refine X_buildV rfl rfl (fun u hu => by simp at hu; rcases hu with h | h | h <;> rw [h] <;> rfl) rfl (by simp) rfl ?_; intro _ _)
  rename_i g1 hg1 g2 hg2 g3 hg3 g4 hg4
  refine X_call (g := 11) rfl rfl (fun w1 q1 => (tree2_any [[1], [2], [3]] _ _ w1 (lls_blk q1.head (Nat.le_refl 3) (by decide) (fun i l hi => by
        match i, hi with
        | 0, hi => obtain rfl := Option.some.inj hi; exact ⟨_, _, rfl, rds_ints q1.tail.tail.tail.head (by decide) (by decide)⟩
        | 1, hi => obtain rfl := Option.some.inj hi; exact ⟨_, _, rfl, rds_ints q1.tail.tail.head (by decide) (by decide)⟩
        | 2, hi => obtain rfl := Option.some.inj hi; exact ⟨_, _, rfl, rds_ints q1.tail.head (by decide) (by decide)⟩)) (by decide) (by decide) (hK.keep q1.chg (fun h => h))).mono ?_)
  rintro e w2 ⟨g, Al, cl, rfl, hT, hL, hc⟩
  refine ⟨_, rfl, Hp w2 (fun _ => False) [], Hp.nil _ _, ?_⟩
  have k2 : Chg (fun _ => False) w w2 := q1.chg.over hc (fun _ _ h => h)
  clear q1 hc
  replace hK := hK.keep k2 (fun h => h)
  replace hZ := hZ.keep k2
  obtain ⟨l, hl⟩ : ∃ l, l = [[1], [2], [3]].map leafS := ⟨_, rfl⟩
  have h32 : ∀ x ∈ l, x.length = 32 := by rw [hl]; exact map_32 _
  obtain ⟨x0, x1, x2, hl3⟩ : ∃ x0 x1 x2, l = [x0, x1, x2] := ⟨_, _, _, hl⟩
  rw [← hl] at hT hL
  clear hl
  repeat first
    | refine XC_region ?_
    | refine X_nil ?_
    | refine XC_condF rfl ?_
    | refine XC_seq ?_
    | refine XT_seq ?_
    | refine XC_skip ?_
    | refine Y_res (r_move rfl) rfl ?_
    | refine Y_res (r_assign rfl) rfl ?_
    | refine Y_res (r_eqlNil rfl rfl) rfl ?_
    | refine Y_res (r_extract rfl rfl) rfl ?_
  have hl3l : l.length = 3 := by rw [hl3]; rfl
  refine X_call (g := 12) rfl rfl (fun w3 q3 => (pathx_any l g 2 3 w3 (hT.keep q3.chg) (by omega) h32 (hK.keep q3.chg (fun h => h)) (hZ.keep q3.chg)).mono ?_)
  intro e w4 hh
  obtain ⟨A1, a1, rfl, hP, hc⟩ := hh.lls
  have k4 : Chg (fun _ => False) w2 w4 := q3.chg.over hc (fun _ _ h => h)
  have eP : pathO l 2 3 = some [rootL [x0, x1]] := by
    have e1 : cutN 3 = 2 := by decide +kernel
    rw [pathO, if_pos ⟨by omega, by omega, by omega⟩, hl3]
    show some (pathL 2 [x0, x1, x2]) = _
    rw [pathL_hi (m := 2) (l := [x0, x1, x2]) (show 2 ≤ 3 by decide) (show ¬ 2 < cutN 3 by decide +kernel)]
    show some (pathL (2 - cutN 3) ([x0, x1, x2].drop (cutN 3)) ++ [rootL ([x0, x1, x2].take (cutN 3))]) = _
    rw [e1]
    show some (pathL 0 [x2] ++ [rootL [x0, x1]]) = _
    rw [pathL_1 (m := 0) (l := [x2]) (show 1 ≤ 1 by decide)]
    rfl
  rw [eP] at hP ⊢
  refine ⟨_, rfl, Hp w4 (fun _ => False) [], Hp.nil _ _, ?_⟩
  clear hh hc q3 eP
  replace hT := hT.keep k4
  replace hK := hK.keep k4 (fun h => h)
  replace hZ := hZ.keep k4
  replace hL := hL.keep k4 (fun _ h => h)
  replace k4 : Chg (fun _ => False) w w4 := k2.over k4 (fun _ _ h => h)
  clear k2
  repeat first
    | refine XC_region ?_
    | refine X_nil ?_
    | refine XC_seq ?_
    | refine XT_seq ?_
    | refine Y_res (r_move rfl) rfl ?_
    | refine Y_res (r_assign rfl) rfl ?_
    | refine Y_res (r_extract rfl rfl) rfl ?_
  refine X_call (g := 15) rfl rfl (fun w5 q5 => (bridgex_any l g 2 3 w5 (hT.keep q5.chg) (by omega) h32 (hK.keep q5.chg (fun h => h)) (hZ.keep q5.chg)).mono ?_)
  intro e w6 hh
  obtain ⟨A2, a2, rfl, hB, hc⟩ := hh.lls
  have k6 : Chg (fun _ => False) w4 w6 := q5.chg.over hc (fun _ _ h => h)
  have eB : bridgeO l 2 3 = some [x2] := by
    have e1 : cutN 3 = 2 := by decide +kernel
    rw [bridgeO, if_pos ⟨by omega, by omega, by omega⟩, if_neg (by omega), hl3]
    show some (bridgeL 2 [x0, x1, x2] true) = _
    rw [bridgeL_lo (m := 2) (l := [x0, x1, x2]) (same := true) (show 2 ≠ 3 by decide) (show 2 ≤ 3 by decide) (show 2 ≤ cutN 3 by decide +kernel)]
    show some (bridgeL 2 ([x0, x1, x2].take (cutN 3)) true ++ [rootL ([x0, x1, x2].drop (cutN 3))]) = _
    rw [e1]
    show some (bridgeL 2 [x0, x1] true ++ [rootL [x2]]) = _
    rw [bridgeL_eq (m := 2) (l := [x0, x1]) (same := true) (show 2 = 2 by decide), rootL_1]
    rfl
  rw [eB] at hB ⊢
  refine ⟨_, rfl, Hp w6 (fun _ => False) [], Hp.nil _ _, ?_⟩
  clear hh hc q5 eB
  replace hP := hP.keep k6 (fun _ h => h)
  replace hL := hL.keep k6 (fun _ h => h)
  replace k6 : Chg (fun _ => False) w w6 := k4.over k6 (fun _ _ h => h)
  clear k4 hT hK hZ
  have pA := hP.some (by have := hP.le; simp at this; omega)
  have bA := hB.some (by have := hB.le; simp at this; omega)
  have lA := hL.some (by have := hL.le; omega)
  obtain ⟨P0, p0, pc, pr⟩ := hP.at_ 0 _ rfl
  obtain ⟨B0, b0, bc, br⟩ := hB.at_ 0 _ rfl
  obtain ⟨L2, l2, lc, lr⟩ := hL.at_ 2 x2 (by rw [hl3]; rfl)
  have htk : l.take 2 = [x0, x1] := by rw [hl3]; rfl
  have hclb : 3 ≤ cl := by have := hL.le; omega
  repeat first
    | refine X_nil ?_
    | refine XC_seq ?_
    | refine XT_seq ?_
    | refine Y_res (r_move rfl) rfl ?_
    | refine Y_res (r_assign rfl) rfl ?_
    | refine Y_res (r_extract rfl rfl) rfl ?_
  refine XC_held 32 (Hp w6 (fun _ => False) []) rfl drw_hp (fun _ h => h) ?_
  refine TE_reads [0, 1, 2, 3, 4, 5, 6, 7, 8, 9, 10, 11, 12, 13, 14] (by decide +kernel) (by decide +kernel) rfl ?_
  repeat first
    | refine Y_res (r_move rfl) rfl ?_
    | refine Y_res (r_eql rfl rfl) rfl ?_
    | refine Y_on rfl rfl ?_
    | refine Y_res (r_len rfl) rfl ?_
    | refine Y_res (r_cut0 rfl rfl (by omega)) rfl ?_
    | refine Y_res (r_pickT rfl rfl) rfl ?_
    | refine Y_res (r_indexO rfl rfl Nat.one_pos pA) rfl ?_
    | refine Y_res (r_loadO rfl pc (fun h => h)) rfl ?_
  refine XQ_nodeE ?_
  refine TE_one 15 (by decide +kernel) rfl rfl ?_
  repeat first
    | refine Y_on rfl rfl ?_
  refine X_tellsB (g := 20) (k := .u8) (xs := rootL [x0, x1]) rfl rfl (fun w1 hM => by
    have := root_any 2 [x0, x1] Al cl w6 w1 rfl (by decide) (fun x hx => h32 x (by rw [hl3]; simp at hx ⊢; rcases hx with h | h <;> simp [h])) (by rw [← htk]; exact hL.take 2) hM.chg
    exact this) ?_
  intro B1 b1 z1 hz1
  repeat first
    | refine X_nil ?_
    | refine XT_only ?_
  refine XT_nodeE (fun _ h => h.none) ?_
  refine TE_one 16 (by decide +kernel) rfl rfl ?_
  repeat first
    | refine X_nil ?_
    | refine XT_only ?_
    | refine Y_on rfl rfl ?_
    | refine Y_says (g := 19) rfl rfl (fun w1 hM => NSame.same_any _ z1 _ _ _ _ w1 (pr.old hM old_false) (rds_bag hM.head hM.chg (List.mem_singleton.2 rfl))) ?_
  refine XT_re (e := 43) (v' := .bool true) rfl (by rw [hz1]; simp) ?_
  refine XT_nodeE (fun _ h => h.none) ?_
  refine TE_reads [17, 18, 19, 20, 21, 22, 23, 24, 25, 26, 27, 28, 29] (by decide +kernel) (by decide +kernel) rfl ?_
  repeat first
    | refine Y_res (r_move rfl) rfl ?_
    | refine Y_res (r_eql rfl rfl) rfl ?_
    | refine Y_on rfl rfl ?_
    | refine Y_res (r_len rfl) rfl ?_
    | refine Y_res (r_pickT rfl rfl) rfl ?_
    | refine Y_res (r_indexO rfl rfl Nat.one_pos bA) rfl ?_
    | refine Y_res (r_loadO rfl bc (fun h => h)) rfl ?_
    | refine Y_res (r_indexO (i := 2) rfl rfl (by decide) lA) rfl ?_
    | refine Y_res (r_loadO rfl lc (fun h => h)) rfl ?_
  refine XQ_nodeE ?_
  refine TE_one 30 (by decide +kernel) rfl rfl ?_
  repeat first
    | refine X_nil ?_
    | refine XT_only ?_
    | refine Y_on rfl rfl ?_
    | refine Y_says (g := 19) rfl rfl (fun w1 hM => NSame.same_any x2 x2 _ _ _ _ w1 (br.old hM old_false) (lr.old hM old_false)) ?_
  refine XT_re (e := 57) (v' := .bool true) rfl (by simp) ?_
  refine XT_nodeE (fun _ h => h.none) ?_
  refine TE_reads [31] (by decide +kernel) (by decide +kernel) rfl ?_
  repeat first
    | refine Y_res (r_pickT rfl rfl) rfl ?_
  refine XQ_nodeE ?_
  refine TE_tail 32 (by decide +kernel) rfl rfl ?_
  repeat first
    | refine X_nil ?_
    | refine XT_only ?_
    | refine Y_res (r_assign rfl) rfl ?_
  refine XT_nodeW (TN_end (by decide +kernel) ?_)
  repeat first
    | refine XT_seq ?_
    | refine XC_ret ?_
  exact XT_ret1 (.inl rfl) Tryd.results9 rfl (fun w' h => ⟨rfl, k6.over h.chg (fun _ _ h => h)⟩)
end Go.Proofs.YtgnhpkdhicfeiaaDoor.NMk
