/- MerkleUnlike, walked: true at every input. -/
import Derived.Test.YtgnhpkdhicfeiaaDoorNMk9
namespace Go.Proofs.YtgnhpkdhicfeiaaDoor.NMk
open Go Go.RowKit Go.Proofs.YtgnhpkdhicfeiaaDoor.MX Go.Proofs.YtgnhpkdhicfeiaaDoor.PSha Go.Proofs.YtgnhpkdhicfeiaaDoor.NSha Go.Proofs.YtgnhpkdhicfeiaaDoor.PMerkle
set_option linter.unusedVariables false
set_option linter.unusedSimpArgs false
set_option linter.unusedVariables false
set_option maxRecDepth 100000 in
set_option maxHeartbeats 4000000 in
theorem unlike_any (l : List ByD) (A : Option Addr) (c : Nat) (at_ : Int) (x : List Int) (A2 : Option Addr) (c2 : Nat) (w : World) (h : shLL.has w [.slice A l.length c] (A, c, l)) (hn : (Lit.int .i64 at_).wf = true) (hx : Rds w A2 c2 .u8 x) (hxw : ∀ n ∈ x, (Lit.int .u8 n).wf = true) (hLd : Laid w) :
    Calls Tryd.prog 7 #[.slice A l.length c, .int .i64 at_, .slice A2 x.length c2] w fun e w' => e = .returned (.bool true) ∧ Chg (fun _ => False) w w' := by
  obtain ⟨hL, hlen, hwf⟩ := lls_at h
  obtain ⟨hK, hZ⟩ := hLd
  obtain ⟨Ls, hLs⟩ : ∃ Ls, Ls = lss l := ⟨_, rfl⟩
  rw [← hLs] at hL hlen
  have hll : l.length = Ls.length := by rw [hLs, List.length_map]
  rw [hll]
  clear h hwf hLs hll
  refine calls_of_X (Rr := Says w (.bool true)) (vs := [_, _, _]) (M := Hp w (fun _ => False) []) Tryd.func7 rfl Tryd.ntmps7 rfl (Hp.nil _ _) ?_
  repeat first
    | refine XC_region ?_
    | refine X_nil ?_
    | refine XC_condF rfl ?_
    | refine XC_seq ?_
    | refine XT_seq ?_
    | refine XC_skip ?_
    | refine Y_res (r_move rfl) rfl ?_
    | refine Y_res (r_assign rfl) rfl ?_
    | refine Y_res (r_notB rfl) rfl ?_
    | refine Y_says (g := 9) rfl rfl (fun w1 hM => anchor_any w1 (hK.keep hM.chg (fun h => h)) (hZ.keep hM.chg)) ?_
    | refine Y_says (g := 10) rfl rfl (fun w1 hM => few_any Ls _ _ w1 (hL.keep hM.chg (fun _ h => h)) hlen) ?_
  by_cases hfew : fewS Ls
  · rw [decide_eq_true hfew]
    have hfl := few_len hfew
    repeat first
      | refine Y_res (r_move rfl) rfl ?_
      | refine Y_res (r_lss rfl rfl) rfl ?_
      | refine Y_on rfl rfl ?_
      | refine Y_res (r_pickF rfl rfl) rfl ?_
    refine Y_split rfl rfl (fun h1 => ?_) (fun h1 => ?_)
    · repeat first
        | refine XC_region ?_
        | refine X_nil ?_
        | refine XC_condT rfl ?_
        | refine XC_seq ?_
        | refine XT_seq ?_
        | refine XT_then_ret ?_
        | refine XC_ret ?_
        | refine Y_res (r_move rfl) rfl ?_
        | refine Y_res (r_assign rfl) rfl ?_
        | refine Y_off rfl rfl rfl ?_
        | refine Y_res (r_pickT rfl rfl) rfl ?_
      exact XT_says (.inl rfl) Tryd.results7 rfl rfl
    repeat first
      | refine Y_res (r_move rfl) rfl ?_
      | refine Y_res (r_geq rfl rfl) rfl ?_
      | refine Y_on rfl rfl ?_
      | refine Y_res (r_len rfl) rfl ?_
      | refine Y_res (r_pickF rfl rfl) rfl ?_
    refine Y_split rfl rfl (fun h2 => ?_) (fun h2 => ?_)
    · repeat first
        | refine XC_region ?_
        | refine X_nil ?_
        | refine XC_condT rfl ?_
        | refine XC_seq ?_
        | refine XT_seq ?_
        | refine XT_then_ret ?_
        | refine XC_ret ?_
        | refine Y_res (r_assign rfl) rfl ?_
        | refine Y_off rfl rfl rfl ?_
        | refine Y_res (r_pickT rfl rfl) rfl ?_
      exact XT_says (.inl rfl) Tryd.results7 rfl rfl
    repeat first
      | refine X_nil ?_
      | refine XT_seq ?_
      | refine Y_res (r_move rfl) rfl ?_
      | refine Y_res (r_gtr rfl rfl) rfl ?_
      | refine Y_on rfl rfl ?_
      | refine Y_res (r_len rfl) rfl ?_
      | refine Y_res (r_pickF rfl rfl) rfl ?_
    refine XC_condP rfl (fun h3 => ?_) (fun h3 => ?_)
    · repeat first
        | refine XC_region ?_
        | refine X_nil ?_
        | refine XC_seq ?_
        | refine XT_seq ?_
        | refine XT_then_ret ?_
        | refine XC_ret ?_
        | refine Y_res (r_assign rfl) rfl ?_
      exact XT_says (.inl rfl) Tryd.results7 rfl rfl
    obtain ⟨p, rfl⟩ : ∃ p : Nat, at_ = p := ⟨at_.toNat, by omega⟩
    have hp : p < Ls.length := by omega
    have hl100 := hfew.1
    obtain ⟨vs, hv1, hv2, hv3⟩ := lls_toV hL
    repeat first
      | refine XC_region ?_
      | refine XC_seq ?_
      | refine XT_seq ?_
      | refine XC_skip ?_
      | refine Y_res (r_move rfl) rfl ?_
      | (refine X_buildV (us := []) rfl rfl (fun u hu => by simp at hu) rfl (by simp) rfl ?_; intro _ _)
    rename_i g0 hg0
    refine X_mem (M' := Hp w (fun _ => False) [Ch.sv (some ⟨g0, 0, none⟩) 0 34 1 0 []]) (fun _ h => h.blkSv rfl (by decide)) ?_
    repeat first
      | refine XC_region ?_
      | refine X_nil ?_
      | refine XC_seq ?_
      | refine XT_seq ?_
      | refine Y_res (r_move rfl) rfl ?_
      | refine Y_res (r_assign rfl) rfl ?_
      | (refine X_appendV (s := 1) rfl rfl (fun w_ hM => hv1.old hM old_false) hv2 rfl (by decide) rfl rfl (by omega) (by omega) rfl ?_; intro _ _; try simp only [List.nil_append, Nat.zero_add])
    rename_i A3 c3
    have hvl : vs.length = Ls.length := by have := hv1.len; omega
    repeat first
      | refine XC_region ?_
      | refine X_nil ?_
      | refine XC_seq ?_
      | refine XT_seq ?_
      | refine Y_res (r_move rfl) rfl ?_
      | refine Y_res (r_indexV0 rfl rfl hp (Nat.le_refl _)) rfl ?_
      | refine X_storeV rfl rfl rfl (by omega) ?_
    obtain ⟨L2, hL2⟩ : ∃ L2, L2 = Ls.set p x := ⟨_, rfl⟩
    have hl2 : L2.length = Ls.length := by rw [hL2, List.length_set]
    refine X_base (S1 := fun _ => False) (fun w1 hw1 => ?_)
    have k1 : Chg (fun _ => False) w w1 := hw1.chg
    have hB : LLs .u8 w1 A3 c3 L2 := lls_sv hw1.head (by rw [List.length_set]; omega) (fun i l hi => by
      rw [hL2, List.getElem?_set] at hi
      by_cases e : p = i
      · subst e
        rw [if_pos rfl, if_pos hp] at hi
        rw [← Option.some.inj hi]
        exact ⟨A2, c2, by rw [List.getElem?_set, if_pos rfl, if_pos (by omega)], hx.old hw1 old_false⟩
      · rw [if_neg e] at hi
        obtain ⟨B, d, q1, q2⟩ := hv3 i l hi
        exact ⟨B, d, by rw [List.getElem?_set, if_neg e]; exact q1, q2.old hw1 old_false⟩)
    have hL1 := hL.keep k1 (fun _ h => h)
    have hx1 := hx.keep k1 (fun _ _ h => h)
    have hfl2 : ∀ d ∈ L2, d.length ≤ 100000 := fun d hd => by
      rw [hL2] at hd
      rcases List.mem_or_eq_of_mem_set hd with hd | hd
      · exact hfl d hd
      · rw [hd]; omega
    replace hK := hK.keep k1 (fun h => h)
    replace hZ := hZ.keep k1
    clear hw1 hv1 hv2 hv3 hL hx hlen
    skip
    refine X_call (g := 11) rfl rfl (fun w2 q2 => (tree2_any Ls _ _ w2 (hL1.keep q2.chg (fun _ h => h)) (by omega) hfl (hK.keep q2.chg (fun h => h))).mono ?_)
    rintro e w3 ⟨g1, Al, cl, rfl, hT1, _, hc⟩
    refine ⟨_, rfl, Hp w3 (fun _ => False) [], Hp.nil _ _, ?_⟩
    have k3 : Chg (fun _ => False) w1 w3 := q2.chg.over hc (fun _ _ h => h)
    clear q2 hc
    replace hB := hB.keep k3 (fun _ h => h)
    replace hL1 := hL1.keep k3 (fun _ h => h)
    replace hx1 := hx1.keep k3 (fun _ _ h => h)
    replace hK := hK.keep k3 (fun h => h)
    replace hZ := hZ.keep k3
    replace k3 : Chg (fun _ => False) w w3 := k1.over k3 (fun _ _ h => h)
    clear k1
    have htree := fun w2 (q2 : Hp w3 (fun _ => False) [] w2) => tree2_any L2 A3 c3 w2 (hB.keep q2.chg (fun _ h => h)) (by omega) hfl2 (hK.keep q2.chg (fun h => h))
    rw [hl2] at htree
    repeat first
      | refine XC_region ?_
      | refine X_nil ?_
      | refine XC_seq ?_
      | refine XT_seq ?_
      | refine Y_res (r_move rfl) rfl ?_
      | refine Y_res (r_assign rfl) rfl ?_
      | refine Y_res (r_extract rfl rfl) rfl ?_
    refine X_call (g := 11) rfl rfl (fun w4 q4 => (htree w4 q4).mono ?_)
    rintro e w5 ⟨g2, Am, cm, rfl, hT2, _, hc⟩
    refine ⟨_, rfl, Hp w5 (fun _ => False) [], Hp.nil _ _, ?_⟩
    have k5 : Chg (fun _ => False) w3 w5 := q4.chg.over hc (fun _ _ h => h)
    clear q4 hc htree hB
    replace hT1 := hT1.keep k5
    replace hL1 := hL1.keep k5 (fun _ h => h)
    replace hx1 := hx1.keep k5 (fun _ _ h => h)
    replace hK := hK.keep k5 (fun h => h)
    replace hZ := hZ.keep k5
    replace k5 : Chg (fun _ => False) w w5 := k3.over k5 (fun _ _ h => h)
    clear k3
    obtain ⟨M1, hM1⟩ : ∃ M, M = Ls.map leafS := ⟨_, rfl⟩
    obtain ⟨M2, hM2⟩ : ∃ M, M = L2.map leafS := ⟨_, rfl⟩
    have m1l : M1.length = Ls.length := by rw [hM1, List.length_map]
    have m2l : M2.length = Ls.length := by rw [hM2, List.length_map, hl2]
    have h321 : ∀ x ∈ M1, x.length = 32 := by rw [hM1]; exact map_32 _
    have h322 : ∀ x ∈ M2, x.length = 32 := by rw [hM2]; exact map_32 _
    have hset : M2 = M1.set p (leafS x) := by rw [hM2, hM1, hL2, List.map_set]
    obtain ⟨y, hy⟩ : ∃ y, Ls[p]? = some y := ⟨Ls[p], List.getElem?_eq_getElem hp⟩
    obtain ⟨By, dy, cy, ry⟩ := hL1.at_ p y hy
    have hyl := hfl y (List.mem_of_getElem? hy)
    have hAy := hL1.some (by have := hL1.le; omega)
    have hM1p : M1[p]? = some (leafS y) := by rw [hM1, List.getElem?_map, hy]; rfl
    rw [← hM1] at hT1
    rw [← hM2] at hT2
    have n1 : (Lit.int .i64 (Ls.length : Int)).wf = true := wf_i64 (by omega)
    have r1 : rootO M1 p = some (rootL (M1.take p)) := by rw [rootO, if_pos ⟨by omega, by omega⟩]; rfl
    have r2 : rootO M2 p = some (rootL (M1.take p)) := by
      rw [rootO, if_pos ⟨by omega, by omega⟩, hset]
      show some (rootL ((M1.set p (leafS x)).take p)) = _
      rw [List.take_set_of_le (Nat.le_refl p)]
    have r3 : rootO M1 Ls.length = some (rootL M1) := by
      rw [rootO, if_pos ⟨by omega, by omega⟩]
      rw [show M1.take (Ls.length : Int).toNat = M1 from List.take_of_length_le (by omega)]
    have r4 : rootO M2 Ls.length = some (rootL M2) := by
      rw [rootO, if_pos ⟨by omega, by omega⟩]
      rw [show M2.take (Ls.length : Int).toNat = M2 from List.take_of_length_le (by omega)]
    have hsame : leafS x = leafS y → M1 = M2 := fun e => by
      rw [hset, e]
      refine List.ext_getElem? fun i => ?_
      rw [List.getElem?_set]
      by_cases e2 : p = i
      · subst e2
        rw [if_pos rfl, if_pos (by omega), hM1p]
      · rw [if_neg e2]
    clear hset hM1 hM2 hL2 hM1p
    repeat first
      | refine XC_region ?_
      | refine X_nil ?_
      | refine XC_seq ?_
      | refine XT_seq ?_
      | refine Y_res (r_move rfl) rfl ?_
      | refine Y_res (r_assign rfl) rfl ?_
      | refine Y_res (r_extract rfl rfl) rfl ?_
    refine X_call (g := 17) rfl rfl (fun w6 q6 => (rootx_any M1 g1 p w6 (hT1.keep q6.chg) (by omega) h321 (hK.keep q6.chg (fun h => h)) (hZ.keep q6.chg) hn).mono ?_)
    rw [r1]
    rintro e w7 ⟨v, rfl, ⟨A4, c4, rfl, hpp, hff⟩, hc⟩
    refine ⟨_, rfl, _, q6.add hc hpp hff, ?_⟩
    clear q6 hpp hff hc
    repeat first
      | refine XC_region ?_
      | refine X_nil ?_
      | refine XC_seq ?_
      | refine XT_seq ?_
      | refine Y_res (r_move rfl) rfl ?_
      | refine Y_res (r_assign rfl) rfl ?_
      | refine Y_res (r_extract rfl rfl) rfl ?_
    refine X_call (g := 17) rfl rfl (fun w6 q6 => (rootx_any M2 g2 p w6 (hT2.keep q6.chg) (by omega) h322 (hK.keep q6.chg (fun h => h)) (hZ.keep q6.chg) hn).mono ?_)
    rw [r2]
    rintro e w7 ⟨v, rfl, ⟨A5, c5, rfl, hpp, hff⟩, hc⟩
    refine ⟨_, rfl, _, q6.add hc hpp hff, ?_⟩
    clear q6 hpp hff hc
    repeat first
      | refine XC_region ?_
      | refine X_nil ?_
      | refine XC_seq ?_
      | refine XT_seq ?_
      | refine Y_res (r_move rfl) rfl ?_
      | refine Y_res (r_assign rfl) rfl ?_
      | refine Y_res (r_len rfl) rfl ?_
      | refine Y_res (r_extract rfl rfl) rfl ?_
    refine X_call (g := 17) rfl rfl (fun w6 q6 => (rootx_any M1 g1 Ls.length w6 (hT1.keep q6.chg) (by omega) h321 (hK.keep q6.chg (fun h => h)) (hZ.keep q6.chg) n1).mono ?_)
    rw [r3]
    rintro e w7 ⟨v, rfl, ⟨A6, c6, rfl, hpp, hff⟩, hc⟩
    refine ⟨_, rfl, _, q6.add hc hpp hff, ?_⟩
    clear q6 hpp hff hc
    repeat first
      | refine XC_region ?_
      | refine X_nil ?_
      | refine XC_seq ?_
      | refine XT_seq ?_
      | refine Y_res (r_move rfl) rfl ?_
      | refine Y_res (r_assign rfl) rfl ?_
      | refine Y_res (r_len rfl) rfl ?_
      | refine Y_res (r_extract rfl rfl) rfl ?_
    refine X_call (g := 17) rfl rfl (fun w6 q6 => (rootx_any M2 g2 Ls.length w6 (hT2.keep q6.chg) (by omega) h322 (hK.keep q6.chg (fun h => h)) (hZ.keep q6.chg) n1).mono ?_)
    rw [r4]
    rintro e w7 ⟨v, rfl, ⟨A7, c7, rfl, hpp, hff⟩, hc⟩
    refine ⟨_, rfl, _, q6.add hc hpp hff, ?_⟩
    clear q6 hpp hff hc
    dsimp only [Option.getD_some]
    repeat first
      | refine X_nil ?_
      | refine XC_seq ?_
      | refine XT_seq ?_
      | refine Y_res (r_move rfl) rfl ?_
      | refine Y_res (r_assign rfl) rfl ?_
      | refine Y_res (r_extract rfl rfl) rfl ?_
    refine XC_held 8 (Hp w5 (fun _ => False) []) rfl drw_hp (fun _ h => h.none) ?_
    refine TE_reads [0, 2, 3, 4, 5] (by decide +kernel) (by decide +kernel) rfl ?_
    repeat first
      | refine Y_res (r_move rfl) rfl ?_
      | refine Y_res (r_indexO rfl rfl hp hAy) rfl ?_
      | refine Y_res (r_loadO rfl cy (fun h => h)) rfl ?_
    refine XQ_nodeE ?_
    refine TE_one 1 (by decide +kernel) rfl rfl ?_
    refine X_tells (g := 22) (E := 5) (k := .u8) (z := leafS x) rfl rfl (fun w1 hM => leaf_any x _ _ w1 (hx1.old hM old_false) (by omega) (hK.keep hM.chg (fun h => h))) ?_
    intro A8 c8 x8 h8
    repeat first
      | refine X_nil ?_
      | refine XT_only ?_
    refine XT_nodeE (fun _ h => h.none) ?_
    refine TE_one 6 (by decide +kernel) rfl rfl ?_
    refine X_tells (g := 22) (E := 5) (k := .u8) (z := leafS y) rfl rfl (fun w1 hM => leaf_any y _ _ w1 (ry.old hM old_false) hyl (hK.keep hM.chg (fun h => h))) ?_
    intro A9 c9 x9 h9
    repeat first
      | refine X_nil ?_
      | refine XT_only ?_
    refine XT_nodeE (fun _ h => h.none) ?_
    refine TE_one 7 (by decide +kernel) rfl rfl ?_
    refine Y_says (g := 19) (v := .bool (decide (x8 = x9))) rfl rfl (fun w1 hM => NSame.same_any x8 x9 _ _ _ _ w1 (rds_sl hM.tail.head) (rds_sl hM.head)) ?_
    repeat first
      | refine X_nil ?_
      | refine XT_only ?_
    refine XT_nodeE (fun _ h => h.none) ?_
    refine TE_tail 8 (by decide +kernel) rfl rfl ?_
    repeat first
      | refine X_nil ?_
      | refine XT_only ?_
      | refine Y_res (r_assign rfl) rfl ?_
    refine XT_nodeW (TN_end (by decide +kernel) ?_)
    repeat first
      | refine XC_region ?_
      | refine XC_seq ?_
      | refine XT_seq ?_
      | refine Y_res (r_move rfl) rfl ?_
      | refine Y_says (g := 19) (v := .bool (decide (rootL (M1.take p) = rootL (M1.take p)))) rfl rfl (fun w1 hM => NSame.same_any _ _ _ _ _ _ w1 (rds_sl hM.tail.tail.tail.tail.tail.head) (rds_sl hM.tail.tail.tail.tail.head)) ?_
    refine Y_re (e := 95) (v' := .bool true) rfl (by simp) ?_
    repeat first
      | refine Y_res (r_move rfl) rfl ?_
      | refine Y_on rfl rfl ?_
      | refine Y_res (r_notB rfl) rfl ?_
    by_cases hal : leafS x = leafS y
    · refine Y_re (e := 98) (v' := .bool false) rfl (by rw [h8, h9, decide_eq_true hal]; rfl) ?_
      repeat first
        | refine Y_res (r_move rfl) rfl ?_
        | refine Y_on rfl rfl ?_
      refine Y_says (g := 19) (v := .bool (decide (rootL M1 = rootL M2))) rfl rfl (fun w1 hM => NSame.same_any _ _ _ _ _ _ w1 (rds_sl hM.tail.tail.tail.head) (rds_sl hM.tail.tail.head)) ?_
      repeat first
        | refine X_nil ?_
        | refine XT_seq ?_
        | refine XC_ret ?_
        | refine Y_res (r_assign rfl) rfl ?_
        | refine Y_on rfl rfl ?_
        | refine Y_res (r_pickT rfl rfl) rfl ?_
        | refine Y_res (r_pickF rfl rfl) rfl ?_
      exact XT_ret1 (.inl rfl) Tryd.results7 rfl (fun w' h => ⟨by rw [hsame hal]; simp, k5.over h.chg (fun _ _ h => h)⟩)
    · refine Y_re (e := 98) (v' := .bool true) rfl (by rw [h8, h9, decide_eq_false hal]; rfl) ?_
      repeat first
        | refine X_nil ?_
        | refine XT_seq ?_
        | refine XC_ret ?_
        | refine Y_res (r_assign rfl) rfl ?_
        | refine Y_on rfl rfl ?_
        | refine Y_off rfl rfl rfl ?_
        | refine Y_res (r_pickT rfl rfl) rfl ?_
      exact XT_ret1 (.inl rfl) Tryd.results7 rfl (fun w' h => ⟨rfl, k5.over h.chg (fun _ _ h => h)⟩)
  · rw [decide_eq_false hfew]
    repeat first
      | refine XC_region ?_
      | refine X_nil ?_
      | refine XC_condT rfl ?_
      | refine XC_seq ?_
      | refine XT_seq ?_
      | refine XT_then_ret ?_
      | refine XC_ret ?_
      | refine Y_res (r_move rfl) rfl ?_
      | refine Y_res (r_assign rfl) rfl ?_
      | refine Y_off rfl rfl rfl ?_
      | refine Y_res (r_pickT rfl rfl) rfl ?_
    exact XT_says (.inl rfl) Tryd.results7 rfl rfl
end Go.Proofs.YtgnhpkdhicfeiaaDoor.NMk
