/- MerkleRoots, walked: true at every input. -/
import Derived.Test.YtgnhpkdhicfeiaaDoorNMk9
namespace Go.Proofs.YtgnhpkdhicfeiaaDoor.NMk
open Go Go.RowKit Go.Proofs.YtgnhpkdhicfeiaaDoor.MX Go.Proofs.YtgnhpkdhicfeiaaDoor.PSha Go.Proofs.YtgnhpkdhicfeiaaDoor.NSha Go.Proofs.YtgnhpkdhicfeiaaDoor.PMerkle
set_option linter.unusedVariables false
set_option linter.unusedSimpArgs false
set_option linter.unusedVariables false
set_option maxRecDepth 100000 in
set_option maxHeartbeats 4000000 in
theorem roots_any (l : List ByD) (A : Option Addr) (c : Nat) (n : Int) (w : World) (h : shLL.has w [.slice A l.length c] (A, c, l)) (hn : (Lit.int .i64 n).wf = true) (hLd : Laid w) :
    Calls Tryd.prog 5 #[.slice A l.length c, .int .i64 n] w fun e w' => e = .returned (.bool true) ∧ Chg (fun _ => False) w w' := by
  obtain ⟨hL, hlen, hwf⟩ := lls_at h
  obtain ⟨hK, hZ⟩ := hLd
  obtain ⟨Ls, hLs⟩ : ∃ Ls, Ls = lss l := ⟨_, rfl⟩
  rw [← hLs] at hL hlen
  have hll : l.length = Ls.length := by rw [hLs, List.length_map]
  rw [hll]
  clear h hwf hLs hll
  refine calls_of_X (Rr := Says w (.bool true)) (vs := [_, _]) (M := Hp w (fun _ => False) []) Tryd.func5 rfl Tryd.ntmps5 rfl (Hp.nil _ _) ?_
  repeat first
    | refine XC_region ?_
    | refine X_nil ?_
    | refine XC_condF rfl ?_
    | refine XC_seq ?_
    | refine XT_seq ?_
    | refine XC_skip ?_
    | refine Y_res (r_move rfl) rfl ?_
    | refine Y_res (r_assign rfl) rfl ?_
    | refine Y_res (r_notB rfl) rfl ?_
    | refine Y_says (g := 9) rfl rfl (fun w1 hM => anchor_any w1 (hK.keep hM.chg (fun h => h)) (hZ.keep hM.chg)) ?_
    | refine Y_says (g := 10) rfl rfl (fun w1 hM => few_any Ls _ _ w1 (hL.keep hM.chg (fun _ h => h)) hlen) ?_
  by_cases hfew : fewS Ls
  · rw [decide_eq_true hfew]
    have hfl := few_len hfew
    repeat first
      | refine XC_region ?_
      | refine XC_condF rfl ?_
      | refine XC_seq ?_
      | refine XT_seq ?_
      | refine XC_skip ?_
      | refine Y_res (r_move rfl) rfl ?_
    refine X_call (g := 11) rfl rfl (fun w1 q1 => (tree2_any Ls _ _ w1 (hL.keep q1.chg (fun _ h => h)) (Nat.le_trans hfew.1 (by decide)) hfl (hK.keep q1.chg (fun h => h))).mono ?_)
    rintro e w2 ⟨g, Al, cl, rfl, hT, hLl, hc⟩
    have k2 : Chg (fun _ => False) w w2 := q1.chg.over hc (fun _ _ h => h)
    refine ⟨_, rfl, Hp w2 (fun _ => False) [], Hp.nil _ _, ?_⟩
    clear q1 hc
    replace hK := hK.keep k2 (fun h => h)
    replace hZ := hZ.keep k2
    have hl100 := hfew.1
    have hml : (Ls.map leafS).length = Ls.length := List.length_map ..
    have h32 := map_32 Ls
    obtain ⟨L, hLe⟩ : ∃ L, L = Ls.map leafS := ⟨_, rfl⟩
    rw [← hLe] at hT hLl hml h32
    clear hLe hfl hlen hL hfew
    repeat first
      | refine XC_region ?_
      | refine X_nil ?_
      | refine XC_seq ?_
      | refine XT_seq ?_
      | refine Y_res (r_move rfl) rfl ?_
      | refine Y_res (r_assign rfl) rfl ?_
      | refine Y_res (r_extract rfl rfl) rfl ?_
    refine X_call (g := 17) rfl rfl (fun w3 q3 => (rootx_any L g n w3 (hT.keep q3.chg) (by omega) h32 (hK.keep q3.chg (fun h => h)) (hZ.keep q3.chg) hn).mono ?_)
    rintro e w4 ⟨v, rfl, ⟨A3, c3, rfl, hp, hf⟩, hc⟩
    refine ⟨_, rfl, _, q3.add hc hp hf, ?_⟩
    clear q3 hp hf hc
    by_cases hr : 0 ≤ n ∧ n ≤ L.length
    · have e0 : rootO L n = some (rootL (L.take n.toNat)) := if_pos hr
      rw [e0]
      obtain ⟨m, rfl⟩ : ∃ m : Nat, n = m := ⟨n.toNat, by omega⟩
      repeat first
        | refine XC_region ?_
        | refine X_nil ?_
        | refine XC_seq ?_
        | refine XT_seq ?_
        | refine Y_res (r_move rfl) rfl ?_
        | refine Y_res (r_assign rfl) rfl ?_
        | refine Y_res (r_neq rfl rfl) rfl ?_
        | refine Y_res (r_len rfl) rfl ?_
        | refine Y_res (r_extract rfl rfl) rfl ?_
        | refine Y_says (g := 18) rfl rfl (fun w1 hM => size_any L g w1 (hT.keep hM.chg) (by omega)) ?_
      refine Y_re (e := 30) (v' := .bool false) rfl (by simp [hml]) ?_
      repeat first
        | refine X_nil ?_
        | refine XT_seq ?_
        | refine Y_res (r_move rfl) rfl ?_
        | refine Y_res (r_leq rfl rfl) rfl ?_
        | refine Y_res (r_geq rfl rfl) rfl ?_
        | refine Y_res (r_neqB rfl rfl) rfl ?_
        | refine Y_on rfl rfl ?_
        | refine Y_res (r_len rfl) rfl ?_
        | refine Y_res (r_pickT rfl rfl) rfl ?_
        | refine Y_res (r_pickF rfl rfl) rfl ?_
      refine XC_re (e := 41) (v' := .bool false) rfl (by rw [decide_eq_true (show (m : Int) ≤ Ls.length by omega)]; rfl) ?_
      have hcl := hLl.le
      have htl : (L.take m).length = m := by rw [List.length_take]; omega
      repeat first
        | refine XC_region ?_
        | refine X_nil ?_
        | refine XC_condF rfl ?_
        | refine XC_seq ?_
        | refine XT_seq ?_
        | refine XC_skip ?_
        | refine Y_res (r_move rfl) rfl ?_
        | refine Y_res (r_notB rfl) rfl ?_
        | refine Y_res (r_cut0 rfl rfl (by omega)) rfl ?_
        | refine X_tellsB (g := 20) (k := .u8) (xs := rootL (L.take m)) rfl rfl (fun w1 hM => by
            have := root_any m (L.take m) Al cl w2 w1 htl (by omega) (fun x hx => h32 x (List.mem_of_mem_take hx)) (hLl.take m) hM.chg
            rwa [htl] at this) ?_
      intro B1 b1 z1 hz1
      repeat first
        | refine X_nil ?_
        | refine XT_seq ?_
        | refine XC_ret ?_
        | refine Y_res (r_assign rfl) rfl ?_
        | refine Y_says (g := 19) rfl rfl (fun w1 hM => NSame.same_any _ z1 _ _ _ _ w1 (rds_sl hM.tail.head) (rds_bag hM.head hM.chg (List.mem_singleton.2 rfl))) ?_
      exact XT_ret1 (.inl rfl) Tryd.results5 rfl (fun w' h => ⟨by rw [hz1]; simp, k2.over h.chg (fun _ _ h => h)⟩)
    · have e0 : rootO L n = none := if_neg hr
      rw [e0]
      repeat first
        | refine XC_region ?_
        | refine X_nil ?_
        | refine XC_seq ?_
        | refine XT_seq ?_
        | refine Y_res (r_move rfl) rfl ?_
        | refine Y_res (r_assign rfl) rfl ?_
        | refine Y_res (r_neq rfl rfl) rfl ?_
        | refine Y_res (r_len rfl) rfl ?_
        | refine Y_res (r_extract rfl rfl) rfl ?_
        | refine Y_says (g := 18) rfl rfl (fun w1 hM => size_any L g w1 (hT.keep hM.chg) (by omega)) ?_
      refine Y_re (e := 30) (v' := .bool false) rfl (by simp [hml]) ?_
      repeat first
        | refine Y_res (r_move rfl) rfl ?_
        | refine Y_res (r_geq rfl rfl) rfl ?_
        | refine Y_on rfl rfl ?_
      by_cases hn0 : 0 ≤ n
      · refine Y_re (e := 34) (v' := .bool true) rfl (by rw [decide_eq_true hn0]) ?_
        repeat first
          | refine X_nil ?_
          | refine XT_seq ?_
          | refine Y_res (r_move rfl) rfl ?_
          | refine Y_res (r_leq rfl rfl) rfl ?_
          | refine Y_res (r_neqB rfl rfl) rfl ?_
          | refine Y_on rfl rfl ?_
          | refine Y_res (r_len rfl) rfl ?_
          | refine Y_res (r_pickT rfl rfl) rfl ?_
          | refine Y_res (r_pickF rfl rfl) rfl ?_
        refine XC_re (e := 41) (v' := .bool false) rfl (by rw [decide_eq_false (show ¬ n ≤ Ls.length by omega)]; rfl) ?_
        repeat first
          | refine XC_region ?_
          | refine X_nil ?_
          | refine XC_condT rfl ?_
          | refine XC_condF rfl ?_
          | refine XC_seq ?_
          | refine XT_seq ?_
          | refine XT_then_ret ?_
          | refine XC_skip ?_
          | refine XC_ret ?_
          | refine Y_res (r_move rfl) rfl ?_
          | refine Y_res (r_assign rfl) rfl ?_
          | refine Y_res (r_eql rfl rfl) rfl ?_
          | refine Y_res (r_notB rfl) rfl ?_
          | refine Y_res (r_len rfl) rfl ?_
        exact XT_ret1 (.inl rfl) Tryd.results5 rfl (fun w' h => ⟨rfl, k2.over h.chg (fun _ _ h => h)⟩)
      · refine Y_re (e := 34) (v' := .bool false) rfl (by rw [decide_eq_false hn0]) ?_
        repeat first
          | refine XC_region ?_
          | refine X_nil ?_
          | refine XC_condT rfl ?_
          | refine XC_condF rfl ?_
          | refine XC_seq ?_
          | refine XT_seq ?_
          | refine XT_then_ret ?_
          | refine XC_skip ?_
          | refine XC_ret ?_
          | refine Y_res (r_move rfl) rfl ?_
          | refine Y_res (r_assign rfl) rfl ?_
          | refine Y_res (r_eql rfl rfl) rfl ?_
          | refine Y_res (r_neqB rfl rfl) rfl ?_
          | refine Y_on rfl rfl ?_
          | refine Y_off rfl rfl rfl ?_
          | refine Y_res (r_notB rfl) rfl ?_
          | refine Y_res (r_len rfl) rfl ?_
          | refine Y_res (r_pickF rfl rfl) rfl ?_
        try refine XC_re (e := 41) (v' := .bool false) rfl rfl ?_
        skip
        exact XT_ret1 (.inl rfl) Tryd.results5 rfl (fun w' h => ⟨rfl, k2.over h.chg (fun _ _ h => h)⟩)
  · rw [decide_eq_false hfew]
    repeat first
      | refine XC_region ?_
      | refine X_nil ?_
      | refine XC_condT rfl ?_
      | refine XC_seq ?_
      | refine XT_seq ?_
      | refine XT_then_ret ?_
      | refine XC_ret ?_
      | refine Y_res (r_assign rfl) rfl ?_
    exact XT_says (.inl rfl) Tryd.results5 rfl rfl
end Go.Proofs.YtgnhpkdhicfeiaaDoor.NMk
