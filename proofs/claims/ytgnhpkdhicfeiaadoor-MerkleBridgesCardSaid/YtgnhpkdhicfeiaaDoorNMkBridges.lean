/- MerkleBridges, walked: true at every input. -/
import Derived.Test.YtgnhpkdhicfeiaaDoorNMk9
namespace Go.Proofs.YtgnhpkdhicfeiaaDoor.NMk
open Go Go.RowKit Go.Proofs.YtgnhpkdhicfeiaaDoor.MX Go.Proofs.YtgnhpkdhicfeiaaDoor.PSha Go.Proofs.YtgnhpkdhicfeiaaDoor.NSha Go.Proofs.YtgnhpkdhicfeiaaDoor.PMerkle
set_option linter.unusedVariables false
set_option linter.unusedSimpArgs false
set_option linter.unusedVariables false
set_option maxRecDepth 100000 in
set_option maxHeartbeats 4000000 in
theorem bridges_any (l : List ByD) (A : Option Addr) (c : Nat) (m n : Int) (w : World) (h : shLL.has w [.slice A l.length c] (A, c, l)) (hm : (Lit.int .i64 m).wf = true) (hn : (Lit.int .i64 n).wf = true) (hLd : Laid w) :
    Calls Tryd.prog 4 #[.slice A l.length c, .int .i64 m, .int .i64 n] w fun e w' => e = .returned (.bool true) ∧ Chg (fun _ => False) w w' := by
  obtain ⟨hL, hlen, hwf⟩ := lls_at h
  obtain ⟨hK, hZ⟩ := hLd
  obtain ⟨Ls, hLs⟩ : ∃ Ls, Ls = lss l := ⟨_, rfl⟩
  rw [← hLs] at hL hlen
  have hll : l.length = Ls.length := by rw [hLs, List.length_map]
  rw [hll]
  clear h hwf hLs hll
  refine calls_of_X (Rr := Says w (.bool true)) (vs := [_, _, _]) (M := Hp w (fun _ => False) []) Tryd.func4 rfl Tryd.ntmps4 rfl (Hp.nil _ _) ?_
  repeat first
    | refine XC_region ?_
    | refine X_nil ?_
    | refine XC_condF rfl ?_
    | refine XC_seq ?_
    | refine XT_seq ?_
    | refine XC_skip ?_
    | refine Y_res (r_move rfl) rfl ?_
    | refine Y_res (r_assign rfl) rfl ?_
    | refine Y_res (r_notB rfl) rfl ?_
    | refine Y_says (g := 9) rfl rfl (fun w1 hM => anchor_any w1 (hK.keep hM.chg (fun h => h)) (hZ.keep hM.chg)) ?_
    | refine Y_says (g := 10) rfl rfl (fun w1 hM => few_any Ls _ _ w1 (hL.keep hM.chg (fun _ h => h)) hlen) ?_
  by_cases hfew : fewS Ls
  · rw [decide_eq_true hfew]
    have hfl := few_len hfew
    repeat first
      | refine XC_region ?_
      | refine XC_condF rfl ?_
      | refine XC_seq ?_
      | refine XT_seq ?_
      | refine XC_skip ?_
      | refine Y_res (r_move rfl) rfl ?_
    refine X_call (g := 11) rfl rfl (fun w1 q1 => (tree2_any Ls _ _ w1 (hL.keep q1.chg (fun _ h => h)) (Nat.le_trans hfew.1 (by decide)) hfl (hK.keep q1.chg (fun h => h))).mono ?_)
    rintro e w2 ⟨g, Al, cl, rfl, hT, hLl, hc⟩
    have k2 : Chg (fun _ => False) w w2 := q1.chg.over hc (fun _ _ h => h)
    refine ⟨_, rfl, Hp w2 (fun _ => False) [], Hp.nil _ _, ?_⟩
    clear q1 hc
    replace hK := hK.keep k2 (fun h => h)
    replace hZ := hZ.keep k2
    have hl100 := hfew.1
    have hml : (Ls.map leafS).length = Ls.length := List.length_map ..
    have h32 := map_32 Ls
    obtain ⟨L, hLe⟩ : ∃ L, L = Ls.map leafS := ⟨_, rfl⟩
    rw [← hLe] at hT hLl hml h32
    clear hLe hfl hlen hL hfew
    repeat first
      | refine XC_region ?_
      | refine X_nil ?_
      | refine XC_seq ?_
      | refine XT_seq ?_
      | refine Y_res (r_move rfl) rfl ?_
      | refine Y_res (r_assign rfl) rfl ?_
      | refine Y_res (r_extract rfl rfl) rfl ?_
    refine X_call (g := 15) rfl rfl (fun w3 q3 => (bridgex_any L g m n w3 (hT.keep q3.chg) (by omega) h32 (hK.keep q3.chg (fun h => h)) (hZ.keep q3.chg)).mono ?_)
    intro e w4 hh
    obtain ⟨A1, a1, rfl, hP, hc⟩ := hh.lls
    have k4 : Chg (fun _ => False) w2 w4 := q3.chg.over hc (fun _ _ h => h)
    refine ⟨_, rfl, Hp w4 (fun _ => False) [], Hp.nil _ _, ?_⟩
    clear hh hc q3
    replace hLl := hLl.keep k4 (fun _ h => h)
    replace k4 : Chg (fun _ => False) w w4 := k2.over k4 (fun _ _ h => h)
    clear k2 hT hK hZ
    by_cases hr : 0 ≤ m ∧ m ≤ n ∧ n ≤ L.length
    · obtain ⟨p, rfl⟩ : ∃ p : Nat, m = p := ⟨m.toNat, by omega⟩
      obtain ⟨q, rfl⟩ : ∃ q : Nat, n = q := ⟨n.toNat, by omega⟩
      have hcl := hLl.le
      have htl : (L.take q).length = q := by rw [List.length_take]; omega
      have e0 : bridgeO L p q = some (if (p : Int) = 0 ∨ (p : Int) = q then [] else bridgeL p (L.take q) true) := if_pos hr
      rw [e0] at hP ⊢
      repeat first
        | refine XC_region ?_
        | refine X_nil ?_
        | refine XC_seq ?_
        | refine XT_seq ?_
        | refine Y_res (r_move rfl) rfl ?_
        | refine Y_res (r_assign rfl) rfl ?_
        | refine Y_res (r_leq rfl rfl) rfl ?_
        | refine Y_res (r_geq rfl rfl) rfl ?_
        | refine Y_on rfl rfl ?_
        | refine Y_res (r_extract rfl rfl) rfl ?_
        | refine Y_res (r_pickT rfl rfl) rfl ?_
      refine Y_re (e := 36) (v' := .bool true) rfl (by rw [decide_eq_true hr.2.1]) ?_
      repeat first
        | refine X_nil ?_
        | refine XT_seq ?_
        | refine Y_res (r_move rfl) rfl ?_
        | refine Y_res (r_leq rfl rfl) rfl ?_
        | refine Y_res (r_neqB rfl rfl) rfl ?_
        | refine Y_on rfl rfl ?_
        | refine Y_res (r_len rfl) rfl ?_
        | refine Y_res (r_pickT rfl rfl) rfl ?_
      refine XC_re (e := 42) (v' := .bool false) rfl (by rw [decide_eq_true (show (q : Int) ≤ Ls.length by omega)]; rfl) ?_
      by_cases h0 : (p : Int) = 0 ∨ (p : Int) = q
      · rw [if_pos h0] at hP ⊢
        repeat first
          | refine XC_region ?_
          | refine XC_condF rfl ?_
          | refine XC_seq ?_
          | refine XT_seq ?_
          | refine XC_skip ?_
          | refine Y_res (r_move rfl) rfl ?_
          | refine Y_res (r_eql rfl rfl) rfl ?_
          | refine Y_on rfl rfl ?_
          | refine Y_res (r_notB rfl) rfl ?_
          | refine Y_res (r_pickF rfl rfl) rfl ?_
        refine Y_split rfl rfl (fun h1 => ?_) (fun h1 => ?_)
        · repeat first
            | refine XC_region ?_
            | refine X_nil ?_
            | refine XC_condT rfl ?_
            | refine XC_seq ?_
            | refine XT_seq ?_
            | refine XT_then_ret ?_
            | refine XC_ret ?_
            | refine Y_res (r_move rfl) rfl ?_
            | refine Y_res (r_assign rfl) rfl ?_
            | refine Y_res (r_eql rfl rfl) rfl ?_
            | refine Y_off rfl rfl rfl ?_
            | refine Y_res (r_len rfl) rfl ?_
            | refine Y_res (r_pickT rfl rfl) rfl ?_
          exact XT_ret1 (.inl rfl) Tryd.results4 rfl (fun w' h => ⟨rfl, k4.over h.chg (fun _ _ h => h)⟩)
        · repeat first
            | refine X_nil ?_
            | refine XT_seq ?_
            | refine Y_res (r_move rfl) rfl ?_
            | refine Y_res (r_eql rfl rfl) rfl ?_
            | refine Y_on rfl rfl ?_
            | refine Y_res (r_pickF rfl rfl) rfl ?_
          refine XC_re (e := 53) (v' := .bool true) rfl (by rw [decide_eq_true (h0.resolve_left h1)]) ?_
          repeat first
            | refine XC_region ?_
            | refine X_nil ?_
            | refine XC_condT rfl ?_
            | refine XC_seq ?_
            | refine XT_seq ?_
            | refine XT_then_ret ?_
            | refine XC_ret ?_
            | refine Y_res (r_move rfl) rfl ?_
            | refine Y_res (r_assign rfl) rfl ?_
            | refine Y_res (r_eql rfl rfl) rfl ?_
            | refine Y_res (r_len rfl) rfl ?_
          exact XT_ret1 (.inl rfl) Tryd.results4 rfl (fun w' h => ⟨rfl, k4.over h.chg (fun _ _ h => h)⟩)
      rw [if_neg h0] at hP ⊢
      repeat first
        | refine XC_region ?_
        | refine XC_condF rfl ?_
        | refine XC_seq ?_
        | refine XT_seq ?_
        | refine XC_skip ?_
        | refine Y_res (r_move rfl) rfl ?_
        | refine Y_res (r_eql rfl rfl) rfl ?_
        | refine Y_on rfl rfl ?_
        | refine Y_res (r_notB rfl) rfl ?_
        | refine Y_res (r_pickF rfl rfl) rfl ?_
      refine Y_re (e := 49) (v' := .bool false) rfl (by rw [decide_eq_false (fun h => h0 (.inl h))]) ?_
      repeat first
        | refine X_nil ?_
        | refine XT_seq ?_
        | refine Y_res (r_move rfl) rfl ?_
        | refine Y_res (r_eql rfl rfl) rfl ?_
        | refine Y_on rfl rfl ?_
        | refine Y_res (r_pickF rfl rfl) rfl ?_
      refine XC_re (e := 53) (v' := .bool false) rfl (by rw [decide_eq_false (fun h => h0 (.inr h))]) ?_
      repeat first
        | refine XC_region ?_
        | refine XC_condF rfl ?_
        | refine XC_seq ?_
        | refine XT_seq ?_
        | refine XC_skip ?_
        | refine Y_res (r_move rfl) rfl ?_
        | refine Y_res (r_cut0 rfl rfl (by omega)) rfl ?_
      refine X_call (g := 16) rfl rfl (fun w5 q5 => (show Calls Tryd.prog 16 #[.int .i64 p, .slice Al q cl, .bool true] w5 (TellsQ w4 (bridgeL p (L.take q) true)) from by
        have := rbridge_any q p (L.take q) Al cl true w4 w5 htl (by omega) (by omega) (by omega) (fun x hx => h32 x (List.mem_of_mem_take hx)) (hLl.take q) q5
        rwa [htl] at this).mono ?_)
      intro e w6 hh
      obtain ⟨A2, a2, rfl, hR, hc⟩ := hh.lls
      refine ⟨_, rfl, Hp w6 (fun _ => False) [], Hp.nil _ _, ?_⟩
      clear hh
      replace hP := hP.keep hc (fun _ h => h)
      replace k4 : Chg (fun _ => False) w w6 := k4.over hc (fun _ _ h => h)
      clear hc hLl
      repeat first
        | refine X_nil ?_
        | refine XT_seq ?_
        | refine XC_ret ?_
        | refine Y_res (r_assign rfl) rfl ?_
        | refine Y_says (g := 13) rfl rfl (fun w1 hM => samell_any (bridgeL p (L.take q) true) (bridgeL p (L.take q) true) _ _ _ _ w1 (hP.keep hM.chg (fun _ h => h)) (hR.keep hM.chg (fun _ h => h))) ?_
      exact XT_ret1 (.inl rfl) Tryd.results4 rfl (fun w' h => ⟨by simp, k4.over h.chg (fun _ _ h => h)⟩)
    · have e0 : bridgeO L m n = none := if_neg hr
      rw [e0] at hP ⊢
      repeat first
        | refine XC_region ?_
        | refine X_nil ?_
        | refine XC_seq ?_
        | refine XT_seq ?_
        | refine Y_res (r_move rfl) rfl ?_
        | refine Y_res (r_assign rfl) rfl ?_
        | refine Y_res (r_geq rfl rfl) rfl ?_
        | refine Y_res (r_extract rfl rfl) rfl ?_
      by_cases hn0 : 0 ≤ m
      · refine Y_re (e := 31) (v' := .bool true) rfl (by rw [decide_eq_true hn0]) ?_
        repeat first
          | refine Y_res (r_move rfl) rfl ?_
          | refine Y_res (r_leq rfl rfl) rfl ?_
          | refine Y_on rfl rfl ?_
          | refine Y_res (r_pickT rfl rfl) rfl ?_
        by_cases hn1 : m ≤ n
        · refine Y_re (e := 36) (v' := .bool true) rfl (by rw [decide_eq_true hn1]) ?_
          repeat first
            | refine X_nil ?_
            | refine XT_seq ?_
            | refine Y_res (r_move rfl) rfl ?_
            | refine Y_res (r_leq rfl rfl) rfl ?_
            | refine Y_res (r_neqB rfl rfl) rfl ?_
            | refine Y_on rfl rfl ?_
            | refine Y_res (r_len rfl) rfl ?_
            | refine Y_res (r_pickT rfl rfl) rfl ?_
          refine XC_re (e := 42) (v' := .bool false) rfl (by rw [decide_eq_false (show ¬ n ≤ Ls.length by omega)]; rfl) ?_
          repeat first
            | refine XC_region ?_
            | refine X_nil ?_
            | refine XC_condT rfl ?_
            | refine XC_condF rfl ?_
            | refine XC_seq ?_
            | refine XT_seq ?_
            | refine XT_then_ret ?_
            | refine XC_skip ?_
            | refine XC_ret ?_
            | refine Y_res (r_move rfl) rfl ?_
            | refine Y_res (r_assign rfl) rfl ?_
            | refine Y_res (r_eql rfl rfl) rfl ?_
            | refine Y_off rfl rfl rfl ?_
            | refine Y_res (r_notB rfl) rfl ?_
            | refine Y_res (r_len rfl) rfl ?_
            | refine Y_res (r_pickT rfl rfl) rfl ?_
          exact XT_ret1 (.inl rfl) Tryd.results4 rfl (fun w' h => ⟨rfl, k4.over h.chg (fun _ _ h => h)⟩)
        · refine Y_re (e := 36) (v' := .bool false) rfl (by rw [decide_eq_false hn1]) ?_
          repeat first
            | refine XC_region ?_
            | refine X_nil ?_
            | refine XC_condT rfl ?_
            | refine XC_condF rfl ?_
            | refine XC_seq ?_
            | refine XT_seq ?_
            | refine XT_then_ret ?_
            | refine XC_skip ?_
            | refine XC_ret ?_
            | refine Y_res (r_move rfl) rfl ?_
            | refine Y_res (r_assign rfl) rfl ?_
            | refine Y_res (r_eql rfl rfl) rfl ?_
            | refine Y_res (r_neqB rfl rfl) rfl ?_
            | refine Y_off rfl rfl rfl ?_
            | refine Y_res (r_notB rfl) rfl ?_
            | refine Y_res (r_len rfl) rfl ?_
            | refine Y_res (r_pickT rfl rfl) rfl ?_
            | refine Y_res (r_pickF rfl rfl) rfl ?_
          exact XT_ret1 (.inl rfl) Tryd.results4 rfl (fun w' h => ⟨rfl, k4.over h.chg (fun _ _ h => h)⟩)
      · refine Y_re (e := 31) (v' := .bool false) rfl (by rw [decide_eq_false hn0]) ?_
        repeat first
          | refine XC_region ?_
          | refine X_nil ?_
          | refine XC_condT rfl ?_
          | refine XC_condF rfl ?_
          | refine XC_seq ?_
          | refine XT_seq ?_
          | refine XT_then_ret ?_
          | refine XC_skip ?_
          | refine XC_ret ?_
          | refine Y_res (r_move rfl) rfl ?_
          | refine Y_res (r_assign rfl) rfl ?_
          | refine Y_res (r_eql rfl rfl) rfl ?_
          | refine Y_res (r_neqB rfl rfl) rfl ?_
          | refine Y_off rfl rfl rfl ?_
          | refine Y_res (r_notB rfl) rfl ?_
          | refine Y_res (r_len rfl) rfl ?_
          | refine Y_res (r_pickT rfl rfl) rfl ?_
          | refine Y_res (r_pickF rfl rfl) rfl ?_
        exact XT_ret1 (.inl rfl) Tryd.results4 rfl (fun w' h => ⟨rfl, k4.over h.chg (fun _ _ h => h)⟩)
  · rw [decide_eq_false hfew]
    repeat first
      | refine XC_region ?_
      | refine X_nil ?_
      | refine XC_condT rfl ?_
      | refine XC_seq ?_
      | refine XT_seq ?_
      | refine XT_then_ret ?_
      | refine XC_ret ?_
      | refine Y_res (r_assign rfl) rfl ?_
    exact XT_says (.inl rfl) Tryd.results4 rfl rfl
end Go.Proofs.YtgnhpkdhicfeiaaDoor.NMk
