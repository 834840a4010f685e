/- MerkleProves, walked: true at every input. -/
import Derived.Test.YtgnhpkdhicfeiaaDoorNMkD
namespace Go.Proofs.YtgnhpkdhicfeiaaDoor.NMk
open Go Go.RowKit Go.Proofs.YtgnhpkdhicfeiaaDoor.MX Go.Proofs.YtgnhpkdhicfeiaaDoor.PSha Go.Proofs.YtgnhpkdhicfeiaaDoor.NSha Go.Proofs.YtgnhpkdhicfeiaaDoor.PMerkle
set_option linter.unusedVariables false
set_option linter.unusedSimpArgs false
set_option linter.unusedVariables false
theorem TellsO.rds {w w' : World} {o : Option (List Int)} {e : Ending} (h : TellsO 5 .u8 w o e w') : ∃ A c, e = .returned (.tuple #[.slice A (o.getD []).length c, .bool o.isSome]) ∧ Rds w' A c .u8 (o.getD []) ∧ Chg (fun _ => False) w w' := by
  obtain ⟨v, h1, ⟨A, c, rfl, h2, h3⟩, h4⟩ := h
  exact ⟨A, c, h1, rds_sl h2, h4⟩
theorem pathL_32 : ∀ (n : Nat) (l : List (List Int)) (m : Nat), l.length = n → (∀ x ∈ l, x.length = 32) → ∀ x ∈ pathL m l, x.length = 32 := by
  intro n
  induction n using Nat.strongRecOn with
  | _ n ih =>
    intro l m hl h x hx
    by_cases h1 : n ≤ 1
    · rw [pathL_1 (by omega)] at hx
      cases hx
    · have hc := cutN_bd (n := n) (by omega)
      by_cases hm : m < cutN l.length
      · rw [pathL_lo (by omega) hm, List.mem_append, List.mem_singleton] at hx
        rcases hx with hx | rfl
        · exact ih (cutN n) (by omega) _ _ (by rw [List.length_take]; rw [hl]; omega) (fun y hy => h y (List.mem_of_mem_take hy)) x hx
        · exact rootL_len (fun y hy => h y (List.mem_of_mem_drop hy))
      · rw [pathL_hi (by omega) hm, List.mem_append, List.mem_singleton] at hx
        rcases hx with hx | rfl
        · exact ih (n - cutN n) (by omega) _ _ (by rw [List.length_drop]; rw [hl]) (fun y hy => h y (List.mem_of_mem_drop hy)) x hx
        · exact rootL_len (fun y hy => h y (List.mem_of_mem_take hy))
theorem bridgeL_32 : ∀ (n : Nat) (l : List (List Int)) (m : Nat) (same : Bool), l.length = n → m ≤ n → 0 < m → (∀ x ∈ l, x.length = 32) → ∀ x ∈ bridgeL m l same, x.length = 32 := by
  intro n
  induction n using Nat.strongRecOn with
  | _ n ih =>
    intro l m same hl hmn h0 h x hx
    by_cases he : m = l.length
    · rw [bridgeL_eq he] at hx
      cases same
      · rw [if_neg (by decide), List.mem_singleton] at hx
        rw [hx]
        exact rootL_len h
      · rw [if_pos rfl] at hx
        cases hx
    · have hc := cutN_bd (n := n) (by omega)
      by_cases hm : m ≤ cutN l.length
      · rw [bridgeL_lo he (by omega) hm, List.mem_append, List.mem_singleton] at hx
        rcases hx with hx | rfl
        · exact ih (cutN n) (by omega) _ _ same (by rw [List.length_take]; rw [hl]; omega) (by rw [hl] at hm; exact hm) h0 (fun y hy => h y (List.mem_of_mem_take hy)) x hx
        · exact rootL_len (fun y hy => h y (List.mem_of_mem_drop hy))
      · rw [bridgeL_hi he (by omega) hm, List.mem_append, List.mem_singleton] at hx
        rcases hx with hx | rfl
        · exact ih (n - cutN n) (by omega) _ _ false (by rw [List.length_drop]; rw [hl]) (by rw [hl]; omega) (by omega) (fun y hy => h y (List.mem_of_mem_drop hy)) x hx
        · exact rootL_len (fun y hy => h y (List.mem_of_mem_take hy))
set_option maxRecDepth 100000 in
set_option maxHeartbeats 8000000 in
theorem proves_any (l : List ByD) (A : Option Addr) (c : Nat) (m n : Int) (w : World) (h : shLL.has w [.slice A l.length c] (A, c, l)) (hm : (Lit.int .i64 m).wf = true) (hn : (Lit.int .i64 n).wf = true) (hLd : Laid w) :
    Calls Tryd.prog 8 #[.slice A l.length c, .int .i64 m, .int .i64 n] w fun e w' => e = .returned (.bool true) ∧ Chg (fun _ => False) w w' := by
  obtain ⟨hL, hlen, hwf⟩ := lls_at h
  obtain ⟨hK, hZ⟩ := hLd
  obtain ⟨Ls, hLs⟩ : ∃ Ls, Ls = lss l := ⟨_, rfl⟩
  rw [← hLs] at hL hlen
  have hll : l.length = Ls.length := by rw [hLs, List.length_map]
  rw [hll]
  clear h hwf hLs hll
  refine calls_of_X (Rr := Says w (.bool true)) (vs := [_, _, _]) (M := Hp w (fun _ => False) []) Tryd.func8 rfl Tryd.ntmps8 rfl (Hp.nil _ _) ?_
  repeat first
    | refine XC_region ?_
    | refine X_nil ?_
    | refine XC_condF rfl ?_
    | refine XC_seq ?_
    | refine XT_seq ?_
    | refine XC_skip ?_
    | refine Y_res (r_move rfl) rfl ?_
    | refine Y_res (r_assign rfl) rfl ?_
    | refine Y_res (r_notB rfl) rfl ?_
    | refine Y_says (g := 9) rfl rfl (fun w1 hM => anchor_any w1 (hK.keep hM.chg (fun h => h)) (hZ.keep hM.chg)) ?_
    | refine Y_says (g := 10) rfl rfl (fun w1 hM => few_any Ls _ _ w1 (hL.keep hM.chg (fun _ h => h)) hlen) ?_
  by_cases hfew : fewS Ls
  · rw [decide_eq_true hfew]
    have hfl := few_len hfew
    repeat first
      | refine Y_res (r_move rfl) rfl ?_
      | refine Y_res (r_lss rfl rfl) rfl ?_
      | refine Y_on rfl rfl ?_
      | refine Y_res (r_pickF rfl rfl) rfl ?_
    refine Y_split rfl rfl (fun h1 => ?_) (fun h1 => ?_)
    · repeat first
        | refine XC_region ?_
        | refine X_nil ?_
        | refine XC_condT rfl ?_
        | refine XC_seq ?_
        | refine XT_seq ?_
        | refine XT_then_ret ?_
        | refine XC_ret ?_
        | refine Y_res (r_move rfl) rfl ?_
        | refine Y_res (r_assign rfl) rfl ?_
        | refine Y_off rfl rfl rfl ?_
        | refine Y_res (r_pickT rfl rfl) rfl ?_
      exact XT_says (.inl rfl) Tryd.results8 rfl rfl
    repeat first
      | refine Y_res (r_move rfl) rfl ?_
      | refine Y_res (r_geq rfl rfl) rfl ?_
      | refine Y_on rfl rfl ?_
      | refine Y_res (r_pickF rfl rfl) rfl ?_
    refine Y_split rfl rfl (fun h2 => ?_) (fun h2 => ?_)
    · repeat first
        | refine XC_region ?_
        | refine X_nil ?_
        | refine XC_condT rfl ?_
        | refine XC_seq ?_
        | refine XT_seq ?_
        | refine XT_then_ret ?_
        | refine XC_ret ?_
        | refine Y_res (r_assign rfl) rfl ?_
        | refine Y_off rfl rfl rfl ?_
        | refine Y_res (r_pickT rfl rfl) rfl ?_
      exact XT_says (.inl rfl) Tryd.results8 rfl rfl
    repeat first
      | refine X_nil ?_
      | refine XT_seq ?_
      | refine Y_res (r_move rfl) rfl ?_
      | refine Y_res (r_gtr rfl rfl) rfl ?_
      | refine Y_on rfl rfl ?_
      | refine Y_res (r_len rfl) rfl ?_
      | refine Y_res (r_pickF rfl rfl) rfl ?_
    refine XC_condP rfl (fun h3 => ?_) (fun h3 => ?_)
    · repeat first
        | refine XC_region ?_
        | refine X_nil ?_
        | refine XC_seq ?_
        | refine XT_seq ?_
        | refine XT_then_ret ?_
        | refine XC_ret ?_
        | refine Y_res (r_assign rfl) rfl ?_
      exact XT_says (.inl rfl) Tryd.results8 rfl rfl
    obtain ⟨m, rfl⟩ : ∃ q : Nat, m = q := ⟨m.toNat, by omega⟩
    obtain ⟨n, rfl⟩ : ∃ q : Nat, n = q := ⟨n.toNat, by omega⟩
    repeat first
      | refine XC_region ?_
      | refine XC_seq ?_
      | refine XT_seq ?_
      | refine XC_skip ?_
      | refine Y_res (r_move rfl) rfl ?_
    refine X_call (g := 11) rfl rfl (fun w1 q1 => (tree2_any Ls _ _ w1 (hL.keep q1.chg (fun _ h => h)) (Nat.le_trans hfew.1 (by decide)) hfl (hK.keep q1.chg (fun h => h))).mono ?_)
    rintro e w2 ⟨g, Al, cl, rfl, hT, hLl, hc⟩
    have k2 : Chg (fun _ => False) w w2 := q1.chg.over hc (fun _ _ h => h)
    refine ⟨_, rfl, Hp w2 (fun _ => False) [], Hp.nil _ _, ?_⟩
    clear q1 hc hLl
    replace hK := hK.keep k2 (fun h => h)
    replace hZ := hZ.keep k2
    have hl100 := hfew.1
    have hml : (Ls.map leafS).length = Ls.length := List.length_map ..
    have h32 := map_32 Ls
    have hmn : m < n := by omega
    have hnl : n ≤ Ls.length := by omega
    obtain ⟨x, hx⟩ : ∃ x, Ls[m]? = some x := ⟨Ls[m]'(by omega), List.getElem?_eq_getElem (by omega)⟩
    have hxl : (Ls.map leafS)[m]? = some (leafS x) := by rw [List.getElem?_map, hx]; rfl
    have hxlen := hfl x (List.mem_of_getElem? hx)
    obtain ⟨L, hLe⟩ : ∃ L, L = Ls.map leafS := ⟨_, rfl⟩
    rw [← hLe] at hT hml h32 hxl
    replace hL := hL.keep k2 (fun _ h => h)
    clear hLe hfl hlen hfew
    have htk : (L.take n).length = n := by rw [List.length_take]; omega
    have htk32 : ∀ y ∈ L.take n, y.length = 32 := fun y hy => h32 y (List.mem_of_mem_take hy)
    have hr32 : (rootL (L.take n)).length = 32 := rootL_len htk32
    have hf32 : (rootL (L.take m)).length = 32 := rootL_len (fun y hy => h32 y (List.mem_of_mem_take hy))
    -- the root of the first n
    repeat first
      | refine XC_region ?_
      | refine X_nil ?_
      | refine XC_seq ?_
      | refine XT_seq ?_
      | refine Y_res (r_move rfl) rfl ?_
      | refine Y_res (r_assign rfl) rfl ?_
      | refine Y_res (r_extract rfl rfl) rfl ?_
    refine X_call (g := 17) rfl rfl (fun w3 q3 => (rootx_any L g n w3 (hT.keep q3.chg) (by omega) h32 (hK.keep q3.chg (fun h => h)) (hZ.keep q3.chg) hn).mono ?_)
    intro e w4 hh
    obtain ⟨R, cr, rfl, hR, hc⟩ := hh.rds
    have k4 : Chg (fun _ => False) w2 w4 := q3.chg.over hc (fun _ _ h => h)
    have eR : rootO L n = some (rootL (L.take n)) := by rw [rootO, if_pos ⟨by omega, by omega⟩, Int.toNat_natCast]
    rw [eR] at hR ⊢
    refine ⟨_, rfl, Hp w4 (fun _ => False) [], Hp.nil _ _, ?_⟩
    clear hh hc q3 eR
    replace hT := hT.keep k4
    replace hK := hK.keep k4 (fun h => h)
    replace hZ := hZ.keep k4
    replace hL := hL.keep k4 (fun _ h => h)
    replace k4 : Chg (fun _ => False) w w4 := k2.over k4 (fun _ _ h => h)
    clear k2
    -- the root of the first m
    repeat first
      | refine XC_region ?_
      | refine X_nil ?_
      | refine XC_seq ?_
      | refine XT_seq ?_
      | refine Y_res (r_move rfl) rfl ?_
      | refine Y_res (r_assign rfl) rfl ?_
      | refine Y_res (r_extract rfl rfl) rfl ?_
    refine X_call (g := 17) rfl rfl (fun w5 q5 => (rootx_any L g m w5 (hT.keep q5.chg) (by omega) h32 (hK.keep q5.chg (fun h => h)) (hZ.keep q5.chg) hm).mono ?_)
    intro e w6 hh
    obtain ⟨F, cf, rfl, hF, hc⟩ := hh.rds
    have k6 : Chg (fun _ => False) w4 w6 := q5.chg.over hc (fun _ _ h => h)
    have eF : rootO L m = some (rootL (L.take m)) := by rw [rootO, if_pos ⟨by omega, by omega⟩, Int.toNat_natCast]
    rw [eF] at hF ⊢
    refine ⟨_, rfl, Hp w6 (fun _ => False) [], Hp.nil _ _, ?_⟩
    clear hh hc q5 eF
    replace hT := hT.keep k6
    replace hK := hK.keep k6 (fun h => h)
    replace hZ := hZ.keep k6
    replace hL := hL.keep k6 (fun _ h => h)
    replace hR := hR.keep k6 old_false
    replace k6 : Chg (fun _ => False) w w6 := k4.over k6 (fun _ _ h => h)
    clear k4
    -- the path
    repeat first
      | refine XC_region ?_
      | refine X_nil ?_
      | refine XC_seq ?_
      | refine XT_seq ?_
      | refine Y_res (r_move rfl) rfl ?_
      | refine Y_res (r_assign rfl) rfl ?_
      | refine Y_res (r_extract rfl rfl) rfl ?_
    refine X_call (g := 12) rfl rfl (fun w7 q7 => (pathx_any L g m n w7 (hT.keep q7.chg) (by omega) h32 (hK.keep q7.chg (fun h => h)) (hZ.keep q7.chg)).mono ?_)
    intro e w8 hh
    obtain ⟨P, cp, rfl, hP, hc⟩ := hh.lls
    have k8 : Chg (fun _ => False) w6 w8 := q7.chg.over hc (fun _ _ h => h)
    have eP : pathO L m n = some (pathL m (L.take n)) := by rw [pathO, if_pos ⟨by omega, by omega, by omega⟩, Int.toNat_natCast, Int.toNat_natCast]
    rw [eP] at hP ⊢
    refine ⟨_, rfl, Hp w8 (fun _ => False) [], Hp.nil _ _, ?_⟩
    clear hh hc q7 eP
    replace hT := hT.keep k8
    replace hK := hK.keep k8 (fun h => h)
    replace hZ := hZ.keep k8
    replace hL := hL.keep k8 (fun _ h => h)
    replace hR := hR.keep k8 old_false
    replace hF := hF.keep k8 old_false
    replace k8 : Chg (fun _ => False) w w8 := k6.over k8 (fun _ _ h => h)
    clear k6
    -- the bridge
    repeat first
      | refine XC_region ?_
      | refine X_nil ?_
      | refine XC_seq ?_
      | refine XT_seq ?_
      | refine Y_res (r_move rfl) rfl ?_
      | refine Y_res (r_assign rfl) rfl ?_
      | refine Y_res (r_extract rfl rfl) rfl ?_
    refine X_call (g := 15) rfl rfl (fun w9 q9 => (bridgex_any L g m n w9 (hT.keep q9.chg) (by omega) h32 (hK.keep q9.chg (fun h => h)) (hZ.keep q9.chg)).mono ?_)
    intro e w10 hh
    obtain ⟨B, cb, rfl, hB, hc⟩ := hh.lls
    have k10 : Chg (fun _ => False) w8 w10 := q9.chg.over hc (fun _ _ h => h)
    have eB : bridgeO L m n = some (if m = 0 then [] else bridgeL m (L.take n) true) := by
      rw [bridgeO, if_pos ⟨by omega, by omega, by omega⟩, Int.toNat_natCast, Int.toNat_natCast]
      by_cases h0 : m = 0
      · rw [if_pos h0, if_pos (.inl (by omega))]
      · rw [if_neg h0, if_neg (by omega)]
    rw [eB] at hB ⊢
    refine ⟨_, rfl, Hp w10 (fun _ => False) [], Hp.nil _ _, ?_⟩
    clear hh hc q9 eB hT hZ
    replace hK := hK.keep k10 (fun h => h)
    replace hL := hL.keep k10 (fun _ h => h)
    replace hR := hR.keep k10 old_false
    replace hF := hF.keep k10 old_false
    replace hP := hP.keep k10 (fun _ h => h)
    replace k10 : Chg (fun _ => False) w w10 := k8.over k10 (fun _ _ h => h)
    clear k8
    simp only [Option.getD_some, Option.isSome_some] at hR hF hP hB ⊢
    have hp32 := pathL_32 n (L.take n) m htk htk32
    obtain ⟨A', hup⟩ := path_up n (L.take n) m (leafS x) htk hmn (by rw [List.getElem?_take_of_lt hmn]; exact hxl)
    have hA := hL.some (by have := hL.le; omega)
    obtain ⟨X, cx, hcell, hrx⟩ := hL.at_ m x hx
    have hcl := hL.le
    repeat first
      | refine XC_region ?_
      | refine X_nil ?_
      | refine XC_seq ?_
      | refine XT_seq ?_
      | refine Y_res (r_move rfl) rfl ?_
      | refine Y_res (r_assign rfl) rfl ?_
      | refine Y_res (r_extract rfl rfl) rfl ?_
      | refine Y_res (r_indexO rfl rfl (by omega) hA) rfl ?_
      | refine Y_res (r_loadO rfl hcell (fun h => h)) rfl ?_
    refine X_tells (g := 22) (E := 5) (k := .u8) (z := leafS x) rfl rfl (fun w1 hM => leaf_any x X cx w1 (hrx.old hM old_false) hxlen (hK.keep hM.chg (fun h => h))) ?_
    intro Y cy y hy
    subst hy
    repeat first
      | refine Y_res (r_move rfl) rfl ?_
    refine Y_says (g := 23) rfl rfl (fun w1 hM => included_any (leafS x) (rootL (L.take n)) (pathL m (L.take n)) m n Y R P cy cr cp w1 (rds_sl hM.head) (hR.old hM old_false) (hP.keep hM.chg (fun _ h => h)) rfl hr32 hp32 hmn (by omega) (leafS x) A' hup (hK.keep hM.chg (fun h => h))) ?_
    have hsm : ∀ w1, Chg (fun _ => False) w10 w1 → Calls Tryd.prog 24 #[.int .i64 n, .int .i64 n, .slice R (rootL (L.take n)).length cr, .slice R (rootL (L.take n)).length cr, .slice none 0 0] w1 (Says w1 (.bool true)) := fun w1 hc => grown_same (rootL (L.take n)) n R R cr cr w1 (hR.keep hc old_false) (hR.keep hc old_false) hr32 (by omega) (hK.keep hc (fun h => h))
    by_cases h0 : m = 0
    · subst h0
      rw [if_pos rfl] at hB ⊢
      have hgn : ∀ w1, Chg (fun _ => False) w10 w1 → Calls Tryd.prog 24 #[.int .i64 ((0 : Nat) : Int), .int .i64 n, .slice F (rootL (L.take 0)).length cf, .slice R (rootL (L.take n)).length cr, .slice B ([] : List (List Int)).length cb] w1 (Says w1 (.bool true)) := fun w1 hc => by
        have e0 : rootL (L.take 0) = sumS KS [] := rootL_0
        rw [e0] at hF ⊢
        exact grown_none (rootL (L.take n)) n F R B cf cr cb w1 (hB.keep hc (fun _ h => h)) (hF.keep hc old_false) (hR.keep hc old_false) hr32 (by omega) (by omega) (hK.keep hc (fun h => h))
      repeat first
        | refine Y_res (r_move rfl) rfl ?_
        | refine Y_on rfl rfl ?_
      refine Y_says (g := 24) rfl rfl (fun w1 hM => hgn w1 hM.chg) ?_
      repeat first
        | refine Y_res (r_move rfl) rfl ?_
        | refine Y_on rfl rfl ?_
        | refine Y_res (r_pickT rfl rfl) rfl ?_
      refine Y_says (g := 24) rfl rfl (fun w1 hM => hsm w1 hM.chg) ?_
      repeat first
        | refine X_nil ?_
        | refine XT_seq ?_
        | refine XC_ret ?_
        | refine Y_res (r_assign rfl) rfl ?_
        | refine Y_res (r_pickT rfl rfl) rfl ?_
      exact XT_ret1 (.inl rfl) Tryd.results8 rfl (fun w' h => ⟨rfl, k10.over h.chg (fun _ _ h => h)⟩)
    · rw [if_neg h0] at hB ⊢
      have hb32 := bridgeL_32 n (L.take n) m true htk (by omega) (by omega) htk32
      obtain ⟨c0, rest, hb1, hb2⟩ := bridge_up n (L.take n) m htk (by omega) hmn
      have hbs := (bridge_same n (L.take n) m htk (by omega) (by omega) (.inl hmn)).symm.trans hb1
      rw [List.take_take, show min m n = m by omega] at hb2 hbs
      have hbl := bridgeL_len n m (L.take n) true htk
      repeat first
        | refine Y_res (r_move rfl) rfl ?_
        | refine Y_on rfl rfl ?_
      refine Y_says (g := 24) rfl rfl (fun w1 hM => grown_any (rootL (L.take m)) (rootL (L.take n)) (bridgeL m (L.take n) true) m n F R B cf cr cb w1 (hF.old hM old_false) (hR.old hM old_false) (hB.keep hM.chg (fun _ h => h)) hf32 hr32 hb32 (by omega) hmn (by omega) c0 rest hbs hb2 (by omega) (hK.keep hM.chg (fun h => h))) ?_
      repeat first
        | refine Y_res (r_move rfl) rfl ?_
        | refine Y_on rfl rfl ?_
        | refine Y_res (r_pickT rfl rfl) rfl ?_
      refine Y_says (g := 24) rfl rfl (fun w1 hM => hsm w1 hM.chg) ?_
      repeat first
        | refine X_nil ?_
        | refine XT_seq ?_
        | refine XC_ret ?_
        | refine Y_res (r_assign rfl) rfl ?_
        | refine Y_res (r_pickT rfl rfl) rfl ?_
      exact XT_ret1 (.inl rfl) Tryd.results8 rfl (fun w' h => ⟨rfl, k10.over h.chg (fun _ _ h => h)⟩)
  · rw [decide_eq_false hfew]
    repeat first
      | refine XC_region ?_
      | refine X_nil ?_
      | refine XC_condT rfl ?_
      | refine XC_seq ?_
      | refine XT_seq ?_
      | refine XT_then_ret ?_
      | refine XC_ret ?_
      | refine Y_res (r_move rfl) rfl ?_
      | refine Y_res (r_assign rfl) rfl ?_
      | refine Y_off rfl rfl rfl ?_
      | refine Y_res (r_pickT rfl rfl) rfl ?_
    exact XT_says (.inl rfl) Tryd.results8 rfl rfl
end Go.Proofs.YtgnhpkdhicfeiaaDoor.NMk
