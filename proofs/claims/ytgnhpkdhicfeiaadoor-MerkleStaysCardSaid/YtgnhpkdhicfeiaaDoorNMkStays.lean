/- MerkleStays, walked: true at every input. -/
import Derived.Test.YtgnhpkdhicfeiaaDoorNMk9
namespace Go.Proofs.YtgnhpkdhicfeiaaDoor.NMk
open Go Go.RowKit Go.Proofs.YtgnhpkdhicfeiaaDoor.MX Go.Proofs.YtgnhpkdhicfeiaaDoor.PSha Go.Proofs.YtgnhpkdhicfeiaaDoor.NSha Go.Proofs.YtgnhpkdhicfeiaaDoor.PMerkle
set_option linter.unusedVariables false
set_option linter.unusedSimpArgs false
set_option linter.unusedVariables false
set_option maxRecDepth 100000 in
set_option maxHeartbeats 4000000 in
theorem stays_any (l : List ByD) (A : Option Addr) (c : Nat) (n m : Int) (w : World) (h : shLL.has w [.slice A l.length c] (A, c, l)) (hn : (Lit.int .i64 n).wf = true) (hm : (Lit.int .i64 m).wf = true) (hLd : Laid w) :
    Calls Tryd.prog 6 #[.slice A l.length c, .int .i64 n, .int .i64 m] w fun e w' => e = .returned (.bool true) ∧ Chg (fun _ => False) w w' := by
  obtain ⟨hL, hlen, hwf⟩ := lls_at h
  obtain ⟨hK, hZ⟩ := hLd
  obtain ⟨Ls, hLs⟩ : ∃ Ls, Ls = lss l := ⟨_, rfl⟩
  rw [← hLs] at hL hlen
  have hll : l.length = Ls.length := by rw [hLs, List.length_map]
  rw [hll]
  clear h hwf hLs hll
  refine calls_of_X (Rr := Says w (.bool true)) (vs := [_, _, _]) (M := Hp w (fun _ => False) []) Tryd.func6 rfl Tryd.ntmps6 rfl (Hp.nil _ _) ?_
  repeat first
    | refine XC_region ?_
    | refine X_nil ?_
    | refine XC_condF rfl ?_
    | refine XC_seq ?_
    | refine XT_seq ?_
    | refine XC_skip ?_
    | refine Y_res (r_move rfl) rfl ?_
    | refine Y_res (r_assign rfl) rfl ?_
    | refine Y_res (r_notB rfl) rfl ?_
    | refine Y_says (g := 9) rfl rfl (fun w1 hM => anchor_any w1 (hK.keep hM.chg (fun h => h)) (hZ.keep hM.chg)) ?_
    | refine Y_says (g := 10) rfl rfl (fun w1 hM => few_any Ls _ _ w1 (hL.keep hM.chg (fun _ h => h)) hlen) ?_
  by_cases hfew : fewS Ls
  · rw [decide_eq_true hfew]
    have hfl := few_len hfew
    repeat first
      | refine Y_res (r_move rfl) rfl ?_
      | refine Y_res (r_lss rfl rfl) rfl ?_
      | refine Y_on rfl rfl ?_
      | refine Y_res (r_pickF rfl rfl) rfl ?_
    refine Y_split rfl rfl (fun h1 => ?_) (fun h1 => ?_)
    · repeat first
        | refine XC_region ?_
        | refine X_nil ?_
        | refine XC_condT rfl ?_
        | refine XC_seq ?_
        | refine XT_seq ?_
        | refine XT_then_ret ?_
        | refine XC_ret ?_
        | refine Y_res (r_move rfl) rfl ?_
        | refine Y_res (r_assign rfl) rfl ?_
        | refine Y_off rfl rfl rfl ?_
        | refine Y_res (r_pickT rfl rfl) rfl ?_
      exact XT_says (.inl rfl) Tryd.results6 rfl rfl
    repeat first
      | refine Y_res (r_move rfl) rfl ?_
      | refine Y_res (r_gtr rfl rfl) rfl ?_
      | refine Y_on rfl rfl ?_
      | refine Y_res (r_len rfl) rfl ?_
      | refine Y_res (r_pickF rfl rfl) rfl ?_
    refine Y_split rfl rfl (fun h2 => ?_) (fun h2 => ?_)
    · repeat first
        | refine XC_region ?_
        | refine X_nil ?_
        | refine XC_condT rfl ?_
        | refine XC_seq ?_
        | refine XT_seq ?_
        | refine XT_then_ret ?_
        | refine XC_ret ?_
        | refine Y_res (r_move rfl) rfl ?_
        | refine Y_res (r_assign rfl) rfl ?_
        | refine Y_off rfl rfl rfl ?_
        | refine Y_res (r_pickT rfl rfl) rfl ?_
      exact XT_says (.inl rfl) Tryd.results6 rfl rfl
    repeat first
      | refine Y_res (r_move rfl) rfl ?_
      | refine Y_res (r_lss rfl rfl) rfl ?_
      | refine Y_on rfl rfl ?_
      | refine Y_res (r_pickF rfl rfl) rfl ?_
    refine Y_split rfl rfl (fun h3 => ?_) (fun h3 => ?_)
    · repeat first
        | refine XC_region ?_
        | refine X_nil ?_
        | refine XC_condT rfl ?_
        | refine XC_seq ?_
        | refine XT_seq ?_
        | refine XT_then_ret ?_
        | refine XC_ret ?_
        | refine Y_res (r_assign rfl) rfl ?_
        | refine Y_off rfl rfl rfl ?_
        | refine Y_res (r_pickT rfl rfl) rfl ?_
      exact XT_says (.inl rfl) Tryd.results6 rfl rfl
    repeat first
      | refine X_nil ?_
      | refine XT_seq ?_
      | refine Y_res (r_move rfl) rfl ?_
      | refine Y_res (r_geq rfl rfl) rfl ?_
      | refine Y_on rfl rfl ?_
      | refine Y_res (r_pickF rfl rfl) rfl ?_
    refine XC_condP rfl (fun h4 => ?_) (fun h4 => ?_)
    · repeat first
        | refine XC_region ?_
        | refine X_nil ?_
        | refine XC_seq ?_
        | refine XT_seq ?_
        | refine XT_then_ret ?_
        | refine XC_ret ?_
        | refine Y_res (r_assign rfl) rfl ?_
      exact XT_says (.inl rfl) Tryd.results6 rfl rfl
    obtain ⟨q, rfl⟩ : ∃ q : Nat, n = q := ⟨n.toNat, by omega⟩
    obtain ⟨p, rfl⟩ : ∃ p : Nat, m = p := ⟨m.toNat, by omega⟩
    have hq : 1 ≤ q := by omega
    have hql : q ≤ Ls.length := by omega
    have hpq : p < q := by omega
    have hl100 := hfew.1
    have hw0 := hK.pos
    have hle := hL.le
    have htl : (Ls.take q).length = q := by rw [List.length_take]; omega
    clear h1 h2 h3 h4 hfew hlen
    repeat first
      | refine XC_region ?_
      | refine XC_seq ?_
      | refine XT_seq ?_
      | refine XC_skip ?_
      | refine Y_res (r_move rfl) rfl ?_
      | refine Y_res (r_cut0 rfl rfl (by omega)) rfl ?_
    have htree := fun w1 (q1 : Hp w (fun _ => False) [] w1) => tree_any (Ls.take q) A c w1 ((hL.keep q1.chg (fun _ h => h)).take q) (by omega) (fun d hd => hfl d (List.mem_of_mem_take hd)) (hK.keep q1.chg (fun h => h))
    rw [htl] at htree
    refine X_call (g := 11) rfl rfl (fun w1 q1 => (htree w1 q1).mono ?_)
    rintro e w2 ⟨g, A0, c0, rows, its, Al, cl, js, rfl, ht, _, hh⟩
    refine ⟨_, rfl, Hp w (fun _ => False) (TrC g A0 c0 rows its), Hp.sublist (q1.frame0 hh) (by rw [List.append_nil]; exact .cons _ (.cons _ (List.Sublist.refl _))), ?_⟩
    clear hh q1 htree
    obtain ⟨L, hLe⟩ : ∃ L, L = (Ls.take q).map leafS := ⟨_, rfl⟩
    have hLl : L.length = q := by rw [hLe, List.length_map, htl]
    have h32 : ∀ x ∈ L, x.length = 32 := by rw [hLe]; exact map_32 _
    rw [← hLe] at ht
    have hT := fun w1 (q1 : Hp w (fun _ => False) (TrC g A0 c0 rows its) w1) => treeAt_of (S := fun _ => False) (es := []) (by rw [List.append_nil]; exact q1) ht
    have eR : rootO L q = some (rootL L) := by
      rw [rootO, if_pos ⟨by omega, by omega⟩]
      have : L.take (q : Int).toNat = L := List.take_of_length_le (by omega)
      rw [this]
    have htq : L.take (q : Int).toNat = L := List.take_of_length_le (by omega)
    have eP : pathO L p q = some (pathL p L) := by
      rw [pathO, if_pos ⟨by omega, by omega, by omega⟩, htq]; rfl
    have eB : bridgeO L p q = some (if (p : Int) = 0 ∨ (p : Int) = q then [] else bridgeL p L true) := by
      rw [bridgeO, if_pos ⟨by omega, by omega, by omega⟩, htq]; rfl
    obtain ⟨Rt, hRt⟩ : ∃ Rt, Rt = rootL L := ⟨_, rfl⟩
    obtain ⟨Pp, hPp⟩ : ∃ Pp, Pp = pathL p L := ⟨_, rfl⟩
    obtain ⟨Bp, hBp⟩ : ∃ Bp, Bp = (if (p : Int) = 0 ∨ (p : Int) = q then [] else bridgeL p L true) := ⟨_, rfl⟩
    rw [← hRt] at eR
    rw [← hPp] at eP
    rw [← hBp] at eB
    have hRl : Rt.length = 32 := by rw [hRt]; exact rootL_len h32
    repeat first
      | refine XC_region ?_
      | refine X_nil ?_
      | refine XC_seq ?_
      | refine XT_seq ?_
      | refine Y_res (r_move rfl) rfl ?_
      | refine Y_res (r_assign rfl) rfl ?_
      | refine Y_res (r_extract rfl rfl) rfl ?_
    refine X_call (g := 17) rfl rfl (fun w3 q3 => (rootx_any L g q w3 (hT w3 q3) (by omega) h32 (hK.keep q3.chg (fun h => h)) (hZ.keep q3.chg) hn).mono ?_)
    rw [eR]
    rintro e w4 ⟨v, rfl, ⟨A3, c3, rfl, hp, hf⟩, hc⟩
    refine ⟨_, rfl, _, q3.add hc hp hf, ?_⟩
    clear q3 hp hf hc
    repeat first
      | refine XC_region ?_
      | refine X_nil ?_
      | refine XC_seq ?_
      | refine XT_seq ?_
      | refine Y_res (r_move rfl) rfl ?_
      | refine Y_res (r_assign rfl) rfl ?_
      | refine Y_res (r_extract rfl rfl) rfl ?_
    refine X_call (g := 12) rfl rfl (fun w3 q3 => (pathx_any L g p q w3 (hT w3 q3.tail) (by omega) h32 (hK.keep q3.chg (fun h => h)) (hZ.keep q3.chg)).mono ?_)
    rw [eP]
    rintro e w4 ⟨A4, a4, js4, rfl, hj4, hh⟩
    refine ⟨_, rfl, _, q3.frame0 hh, ?_⟩
    clear q3 hh
    repeat first
      | refine XC_region ?_
      | refine X_nil ?_
      | refine XC_seq ?_
      | refine XT_seq ?_
      | refine Y_res (r_move rfl) rfl ?_
      | refine Y_res (r_assign rfl) rfl ?_
      | refine Y_res (r_extract rfl rfl) rfl ?_
    refine X_call (g := 15) rfl rfl (fun w3 q3 => (bridgex_any L g p q w3 (hT w3 (Hp.sublist q3 (.cons _ (.cons _ (.cons _ (List.Sublist.refl _)))))) (by omega) h32 (hK.keep q3.chg (fun h => h)) (hZ.keep q3.chg)).mono ?_)
    rw [eB]
    rintro e w4 ⟨A5, a5, js5, rfl, hj5, hh⟩
    refine ⟨_, rfl, _, q3.frame0 hh, ?_⟩
    clear q3 hh hT
    dsimp only [Option.getD_some, List.cons_append, List.nil_append] at hj4 hj5 ⊢
    repeat first
      | refine XC_region ?_
      | refine X_nil ?_
      | refine XC_seq ?_
      | refine XT_seq ?_
      | refine XC_block ?_
      | refine Y_res (r_move rfl) rfl ?_
      | refine Y_res (r_assign rfl) rfl ?_
      | refine Y_res (r_len rfl) rfl ?_
      | refine Y_res (r_extract rfl rfl) rfl ?_
      | (refine X_buildS (by rfl) (by rfl) (by simp) rfl ?_; intro _ _)
      | (refine X_appendI rfl rfl (fun w_ hM => (by first | exact Rds.old (by assumption) hM old_false | exact rds_sl (PkS.has inferInstance hM))) rfl rfl rfl (by simp only [List.length_nil]; omega) (by simp only [List.length_nil]; omega) rfl ?_; intro _ _; try simp only [List.nil_append])
    rename_i g9 hg9 A6 c6
    refine XC_loop (ι := Nat × List Int) (fun s => s.1 ≤ Rt.length ∧ s.2.length = Rt.length) (fun s => [(0, .slice A Ls.length c), (1, .int .i64 q), (2, .int .i64 p), (7, .pointer (some ⟨g, 0, none⟩)), (9, .slice A3 Rt.length c3), (11, .slice A4 Pp.length a4), (13, .slice A5 Bp.length a5), (15, .slice A6 Rt.length c6), (79, .slice A3 Rt.length c3), (80, .int .i64 Rt.length), (81, .int .i64 s.1)])
      (fun s => Hp w (fun _ => False) (Ch.sl A6 c6 5 .u8 Rt :: Ch.sv A5 a5 34 1 Bp.length (js5.map It.val) :: Ch.bagN js5 :: Ch.sv A4 a4 34 1 Pp.length (js4.map It.val) :: Ch.bagN js4 :: Ch.sl A3 c3 5 .u8 s.2 :: TrC g A0 c0 rows its)) (fun s => Rt.length - s.1) (0, Rt) ⟨Nat.zero_le _, rfl⟩ ⟨rfl, rfl, rfl, rfl, rfl, rfl, rfl, rfl, rfl, rfl, rfl, trivial⟩ (fun _ h => h) ?_
    rintro ⟨i, xs⟩ ⟨hi, hxl⟩
    dsimp only at hi hxl ⊢
    repeat first
      | refine XC_region ?_
      | refine X_nil ?_
      | refine XC_seq ?_
      | refine XT_seq ?_
      | refine Y_res (r_lss rfl rfl) rfl ?_
    refine XC_condP rfl (fun hlt => ?_) (fun hge => ?_)
    · have hi2 : i < Rt.length := by omega
      repeat first
        | refine XC_region ?_
        | refine X_nil ?_
        | refine XC_seq ?_
        | refine XT_seq ?_
        | refine XC_block ?_
        | refine XT_block_normal ?_
        | refine XC_skip ?_
        | refine Y_res (r_move rfl) rfl ?_
        | refine Y_res (r_assign rfl) rfl ?_
        | refine Y_res (r_add64 rfl rfl (by omega)) rfl ?_
        | refine Y_res (r_xor rfl rfl) rfl ?_
        | refine Y_res (r_indexS rfl rfl (by omega) (by first | omega | (simp only [List.length_set, List.length_replicate]; omega))) rfl ?_
        | refine Y_res (r_loadI rfl (by first | omega | (simp only [List.length_set, List.length_replicate]; omega))) rfl ?_
        | refine X_storeI rfl rfl (by first | omega | (simp only [List.length_set, List.length_replicate]; omega)) ?_
      exact XT_round (i + 1, xs.set i (bits .xor .u8 (xs.getD i 0) 255)) ⟨hi2, by rw [List.length_set]; exact hxl⟩ (by dsimp only; omega) ⟨rfl, rfl, rfl, rfl, rfl, rfl, rfl, rfl, rfl, rfl, rfl, trivial⟩ (fun _ h => h)
    clear hge hi
    have hLs := hLe
    obtain ⟨rest, hrest⟩ : ∃ rest, rest = Ls.drop q := ⟨_, rfl⟩
    have hrl : rest.length = Ls.length - q := by rw [hrest, List.length_drop]
    have hLd := hL.drop q hql
    rw [← hrest] at hLd
    repeat first
      | refine XC_region ?_
      | refine X_nil ?_
      | refine XC_seq ?_
      | refine XT_seq ?_
      | refine XC_block ?_
      | refine XT_block_same rfl ?_
      | refine XT_then_exit ?_
      | refine XC_exit ?_
      | refine Y_res (r_move rfl) rfl ?_
      | refine Y_res (r_len rfl) rfl ?_
      | refine Y_res (r_cutL rfl rfl (by omega)) rfl ?_
    obtain ⟨ds, hds⟩ : ∃ ds, ds = [Ch.sl A6 c6 5 .u8 Rt, Ch.sv A5 a5 34 1 Bp.length (js5.map It.val), Ch.bagN js5, Ch.sv A4 a4 34 1 Pp.length (js4.map It.val), Ch.bagN js4, Ch.sl A3 c3 5 .u8 xs] := ⟨_, rfl⟩
    refine XC_loop (ι := Nat × (Option Addr × Nat × List It × List It)) (fun s => s.1 ≤ rest.length ∧ TrOk ((Ls.take (q + s.1)).map leafS) s.2.2.2.1 s.2.2.2.2)
      (fun s => [(0, .slice A Ls.length c), (1, .int .i64 q), (2, .int .i64 p), (7, .pointer (some ⟨g, 0, none⟩)), (11, .slice A4 Pp.length a4), (13, .slice A5 Bp.length a5), (15, .slice A6 Rt.length c6), (93, .slice (cutA A q c 1) (Ls.length - q) (c - q)), (94, .int .i64 ((Ls.length - q : Nat) : Int)), (95, .int .i64 s.1)])
      (fun s => Hp w (fun _ => False) (TrC g s.2.1 s.2.2.1 s.2.2.2.1 s.2.2.2.2 ++ ds)) (fun s => rest.length - s.1) (0, A0, c0, rows, its) ⟨Nat.zero_le _, by rw [hLe] at ht; exact ht⟩ ⟨rfl, rfl, rfl, rfl, rfl, rfl, rfl, rfl, rfl, rfl, trivial⟩ (fun _ h => by rw [hds]; exact h.of_perm (List.perm_append_comm (l₁ := [_, _, _, _, _, _]))) ?_
    clear ht
    rintro ⟨i, A0, c0, rows, its⟩ ⟨hi, ht⟩
    dsimp only at hi ht ⊢
    repeat first
      | refine XC_region ?_
      | refine X_nil ?_
      | refine XC_seq ?_
      | refine XT_seq ?_
      | refine Y_res (r_lss rfl rfl) rfl ?_
    refine XC_condP rfl (fun hlt => ?_) (fun hge => ?_)
    · have hi2 : i < rest.length := by omega
      have hi3 : i < Ls.length - q := by omega
      have hA := hLd.some (by have := hLd.le; omega)
      obtain ⟨d, hld⟩ : ∃ d, rest[i]? = some d := ⟨rest[i], List.getElem?_eq_getElem hi2⟩
      obtain ⟨B, b, hcell, hrd⟩ := hLd.at_ i d hld
      have hld2 : Ls[q + i]? = some d := by rw [hrest, List.getElem?_drop] at hld; exact hld
      have hdl := hfl d (List.mem_of_getElem? hld2)
      have htk : (Ls.take (q + (i + 1))).map leafS = (Ls.take (q + i)).map leafS ++ [leafS d] := by
        obtain ⟨l1, e1⟩ := List.getElem?_eq_some_iff.1 hld2
        rw [← Nat.add_assoc, List.take_succ_eq_append_getElem l1, e1, List.map_append]; rfl
      have hml : ((Ls.take (q + i)).map leafS).length = q + i := by rw [List.length_map, List.length_take]; omega
      repeat first
        | refine XC_region ?_
        | refine X_nil ?_
        | refine XC_seq ?_
        | refine XT_seq ?_
        | refine XC_block ?_
        | refine XC_skip ?_
        | refine Y_res (r_move rfl) rfl ?_
        | refine Y_res (r_assign rfl) rfl ?_
        | refine Y_res (r_indexO rfl rfl hi3 hA) rfl ?_
        | refine Y_res (r_loadO rfl hcell (fun h => h)) rfl ?_
      refine X_call (g := 21) rfl rfl (fun w1 q1 => ?_)
      have q3 := q1.less
      refine (add_any ((Ls.take (q + i)).map leafS) d g c0 A0 rows its _ B b w1 q3.base ht (hrd.old q1 old_false) hdl (fun hne ad ha hk => ?_) (by omega) (fun x hx => ?_) (hK.keep q1.chg (fun h => h)) (fun hk => ?_)).mono ?_
      · have := own_new q3 hk
        have := MX.rds_lt hrd hne ha
        omega
      · obtain ⟨y, _, rfl⟩ := List.mem_map.1 hx
        rfl
      · have := own_new q3 hk
        omega
      rintro e w2 ⟨rfl, A0', c0', rows', its', ht', q4⟩
      refine ⟨_, rfl, _, q1.frameL q4, ?_⟩
      clear q1 q3 q4
      rw [← htk] at ht'
      repeat first
        | refine XC_region ?_
        | refine X_nil ?_
        | refine XT_seq ?_
        | refine XT_block_normal ?_
        | refine Y_res (r_move rfl) rfl ?_
        | refine Y_res (r_add64 rfl rfl (by omega)) rfl ?_
      exact XT_round (i + 1, A0', c0', rows', its') ⟨hi2, ht'⟩ (by dsimp only; omega) ⟨rfl, rfl, rfl, rfl, rfl, rfl, rfl, rfl, rfl, rfl, trivial⟩ (fun _ h => h)
    have hge : i = rest.length := by omega
    subst hge
    rw [hrl, show q + (Ls.length - q) = Ls.length by omega, List.take_length] at ht
    refine XC_base (S1 := fun _ => False) (fun w3 hw3 => ?_)
    have hT3 := treeAt_of (S := fun _ => False) hw3 ht
    have h6 : Hp w (fun _ => False) ds w3 := Hp.sublist hw3 (List.sublist_append_right _ _)
    have k3 : Chg (fun _ => False) w w3 := hw3.chg
    rw [hds] at h6
    have hKept : Rds w3 A6 c6 .u8 Rt := rds_sl h6.head
    have hBl : LLs .u8 w3 A5 a5 Bp := lls_js h6.tail.head (fun it hit => bagN_rd h6.tail.tail.head hit) hj5
    have hPl : LLs .u8 w3 A4 a4 Pp := lls_js h6.tail.tail.tail.head (fun it hit => bagN_rd h6.tail.tail.tail.tail.head hit) hj4
    clear h6 hw3 hds ht hLd hL hrest
    replace hK := hK.keep k3 (fun h => h)
    replace hZ := hZ.keep k3
    obtain ⟨M, hM0⟩ : ∃ M, M = Ls.map leafS := ⟨_, rfl⟩
    have hMl : M.length = Ls.length := by rw [hM0, List.length_map]
    have hM32 : ∀ x ∈ M, x.length = 32 := by rw [hM0]; exact map_32 _
    have hMt : M.take q = L := by rw [hM0, hLe, List.map_take]
    rw [← hM0] at hT3
    have fR : rootO M q = some Rt := by
      rw [rootO, if_pos ⟨by omega, by omega⟩]
      show some (rootL (M.take q)) = _
      rw [hMt, hRt]
    have fP : pathO M p q = some Pp := by
      rw [pathO, if_pos ⟨by omega, by omega, by omega⟩]
      show some (pathL p (M.take q)) = _
      rw [hMt, hPp]
    have fB : bridgeO M p q = some Bp := by
      rw [bridgeO, if_pos ⟨by omega, by omega, by omega⟩]
      show some (if _ then [] else bridgeL p (M.take q) true) = _
      rw [hMt, hBp]
    clear hM0
    repeat first
      | refine XC_region ?_
      | refine XC_seq ?_
      | refine XT_seq ?_
      | refine XT_block_same rfl ?_
      | refine XT_then_exit ?_
      | refine XC_exit ?_
      | refine Y_res (r_move rfl) rfl ?_
    refine X_call (g := 17) rfl rfl (fun w4 q4 => (rootx_any M g q w4 (hT3.keep q4.chg) (by omega) hM32 (hK.keep q4.chg (fun h => h)) (hZ.keep q4.chg) hn).mono ?_)
    rw [fR]
    rintro e w5 ⟨v, rfl, ⟨A7, c7, rfl, hp7, hf7⟩, hc⟩
    have k5 : Chg (fun _ => False) w3 w5 := q4.chg.over hc (fun _ _ h => h)
    refine ⟨_, rfl, Hp w5 (fun _ => False) [], Hp.nil _ _, ?_⟩
    have hAg : Rds w5 A7 c7 .u8 Rt := rds_sl hp7
    clear q4 hc hp7 hf7
    replace hT3 := hT3.keep k5
    replace hKept := hKept.keep k5 (fun _ _ h => h)
    replace hBl := hBl.keep k5 (fun _ h => h)
    replace hPl := hPl.keep k5 (fun _ h => h)
    replace hK := hK.keep k5 (fun h => h)
    replace hZ := hZ.keep k5
    replace k5 : Chg (fun _ => False) w w5 := k3.over k5 (fun _ _ h => h)
    clear k3
    dsimp only [Option.getD_some]
    repeat first
      | refine XC_region ?_
      | refine X_nil ?_
      | refine XC_seq ?_
      | refine XT_seq ?_
      | refine Y_res (r_move rfl) rfl ?_
      | refine Y_res (r_assign rfl) rfl ?_
      | refine Y_res (r_extract rfl rfl) rfl ?_
    refine X_call (g := 12) rfl rfl (fun w6 q6 => (pathx_any M g p q w6 (hT3.keep q6.chg) (by omega) hM32 (hK.keep q6.chg (fun h => h)) (hZ.keep q6.chg)).mono ?_)
    rw [fP]
    intro e w7 hh
    obtain ⟨A8, a8, rfl, hP2, hc⟩ := hh.lls
    have k7 : Chg (fun _ => False) w5 w7 := q6.chg.over hc (fun _ _ h => h)
    refine ⟨_, rfl, Hp w7 (fun _ => False) [], Hp.nil _ _, ?_⟩
    clear hh hc q6
    replace hT3 := hT3.keep k7
    replace hKept := hKept.keep k7 (fun _ _ h => h)
    replace hAg := hAg.keep k7 (fun _ _ h => h)
    replace hBl := hBl.keep k7 (fun _ h => h)
    replace hPl := hPl.keep k7 (fun _ h => h)
    replace hK := hK.keep k7 (fun h => h)
    replace hZ := hZ.keep k7
    replace k7 : Chg (fun _ => False) w w7 := k5.over k7 (fun _ _ h => h)
    clear k5
    repeat first
      | refine XC_region ?_
      | refine X_nil ?_
      | refine XC_seq ?_
      | refine XT_seq ?_
      | refine Y_res (r_move rfl) rfl ?_
      | refine Y_res (r_assign rfl) rfl ?_
      | refine Y_res (r_extract rfl rfl) rfl ?_
    refine X_call (g := 15) rfl rfl (fun w8 q8 => (bridgex_any M g p q w8 (hT3.keep q8.chg) (by omega) hM32 (hK.keep q8.chg (fun h => h)) (hZ.keep q8.chg)).mono ?_)
    rw [fB]
    intro e w9 hh
    obtain ⟨A9, a9, rfl, hB2, hc⟩ := hh.lls
    have k9 : Chg (fun _ => False) w7 w9 := q8.chg.over hc (fun _ _ h => h)
    refine ⟨_, rfl, Hp w9 (fun _ => False) [], Hp.nil _ _, ?_⟩
    clear hh hc q8
    replace hT3 := hT3.keep k9
    replace hKept := hKept.keep k9 (fun _ _ h => h)
    replace hAg := hAg.keep k9 (fun _ _ h => h)
    replace hBl := hBl.keep k9 (fun _ h => h)
    replace hPl := hPl.keep k9 (fun _ h => h)
    replace hP2 := hP2.keep k9 (fun _ h => h)
    replace k9 : Chg (fun _ => False) w w9 := k7.over k9 (fun _ _ h => h)
    clear k7 hK hZ
    dsimp only [Option.getD_some] at hP2 hB2 ⊢
    repeat first
      | refine XC_region ?_
      | refine X_nil ?_
      | refine XC_seq ?_
      | refine XT_seq ?_
      | refine Y_res (r_move rfl) rfl ?_
      | refine Y_res (r_assign rfl) rfl ?_
      | refine Y_on rfl rfl ?_
      | refine Y_res (r_extract rfl rfl) rfl ?_
      | refine Y_res (r_pickT rfl rfl) rfl ?_
    refine Y_says (g := 19) (v := .bool (decide (Rt = Rt))) rfl rfl (fun w1 hM => NSame.same_any Rt Rt _ _ _ _ w1 (hAg.old hM old_false) (hKept.old hM old_false)) ?_
    repeat first
      | refine Y_res (r_move rfl) rfl ?_
      | refine Y_res (r_pickT rfl rfl) rfl ?_
    refine Y_re (e := 135) (v' := .bool true) rfl (by simp) ?_
    repeat first
      | refine Y_res (r_move rfl) rfl ?_
      | refine Y_on rfl rfl ?_
    refine Y_says (g := 13) (v := .bool (decide (Pp = Pp))) rfl rfl (fun w1 hM => samell_any Pp Pp _ _ _ _ w1 (hPl.keep hM.chg (fun _ h => h)) (hP2.keep hM.chg (fun _ h => h))) ?_
    repeat first
      | refine Y_res (r_move rfl) rfl ?_
      | refine Y_res (r_pickT rfl rfl) rfl ?_
    refine Y_re (e := 140) (v' := .bool true) rfl (by simp) ?_
    repeat first
      | refine Y_res (r_move rfl) rfl ?_
      | refine Y_on rfl rfl ?_
    refine Y_says (g := 13) (v := .bool (decide (Bp = Bp))) rfl rfl (fun w1 hM => samell_any Bp Bp _ _ _ _ w1 (hBl.keep hM.chg (fun _ h => h)) (hB2.keep hM.chg (fun _ h => h))) ?_
    repeat first
      | refine Y_res (r_move rfl) rfl ?_
      | refine Y_res (r_pickT rfl rfl) rfl ?_
    refine Y_re (e := 145) (v' := .bool true) rfl (by simp) ?_
    repeat first
      | refine X_nil ?_
      | refine XT_seq ?_
      | refine XC_ret ?_
      | refine Y_res (r_move rfl) rfl ?_
      | refine Y_res (r_assign rfl) rfl ?_
      | refine Y_res (r_eql rfl rfl) rfl ?_
      | refine Y_on rfl rfl ?_
      | refine Y_res (r_len rfl) rfl ?_
      | refine Y_res (r_pickT rfl rfl) rfl ?_
      | refine Y_says (g := 18) rfl rfl (fun w1 hM => size_any M g w1 (hT3.keep hM.chg) (by omega)) ?_
    exact XT_ret1 (.inl rfl) Tryd.results6 rfl (fun w' h => ⟨by rw [hMl]; simp, k9.over h.chg (fun _ _ h => h)⟩)
  · rw [decide_eq_false hfew]
    repeat first
      | refine XC_region ?_
      | refine X_nil ?_
      | refine XC_condT rfl ?_
      | refine XC_seq ?_
      | refine XT_seq ?_
      | refine XT_then_ret ?_
      | refine XC_ret ?_
      | refine Y_res (r_move rfl) rfl ?_
      | refine Y_res (r_assign rfl) rfl ?_
      | refine Y_off rfl rfl rfl ?_
      | refine Y_res (r_pickT rfl rfl) rfl ?_
    exact XT_says (.inl rfl) Tryd.results6 rfl rfl
end Go.Proofs.YtgnhpkdhicfeiaaDoor.NMk
