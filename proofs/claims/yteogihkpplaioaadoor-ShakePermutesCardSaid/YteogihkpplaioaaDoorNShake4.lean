/- The reference's permutation, walked. -/
import Derived.Test.YteogihkpplaioaaDoorNShake
namespace Go.Proofs.YteogihkpplaioaaDoor.NShake
open Go Go.RowKit Go.Proofs.YteogihkpplaioaaDoor.MX Go.Proofs.YteogihkpplaioaaDoor.PShake
set_option linter.unusedVariables false
set_option linter.unusedSimpArgs false
set_option maxHeartbeats 1000000 in
theorem turn_any (x e : Int) (k : Nat) (w : World) (he : e = (k : Int)) (h : k < 64) : Calls Tryd.prog 25 #[.int .u64 x, .int .i64 e] w (Says w (.int .u64 (tn x k))) := by
  subst he
  refine calls_of_X (vs := [_, _]) (M := Hp w (fun _ => False) []) Tryd.func25 rfl Tryd.ntmps25 rfl (Hp.nil _ _) ?_
  repeat first
    | refine XC_region ?_
    | refine X_nil ?_
    | refine XC_seq ?_
    | refine XT_seq ?_
    | refine Y_res (r_move rfl) rfl ?_
    | refine Y_res (r_assign rfl) rfl ?_
    | refine Y_res (r_eql rfl rfl) rfl ?_
  refine XC_condP rfl (fun h0 => ?_) (fun h0 => ?_)
  · obtain rfl : k = 0 := by omega
    repeat first
      | refine XC_region ?_
      | refine X_nil ?_
      | refine XC_seq ?_
      | refine XT_seq ?_
      | refine XT_then_ret ?_
      | refine XC_ret ?_
      | refine Y_res (r_move rfl) rfl ?_
      | refine Y_res (r_assign rfl) rfl ?_
    exact XT_says (.inl rfl) Tryd.results25 rfl rfl
  · repeat first
      | refine XC_quietF rfl (by kernel_rfl) (by kernel_rfl) drw_hp ?_
      | refine XQ_nil ?_
      | refine XC_seq ?_
      | refine XT_seq ?_
      | refine XC_skip ?_
      | refine XC_ret ?_
      | refine Y_res (r_move rfl) rfl ?_
      | refine Y_res (r_assign rfl) rfl ?_
      | refine Y_res (r_sub64 rfl rfl (by omega)) rfl ?_
      | refine Y_res (r_or rfl rfl) rfl ?_
      | refine Y_res (r_shlV (s := k) rfl rfl rfl (by simp only [IntKind.bits]; omega)) rfl ?_
      | refine Y_res (r_shrV (s := 64 - k) rfl rfl (by omega) (by simp only [IntKind.bits]; omega)) rfl ?_
    exact XT_says (.inl rfl) Tryd.results25 rfl (by rw [wrap_u64, tn, if_neg (by omega), rot])
def TSI : List Int := TS.map fun (x : Nat) => (x : Int)
theorem TSI_get : ∀ k, k < 25 → TSI.getD k 0 = ((TS.getD k 0 : Nat) : Int) ∧ TS.getD k 0 < 64 := by decide
set_option maxHeartbeats 1000000 in
theorem nums_any (w : World) : Calls Tryd.prog 20 #[] w (Says w (.agg (RC.map (Value.int .u64)).toArray)) := by
  refine calls_of_X (vs := []) (M := Hp w (fun _ => False) []) Tryd.func20 rfl Tryd.ntmps20 rfl (Hp.nil _ _) ?_
  repeat first
    | refine XC_region ?_
    | refine X_nil ?_
    | refine XC_seq ?_
    | refine XT_seq ?_
    | refine XC_ret ?_
    | refine Y_res (r_buildI (by rfl) (by rfl)) rfl ?_
    | (refine X_allocI rfl ?_; intro _ _)
    | refine X_storeWI rfl rfl (by rfl) (by rfl) ?_
  exact XT_retC (.inl rfl) Tryd.results20 rfl (by rfl) (fun w' h => ⟨rfl, h.chg⟩)
set_option maxHeartbeats 1000000 in
theorem turns_any (w : World) : Calls Tryd.prog 21 #[] w (Says w (.agg (TSI.map (Value.int .i64)).toArray)) := by
  refine calls_of_X (vs := []) (M := Hp w (fun _ => False) []) Tryd.func21 rfl Tryd.ntmps21 rfl (Hp.nil _ _) ?_
  repeat first
    | refine XC_region ?_
    | refine X_nil ?_
    | refine XC_seq ?_
    | refine XT_seq ?_
    | refine XC_ret ?_
    | refine Y_res (r_buildI (by rfl) (by rfl)) rfl ?_
    | (refine X_allocI rfl ?_; intro _ _)
    | refine X_storeWI rfl rfl (by rfl) (by rfl) ?_
  exact XT_retC (.inl rfl) Tryd.results21 rfl (by rfl) (fun w' h => ⟨rfl, h.chg⟩)
set_option maxHeartbeats 4000000 in
set_option maxRecDepth 100000 in
theorem rperm_any (s : List Int) (hs : s.length = 25) (w : World) : Calls Tryd.prog 19 #[.agg (s.map (Value.int .u64)).toArray, .agg (RC.map (Value.int .u64)).toArray, .agg (TSI.map (Value.int .i64)).toArray] w (Says w (.agg ((perm s).map (Value.int .u64)).toArray)) := by
  refine calls_of_X (vs := [_, _, _]) (M := Hp w (fun _ => False) []) Tryd.func19 rfl Tryd.ntmps19 rfl (Hp.nil _ _) ?_
  have hTI : TSI.length = 25 := rfl
  have hRC : RC.length = 24 := rfl
  repeat first
    | refine XC_region ?_
    | refine X_nil ?_
    | refine XC_seq ?_
    | refine XT_seq ?_
    | refine XC_block ?_
    | refine Y_res (r_assign rfl) rfl ?_
    | (refine X_allocI rfl ?_; intro _ _)
    | (refine X_boxI rfl rfl ?_; intro _ _)
  rename_i g3 hg3 g4 hg4 g5 hg5 g6 hg6 g7 hg7
  refine XC_loop (ι := Nat) (fun k => k ≤ 25) (fun k => [(3, .pointer (some ⟨g3, 0, none⟩)), (4, .pointer (some ⟨g4, 0, none⟩)), (5, .pointer (some ⟨g5, 0, none⟩)), (6, .pointer (some ⟨g6, 0, none⟩)), (7, .pointer (some ⟨g7, 0, none⟩)), (8, .int .i64 k)])
    (fun k => Hp w (fun _ => False) [Ch.ints g7 .i64 (gPart k) 44, Ch.ints g6 .u64 (List.replicate 25 0) 39, Ch.ints g5 .i64 TSI 44, Ch.ints g4 .u64 RC 42, Ch.ints g3 .u64 s 39]) (fun k => 25 - k) 0 (by omega) ⟨rfl, rfl, rfl, rfl, rfl, rfl, trivial⟩ (fun _ h => by rw [gPart_0]; exact h) ?_
  intro k hk
  have hgl : (gPart k).length = 25 := sel_len
  repeat first
    | refine XC_region ?_
    | refine X_nil ?_
    | refine XC_seq ?_
    | refine XT_seq ?_
    | refine Y_res (r_move rfl) rfl ?_
    | refine Y_res (r_lss rfl rfl) rfl ?_
  refine XC_condP rfl (fun hlt => ?_) (fun hge => ?_)
  · have hk2 : k < 25 := by omega
    repeat first
      | refine XC_region ?_
      | refine X_nil ?_
      | refine XC_seq ?_
      | refine XT_seq ?_
      | refine XC_block ?_
      | refine XT_block_normal ?_
      | refine XC_skip ?_
      | refine Y_res (r_move rfl) rfl ?_
      | refine Y_res (r_assign rfl) rfl ?_
      | refine Y_res (r_add64 rfl rfl (by omega)) rfl ?_
      | refine Y_res (r_mul64 rfl rfl (by omega)) rfl ?_
      | refine Y_res (r_rem rfl rfl (by omega)) rfl ?_
      | refine Y_res (r_quo rfl rfl (by omega)) rfl ?_
      | refine Y_res (r_indexA0 rfl rfl (by omega)) rfl ?_
      | refine X_storeI rfl rfl (by first | omega | (simp only [List.length_set, List.length_replicate]; omega)) ?_
    exact XT_round (k + 1) (by omega) (by omega) ⟨rfl, rfl, rfl, rfl, rfl, rfl, trivial⟩ (fun _ h => by rw [← gPart_set hk2]; exact h)
  obtain rfl : k = 25 := by omega
  repeat first
    | refine XC_region ?_
    | refine X_nil ?_
    | refine XC_seq ?_
    | refine XT_seq ?_
    | refine XC_block ?_
    | refine XT_block_same rfl ?_
    | refine XT_then_exit ?_
    | refine XC_exit ?_
    | refine Y_res (r_assign rfl) rfl ?_
    | (refine X_allocI rfl ?_; intro _ _)
  rename_i g9 hg9 g10 hg10 g11 hg11
  refine XC_loop (ι := Nat × List Int × List Int × List Int) (fun p => p.1 ≤ 24 ∧ p.2.1.length = 5 ∧ p.2.2.1.length = 5 ∧ p.2.2.2.length = 25) (fun p => [(3, .pointer (some ⟨g3, 0, none⟩)), (4, .pointer (some ⟨g4, 0, none⟩)), (5, .pointer (some ⟨g5, 0, none⟩)), (6, .pointer (some ⟨g6, 0, none⟩)), (7, .pointer (some ⟨g7, 0, none⟩)), (9, .pointer (some ⟨g9, 0, none⟩)), (10, .pointer (some ⟨g10, 0, none⟩)), (11, .pointer (some ⟨g11, 0, none⟩)), (12, .int .i64 p.1)])
    (fun p => Hp w (fun _ => False) [Ch.ints g11 .u64 p.2.2.2 39, Ch.ints g10 .u64 p.2.2.1 52, Ch.ints g9 .u64 p.2.1 52, Ch.ints g7 .i64 (gPart 25) 44, Ch.ints g6 .u64 (List.replicate 25 0) 39, Ch.ints g5 .i64 TSI 44, Ch.ints g4 .u64 RC 42, Ch.ints g3 .u64 (rnds s p.1) 39]) (fun p => 24 - p.1)
    (0, List.replicate 5 0, List.replicate 5 0, List.replicate 25 0) ⟨by omega, rfl, rfl, rfl⟩ ⟨rfl, rfl, rfl, rfl, rfl, rfl, rfl, rfl, rfl, trivial⟩ (fun _ h => h) ?_
  rintro ⟨i, c0, d0, t0⟩ ⟨hi, hc0, hd0, ht0⟩
  dsimp only at hi hc0 hd0 ht0 ⊢
  have hul := rnds_len hs i
  have hnext : rnds s (i + 1) = rnd (rnds s i) (RC.getD i 0) := rfl
  obtain ⟨u, hu⟩ : ∃ u, u = rnds s i := ⟨_, rfl⟩
  rw [← hu] at hul hnext ⊢
  repeat first
    | refine XC_region ?_
    | refine X_nil ?_
    | refine XC_seq ?_
    | refine XT_seq ?_
    | refine Y_res (r_move rfl) rfl ?_
    | refine Y_res (r_lss rfl rfl) rfl ?_
  refine XC_condP rfl (fun hlt => ?_) (fun hge => ?_)
  · have hi2 : i < 24 := by omega
    repeat first
      | refine XC_region ?_
      | refine X_nil ?_
      | refine XC_seq ?_
      | refine XT_seq ?_
      | refine XC_block ?_
      | refine XC_skip ?_
      | refine Y_res (r_assign rfl) rfl ?_
    refine XC_loop (ι := Nat) (fun x => x ≤ 5) (fun x => [(3, .pointer (some ⟨g3, 0, none⟩)), (4, .pointer (some ⟨g4, 0, none⟩)), (5, .pointer (some ⟨g5, 0, none⟩)), (6, .pointer (some ⟨g6, 0, none⟩)), (7, .pointer (some ⟨g7, 0, none⟩)), (9, .pointer (some ⟨g9, 0, none⟩)), (10, .pointer (some ⟨g10, 0, none⟩)), (11, .pointer (some ⟨g11, 0, none⟩)), (12, .int .i64 i), (13, .int .i64 x)])
      (fun x => Hp w (fun _ => False) [Ch.ints g11 .u64 t0 39, Ch.ints g10 .u64 d0 52, Ch.ints g9 .u64 (cQ u c0 x) 52, Ch.ints g7 .i64 (gPart 25) 44, Ch.ints g6 .u64 (List.replicate 25 0) 39, Ch.ints g5 .i64 TSI 44, Ch.ints g4 .u64 RC 42, Ch.ints g3 .u64 u 39]) (fun x => 5 - x)
      0 (by omega) ⟨rfl, rfl, rfl, rfl, rfl, rfl, rfl, rfl, rfl, rfl, trivial⟩ (fun _ h => by rw [cQ_0 hc0]; exact h) ?_
    intro x hx
    have hcl : (cQ u c0 x).length = 5 := sel_len
    repeat first
      | refine XC_region ?_
      | refine X_nil ?_
      | refine XC_seq ?_
      | refine XT_seq ?_
      | refine Y_res (r_move rfl) rfl ?_
      | refine Y_res (r_lss rfl rfl) rfl ?_
    refine XC_condP rfl (fun hlt2 => ?_) (fun hge2 => ?_)
    · have hx2 : x < 5 := by omega
      repeat first
        | refine XC_region ?_
        | refine XC_tailF (by kernel_rfl) (by kernel_rfl) drw_hp ?_
        | refine X_nil ?_
        | refine XQ_nilX ?_
        | refine XC_seq ?_
        | refine XT_seq ?_
        | refine XC_block ?_
        | refine XT_block_normal ?_
        | refine XC_skip ?_
        | refine Y_res (r_move rfl) rfl ?_
        | refine Y_res (r_assign rfl) rfl ?_
        | refine Y_res (r_add64 rfl rfl (by omega)) rfl ?_
        | refine Y_res (r_xor rfl rfl) rfl ?_
        | refine Y_res (r_indexA0 rfl rfl (by omega)) rfl ?_
        | refine Y_res (r_loadI rfl (by first | omega | (simp only [List.length_set, List.length_replicate]; omega))) rfl ?_
        | refine X_storeI rfl rfl (by first | omega | (simp only [List.length_set, List.length_replicate]; omega)) ?_
      exact XT_round (x + 1) (by omega) (by omega) ⟨rfl, rfl, rfl, rfl, rfl, rfl, rfl, rfl, rfl, rfl, trivial⟩ (fun _ h => by rw [← cQ_set hx2]; exact h)
    obtain rfl : x = 5 := by omega
    rw [cQ_5]
    have hcl : (mkn 5 (cP (lan u))).length = 5 := mkn_len _ _
    have hcg : ∀ x, x < 5 → (mkn 5 (cP (lan u))).getD x 0 = cP (lan u) x := fun x hx => mkn_get _ hx
    have e0 := hcg 0 (by decide)
    have e1 := hcg 1 (by decide)
    have e2 := hcg 2 (by decide)
    have e3 := hcg 3 (by decide)
    have e4 := hcg 4 (by decide)
    clear hcg
    obtain ⟨cc, hcc⟩ : ∃ cc, cc = mkn 5 (cP (lan u)) := ⟨_, rfl⟩
    rw [← hcc] at hcl e0 e1 e2 e3 e4 ⊢
    have hd5 := set5 hd0 (xr (cc.getD 4 0) (rot (cc.getD 1 0) 1)) (xr (cc.getD 0 0) (rot (cc.getD 2 0) 1)) (xr (cc.getD 1 0) (rot (cc.getD 3 0) 1)) (xr (cc.getD 2 0) (rot (cc.getD 4 0) 1)) (xr (cc.getD 3 0) (rot (cc.getD 0 0) 1))
    have hd6 : [xr (cc.getD 4 0) (rot (cc.getD 1 0) 1), xr (cc.getD 0 0) (rot (cc.getD 2 0) 1), xr (cc.getD 1 0) (rot (cc.getD 3 0) 1), xr (cc.getD 2 0) (rot (cc.getD 4 0) 1), xr (cc.getD 3 0) (rot (cc.getD 0 0) 1)] = dL u := by
      rw [e0, e1, e2, e3, e4]; rfl
    rw [hd6] at hd5
    repeat first
      | refine XC_region ?_
      | refine XC_tailF (by kernel_rfl) (by kernel_rfl) drw_hp ?_
      | refine X_nil ?_
      | refine XQ_nilX ?_
      | refine XC_seq ?_
      | refine XT_seq ?_
      | refine XC_block ?_
      | refine XT_block_same rfl ?_
      | refine XT_then_exit ?_
      | refine XC_exit ?_
      | refine Y_res (r_assign rfl) rfl ?_
      | refine Y_res (r_xor rfl rfl) rfl ?_
      | refine Y_res (r_indexA0 rfl rfl (by omega)) rfl ?_
      | refine Y_res (r_loadI rfl (by first | omega | (simp only [List.length_set, List.length_replicate]; omega))) rfl ?_
      | refine X_storeI rfl rfl (by first | omega | (simp only [List.length_set, List.length_replicate]; omega)) ?_
      | refine Y_says (g := 25) rfl rfl (fun w1 hM => turn_any _ _ 1 w1 rfl (by decide)) ?_
    refine XC_loop (ι := Nat) (fun q => q ≤ 5) (fun q => [(3, .pointer (some ⟨g3, 0, none⟩)), (4, .pointer (some ⟨g4, 0, none⟩)), (5, .pointer (some ⟨g5, 0, none⟩)), (6, .pointer (some ⟨g6, 0, none⟩)), (7, .pointer (some ⟨g7, 0, none⟩)), (9, .pointer (some ⟨g9, 0, none⟩)), (10, .pointer (some ⟨g10, 0, none⟩)), (11, .pointer (some ⟨g11, 0, none⟩)), (12, .int .i64 i), (14, .int .i64 (5 * (q : Int)))])
      (fun q => Hp w (fun _ => False) [Ch.ints g11 .u64 (tQ u t0 q 0) 39, Ch.ints g10 .u64 (dL u) 52, Ch.ints g9 .u64 cc 52, Ch.ints g7 .i64 (gPart 25) 44, Ch.ints g6 .u64 (List.replicate 25 0) 39, Ch.ints g5 .i64 TSI 44, Ch.ints g4 .u64 RC 42, Ch.ints g3 .u64 u 39]) (fun q => 5 - q)
      0 (by omega) ⟨rfl, rfl, rfl, rfl, rfl, rfl, rfl, rfl, rfl, rfl, trivial⟩ (fun _ h => by rw [tQ_0 ht0, ← hd5]; exact h) ?_
    intro q hq
    repeat first
      | refine XC_region ?_
      | refine X_nil ?_
      | refine XC_seq ?_
      | refine XT_seq ?_
      | refine Y_res (r_move rfl) rfl ?_
      | refine Y_res (r_lss rfl rfl) rfl ?_
    refine XC_condP rfl (fun hlt2 => ?_) (fun hge2 => ?_)
    · have hq2 : q < 5 := by omega
      repeat first
        | refine XC_region ?_
        | refine X_nil ?_
        | refine XC_seq ?_
        | refine XT_seq ?_
        | refine XC_block ?_
        | refine XC_skip ?_
        | refine Y_res (r_assign rfl) rfl ?_
      refine XC_loop (ι := Nat) (fun x => x ≤ 5) (fun x => [(3, .pointer (some ⟨g3, 0, none⟩)), (4, .pointer (some ⟨g4, 0, none⟩)), (5, .pointer (some ⟨g5, 0, none⟩)), (6, .pointer (some ⟨g6, 0, none⟩)), (7, .pointer (some ⟨g7, 0, none⟩)), (9, .pointer (some ⟨g9, 0, none⟩)), (10, .pointer (some ⟨g10, 0, none⟩)), (11, .pointer (some ⟨g11, 0, none⟩)), (12, .int .i64 i), (14, .int .i64 (5 * (q : Int))), (15, .int .i64 x)])
        (fun x => Hp w (fun _ => False) [Ch.ints g11 .u64 (tQ u t0 q x) 39, Ch.ints g10 .u64 (dL u) 52, Ch.ints g9 .u64 cc 52, Ch.ints g7 .i64 (gPart 25) 44, Ch.ints g6 .u64 (List.replicate 25 0) 39, Ch.ints g5 .i64 TSI 44, Ch.ints g4 .u64 RC 42, Ch.ints g3 .u64 u 39]) (fun x => 5 - x)
        0 (by omega) ⟨rfl, rfl, rfl, rfl, rfl, rfl, rfl, rfl, rfl, rfl, rfl, trivial⟩ (fun _ h => h) ?_
      intro x hx
      have htl := tQ_len (u := u) (t0 := t0) (q := q) (x := x)
      have hgl : (gPart 25).length = 25 := sel_len
      have hdl : (dL u).length = 5 := rfl
      repeat first
        | refine XC_region ?_
        | refine X_nil ?_
        | refine XC_seq ?_
        | refine XT_seq ?_
        | refine Y_res (r_move rfl) rfl ?_
        | refine Y_res (r_lss rfl rfl) rfl ?_
      refine XC_condP rfl (fun hlt3 => ?_) (fun hge3 => ?_)
      · have hx2 : x < 5 := by omega
        have hgg := gPart_get (show x + 5 * q < 25 by omega)
        have hgb := (src_goes (x + 5 * q) (by omega)).1
        obtain ⟨ht1, ht2⟩ := TSI_get (x + 5 * q) (by omega)
        have hset := tQ_set (u := u) (t0 := t0) hq2 hx2
        rw [← dL_get hx2] at hset
        have htn : (goes (x + 5 * q) : Int).toNat = goes (x + 5 * q) := Int.toNat_natCast _
        rw [← htn, ← hgg] at hset
        repeat first
          | refine XC_region ?_
          | refine XC_tailF (by kernel_rfl) (by kernel_rfl) drw_hp ?_
          | refine X_nil ?_
          | refine XQ_nilX ?_
          | refine XC_seq ?_
          | refine XT_seq ?_
          | refine XC_block ?_
          | refine XT_block_normal ?_
          | refine XC_skip ?_
          | refine Y_res (r_move rfl) rfl ?_
          | refine Y_res (r_assign rfl) rfl ?_
          | refine Y_res (r_add64 rfl rfl (by omega)) rfl ?_
          | refine Y_res (r_xor rfl rfl) rfl ?_
          | refine Y_res (r_indexA0 rfl rfl (by omega)) rfl ?_
          | refine Y_res (r_indexA0T rfl rfl (by omega) (by omega)) rfl ?_
          | refine Y_res (r_loadI rfl (by first | omega | (simp only [List.length_set, List.length_replicate]; omega))) rfl ?_
          | refine X_storeI rfl rfl (by first | omega | (simp only [List.length_set, List.length_replicate]; omega)) ?_
          | refine Y_says (g := 25) rfl rfl (fun w1 hM => turn_any _ _ (TS.getD (x + 5 * q) 0) w1 ht1 ht2) ?_
        exact XT_round (x + 1) (by omega) (by omega) ⟨rfl, rfl, rfl, rfl, rfl, rfl, rfl, rfl, rfl, rfl, rfl, trivial⟩ (fun _ h => by rw [← hset]; exact h)
      · obtain rfl : x = 5 := by omega
        repeat first
          | refine XC_region ?_
          | refine X_nil ?_
          | refine XT_seq ?_
          | refine XT_block_normal ?_
          | refine XT_block_same rfl ?_
          | refine XT_then_exit ?_
          | refine XC_exit ?_
          | refine Y_res (r_move rfl) rfl ?_
          | refine Y_res (r_assign rfl) rfl ?_
          | refine Y_res (r_add64 rfl rfl (by omega)) rfl ?_
        exact XT_round (q + 1) (by omega) (by omega) ⟨rfl, rfl, rfl, rfl, rfl, rfl, rfl, rfl, rfl, by rw [show (5 * ((q + 1 : Nat) : Int)) = 5 * (q : Int) + 5 by omega]; rfl, trivial⟩ (fun _ h => by rw [← tQ_next]; exact h)
    obtain rfl : q = 5 := by omega
    rw [tQ_5]
    have hrl : (rpL (thL u)).length = 25 := mkn_len _ _
    obtain ⟨r, hr⟩ : ∃ r, r = rpL (thL u) := ⟨_, rfl⟩
    rw [← hr] at hrl ⊢
    repeat first
      | refine XC_region ?_
      | refine X_nil ?_
      | refine XC_seq ?_
      | refine XT_seq ?_
      | refine XC_block ?_
      | refine XT_block_same rfl ?_
      | refine XT_then_exit ?_
      | refine XC_exit ?_
      | refine Y_res (r_assign rfl) rfl ?_
    refine XC_loop (ι := Nat) (fun q => q ≤ 5) (fun q => [(3, .pointer (some ⟨g3, 0, none⟩)), (4, .pointer (some ⟨g4, 0, none⟩)), (5, .pointer (some ⟨g5, 0, none⟩)), (6, .pointer (some ⟨g6, 0, none⟩)), (7, .pointer (some ⟨g7, 0, none⟩)), (9, .pointer (some ⟨g9, 0, none⟩)), (10, .pointer (some ⟨g10, 0, none⟩)), (11, .pointer (some ⟨g11, 0, none⟩)), (12, .int .i64 i), (16, .int .i64 (5 * (q : Int)))])
      (fun q => Hp w (fun _ => False) [Ch.ints g11 .u64 r 39, Ch.ints g10 .u64 (dL u) 52, Ch.ints g9 .u64 cc 52, Ch.ints g7 .i64 (gPart 25) 44, Ch.ints g6 .u64 (List.replicate 25 0) 39, Ch.ints g5 .i64 TSI 44, Ch.ints g4 .u64 RC 42, Ch.ints g3 .u64 (sQ u r q 0) 39]) (fun q => 5 - q)
      0 (by omega) ⟨rfl, rfl, rfl, rfl, rfl, rfl, rfl, rfl, rfl, rfl, trivial⟩ (fun _ h => by rw [sQ_0 hul]; exact h) ?_
    intro q hq
    have hql := sQ_len (u := u) (r := r) (q := q) (c := 0)
    repeat first
      | refine XC_region ?_
      | refine X_nil ?_
      | refine XC_seq ?_
      | refine XT_seq ?_
      | refine Y_res (r_move rfl) rfl ?_
      | refine Y_res (r_lss rfl rfl) rfl ?_
    refine XC_condP rfl (fun hlt2 => ?_) (fun hge2 => ?_)
    · have hq2 : q < 5 := by omega
      have hrow := sQ_row (u := u) (r := r) hq2
      repeat first
        | refine XC_region ?_
        | refine XC_tailF (by kernel_rfl) (by kernel_rfl) drw_hp ?_
        | refine X_nil ?_
        | refine XQ_nilX ?_
        | refine XC_seq ?_
        | refine XT_seq ?_
        | refine XC_block ?_
        | refine XT_block_normal ?_
        | refine XC_skip ?_
        | refine Y_res (r_move rfl) rfl ?_
        | refine Y_res (r_assign rfl) rfl ?_
        | refine Y_res (r_add64 rfl rfl (by omega)) rfl ?_
        | refine Y_res (r_and rfl rfl) rfl ?_
        | refine Y_res (r_xor rfl rfl) rfl ?_
        | refine Y_res (r_not rfl) rfl ?_
        | refine Y_res (r_indexA0 rfl rfl (by omega)) rfl ?_
        | refine Y_res (r_loadI rfl (by first | omega | (simp only [List.length_set, List.length_replicate]; omega))) rfl ?_
        | refine X_storeI rfl rfl (by first | omega | (simp only [List.length_set, List.length_replicate]; omega)) ?_
      exact XT_round (q + 1) (by omega) (by omega) ⟨rfl, rfl, rfl, rfl, rfl, rfl, rfl, rfl, rfl, by rw [show (5 * ((q + 1 : Nat) : Int)) = 5 * (q : Int) + 5 by omega]; rfl, trivial⟩ (fun _ h => by rw [← hrow]; exact h)
    obtain rfl : q = 5 := by omega
    rw [sQ_5]
    have hLl2 : (chL r).length = 25 := mkn_len _ _
    have hend : (chL r).set 0 (xr ((chL r).getD 0 0) (RC.getD i 0)) = rnds s (i + 1) := by rw [hnext, rnd, ioL, ← hr]
    generalize chL r = L at hLl2 hend
    repeat first
      | refine XC_region ?_
      | refine XC_tailF (by kernel_rfl) (by kernel_rfl) drw_hp ?_
      | refine X_nil ?_
      | refine XQ_nilX ?_
      | refine XT_seq ?_
      | refine XT_block_normal ?_
      | refine XT_block_same rfl ?_
      | refine XT_then_exit ?_
      | refine XC_exit ?_
      | refine Y_res (r_move rfl) rfl ?_
      | refine Y_res (r_assign rfl) rfl ?_
      | refine Y_res (r_add64 rfl rfl (by omega)) rfl ?_
      | refine Y_res (r_xor rfl rfl) rfl ?_
      | refine Y_res (r_indexA0 rfl rfl (by omega)) rfl ?_
      | refine Y_res (r_loadI rfl (by first | omega | (simp only [List.length_set, List.length_replicate]; omega))) rfl ?_
      | refine X_storeI rfl rfl (by first | omega | (simp only [List.length_set, List.length_replicate]; omega)) ?_
    exact XT_round (i + 1, cc, dL u, r) ⟨by dsimp only; omega, hcl, rfl, hrl⟩ (by dsimp only; omega) ⟨rfl, rfl, rfl, rfl, rfl, rfl, rfl, rfl, rfl, trivial⟩ (fun _ h => by rw [← hend]; exact h)
  · obtain rfl : i = 24 := by omega
    repeat first
      | refine XC_region ?_
      | refine X_nil ?_
      | refine XC_seq ?_
      | refine XT_seq ?_
      | refine XT_block_same rfl ?_
      | refine XT_then_exit ?_
      | refine XC_exit ?_
      | refine XC_ret ?_
      | refine Y_res (r_loadWI rfl hul) rfl ?_
      | refine X_storeWI rfl rfl hul (by rw [hul]; rfl) ?_
    exact XT_retC (.inl rfl) Tryd.results19 rfl (by rw [hul]) (fun w' h => ⟨by rw [perm, ← hu], h.chg⟩)
end Go.Proofs.YteogihkpplaioaaDoor.NShake
