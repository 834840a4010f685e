/- The rotation and the permutation, walked. -/
import Derived.Test.YteogihkpplaioaaDoorMT
import Derived.Test.YteogihkpplaioaaDoorPShake
import Derived.Lib.Hide
namespace Go.Proofs.YteogihkpplaioaaDoor.NShake
open Go Go.RowKit Go.Proofs.YteogihkpplaioaaDoor.MX Go.Proofs.YteogihkpplaioaaDoor.PShake
set_option linter.unusedVariables false
set_option linter.unusedSimpArgs false
theorem and63 (k : Nat) (h : k < 64) : bits .and .u64 (k : Int) 63 = (k : Int) := by
  have := bits_and_u64_nat k 63 (by omega) (by decide)
  rw [show (63 : Int) = ((63 : Nat) : Int) from rfl, this, Nat.and_two_pow_sub_one_eq_mod k 6, Nat.mod_eq_of_lt h]
set_option maxHeartbeats 1000000 in
theorem rotl_any (x e : Int) (k : Nat) (w : World) (he : e = (k : Int)) (h : 0 < k ∧ k < 64) : Calls Tryd.prog 26 #[.int .u64 x, .int .i64 e] w (Says w (.int .u64 (rot x k))) := by
  subst he
  have hb := and63 k h.2
  refine calls_of_X (vs := [_, _]) (M := Hp w (fun _ => False) []) Tryd.func26 rfl Tryd.ntmps26 rfl (Hp.nil _ _) ?_
  repeat first
    | refine XC_region ?_
    | refine X_nil ?_
    | refine XC_seq ?_
    | refine XT_seq ?_
    | refine Y_res (r_move rfl) rfl ?_
    | refine Y_res (r_assign rfl) rfl ?_
    | refine Y_res (r_and rfl rfl) rfl ?_
    | refine Y_res (r_convuN rfl (by omega)) rfl ?_
  refine Y_res (r_shlV (s := k) rfl rfl hb (by simp only [IntKind.bits]; omega)) rfl ?_
  repeat first
    | refine Y_res (r_move rfl) rfl ?_
    | refine Y_res (r_subu rfl rfl) rfl ?_
  refine Y_res (r_shrV (s := 64 - k) rfl rfl (by rw [hb]; omega) (by simp only [IntKind.bits]; omega)) rfl ?_
  repeat first
    | refine X_nil ?_
    | refine XT_seq ?_
    | refine XC_ret ?_
    | refine Y_res (r_assign rfl) rfl ?_
    | refine Y_res (r_or rfl rfl) rfl ?_
  exact XT_says (.inl rfl) Tryd.results26 rfl (by rw [wrap_u64, rot])
/-- The table of the rounds' numbers, in memory. -/
def KAt (w : World) : Prop := ∀ j, j < 24 → w.cell? ⟨0, j, none⟩ = some (.int .u64 (RC.getD j 0))
theorem KAt.keep {S : Nat → Prop} {w w' : World} (h : KAt w) (hc : Chg S w w') (hs : ¬ S 0) : KAt w' := fun j hj => cell_chg (h j hj) hc hs
theorem KAt.pos {w : World} (h : KAt w) : 0 < w.heap.size := World.block_lt_of_cell? _ _ (h 0 (by decide))
theorem KAt.all {w : World} (h : KAt w) : ∀ j v, (RC.map (Value.int .u64))[j]? = some v → w.cell? ((⟨0, 0, none⟩ : Addr).add j) = some v := fun j v hv => by
  have hj : j < 24 := by have := (List.getElem?_eq_some_iff.1 hv).1; rw [List.length_map] at this; exact this
  rw [map_getD (show j < RC.length from hj)] at hv
  rw [← hv, add_mk, Nat.zero_add]
  exact h j hj
set_option maxHeartbeats 4000000 in
set_option maxRecDepth 100000 in
theorem permute_any (g : Nat) (s : List Int) (rs : List Value) (T : TypeId) (w : World) (hb : (Ch.hd g .u64 s rs T).P w) (hs : s.length = 25) (hK : KAt w) (hg : g ≠ 0) :
    Calls Tryd.prog 24 #[.pointer (some ⟨g, 0, none⟩)] w fun e w' => e = .returned (.tuple #[]) ∧ (Ch.hd g .u64 (perm s) rs T).P w' ∧ Chg (fun k => k = g) w w' := by
  refine calls_of_X (vs := [_]) (M := Hp w (fun k => k = g) [Ch.hd g .u64 s rs T]) Tryd.func24 rfl Tryd.ntmps24 rfl (Hp.one hb (fun k hk => hk)) ?_
  repeat first
    | refine XC_region ?_
    | refine X_nil ?_
    | refine XC_seq ?_
    | refine XT_seq ?_
    | refine XC_block ?_
    | refine Y_res (r_move rfl) rfl ?_
    | refine Y_res (r_loadA (vs := RC.map (Value.int .u64)) rfl rfl (fun w1 hM => (hK.keep hM.chg (fun h => hg h.symm)).all)) rfl ?_
  refine XC_loop (ι := Nat) (fun i => i ≤ 24) (fun i => [(0, .pointer (some ⟨g, 0, none⟩)), (16, .agg (RC.map (Value.int .u64)).toArray), (17, .int .i64 i)])
    (fun i => Hp w (fun k => k = g) [Ch.hd g .u64 (rnds s i) rs T]) (fun i => 24 - i) 0 (by omega) ⟨rfl, rfl, rfl, trivial⟩ (fun _ h => h) ?_
  intro i hi
  have hul := rnds_len hs i
  have hnext : rnds s (i + 1) = rnd (rnds s i) (RC.getD i 0) := rfl
  obtain ⟨u, hu⟩ : ∃ u, u = rnds s i := ⟨_, rfl⟩
  rw [← hu] at hul hnext ⊢
  have hRC : RC.length = 24 := rfl
  repeat first
    | refine XC_region ?_
    | refine X_nil ?_
    | refine XC_seq ?_
    | refine XT_seq ?_
    | refine Y_res (r_lss rfl rfl) rfl ?_
  refine XC_condP rfl (fun hlt => ?_) (fun hge => ?_)
  · have hi2 : i < 24 := by omega
    repeat first
      | refine XC_region ?_
      | refine X_nil ?_
      | refine XC_seq ?_
      | refine XT_seq ?_
      | refine XC_block ?_
      | refine XC_skip ?_
      | refine Y_res (r_move rfl) rfl ?_
      | refine Y_res (r_assign rfl) rfl ?_
      | refine Y_res (r_indexV rfl rfl (by omega) (by rfl)) rfl ?_
      | (refine X_allocI rfl ?_; intro _ _)
    rename_i gc hgc
    refine XC_loop (ι := Nat) (fun x => x ≤ 5) (fun x => [(0, .pointer (some ⟨g, 0, none⟩)), (16, .agg (RC.map (Value.int .u64)).toArray), (17, .int .i64 i), (3, .int .u64 (RC.getD i 0)), (4, .pointer (some ⟨gc, 0, none⟩)), (20, .int .i64 x)])
      (fun x => Hp w (fun k => k = g) [Ch.ints gc .u64 (cPart u x) 52, Ch.hd g .u64 u rs T]) (fun x => 5 - x) 0 (by omega) ⟨rfl, rfl, rfl, rfl, rfl, rfl, trivial⟩ (fun _ h => by rw [cPart_0]; exact h) ?_
    intro x hx
    have hcl := cPart_len (u := u) (x := x)
    repeat first
      | refine XC_region ?_
      | refine X_nil ?_
      | refine XC_seq ?_
      | refine XT_seq ?_
      | refine Y_res (r_lss rfl rfl) rfl ?_
    refine XC_condP rfl (fun hlt2 => ?_) (fun hge2 => ?_)
    · have hx2 : x < 5 := by omega
      repeat first
        | refine XC_region ?_
        | refine XC_tailF (by kernel_rfl) (by kernel_rfl) drw_hp ?_
        | refine X_nil ?_
        | refine XQ_nilX ?_
        | refine XC_seq ?_
        | refine XT_seq ?_
        | refine XC_block ?_
        | refine XT_block_normal ?_
        | refine XC_skip ?_
        | refine Y_res (r_move rfl) rfl ?_
        | refine Y_res (r_assign rfl) rfl ?_
        | refine Y_res (r_add64 rfl rfl (by omega)) rfl ?_
        | refine Y_res (r_xor rfl rfl) rfl ?_
        | refine Y_res (r_indexA0 rfl rfl (by omega)) rfl ?_
        | refine Y_res (r_nilCheck rfl) rfl ?_
        | refine Y_res (r_loadI rfl (by first | omega | (simp only [List.length_set, List.length_replicate]; omega))) rfl ?_
        | refine X_storeI rfl rfl (by first | omega | (simp only [List.length_set, List.length_replicate]; omega)) ?_
      exact XT_round (x + 1) (by omega) (by omega) ⟨rfl, rfl, rfl, rfl, rfl, rfl, trivial⟩ (fun _ h => by rw [← cPart_set hx2]; exact h)
    · obtain rfl : x = 5 := by omega
      repeat first
        | refine XC_region ?_
        | refine X_nil ?_
        | refine XC_seq ?_
        | refine XT_seq ?_
        | refine XC_block ?_
        | refine XT_block_same rfl ?_
        | refine XT_then_exit ?_
        | refine XC_exit ?_
        | refine Y_res (r_move rfl) rfl ?_
      refine XC_loop (ι := Nat) (fun x => x ≤ 5) (fun x => [(0, .pointer (some ⟨g, 0, none⟩)), (16, .agg (RC.map (Value.int .u64)).toArray), (17, .int .i64 i), (3, .int .u64 (RC.getD i 0)), (4, .pointer (some ⟨gc, 0, none⟩)), (59, .int .i64 x)])
        (fun x => Hp w (fun k => k = g) [Ch.ints gc .u64 (cPart u 5) 52, Ch.hd g .u64 (thP u x 0) rs T]) (fun x => 5 - x) 0 (by omega) ⟨rfl, rfl, rfl, rfl, rfl, rfl, trivial⟩ (fun _ h => by rw [thP_0 hul]; exact h) ?_
      intro x hx
      repeat first
        | refine XC_region ?_
        | refine X_nil ?_
        | refine XC_seq ?_
        | refine XT_seq ?_
        | refine Y_res (r_lss rfl rfl) rfl ?_
      refine XC_condP rfl (fun hlt2 => ?_) (fun hge2 => ?_)
      · have hx2 : x < 5 := by omega
        repeat first
          | refine XC_region ?_
          | refine XC_quietF rfl (by kernel_rfl) (by kernel_rfl) drw_hp ?_
          | refine X_nil ?_
          | refine XQ_nil ?_
          | refine XC_seq ?_
          | refine XT_seq ?_
          | refine XC_block ?_
          | refine XC_skip ?_
          | refine Y_res (r_move rfl) rfl ?_
          | refine Y_res (r_assign rfl) rfl ?_
          | refine Y_res (r_add64 rfl rfl (by omega)) rfl ?_
          | refine Y_res (r_rem rfl rfl (by omega)) rfl ?_
          | refine Y_res (r_xor rfl rfl) rfl ?_
          | refine Y_res (r_indexA0 rfl rfl (by omega)) rfl ?_
          | refine Y_res (r_loadI rfl (by first | omega | (simp only [List.length_set, List.length_replicate]; omega))) rfl ?_
          | refine Y_says (g := 26) rfl rfl (fun w1 hM => rotl_any _ _ 1 w1 rfl (by decide)) ?_
        refine XC_loop (ι := Nat) (fun q => q ≤ 5) (fun q => [(0, .pointer (some ⟨g, 0, none⟩)), (16, .agg (RC.map (Value.int .u64)).toArray), (17, .int .i64 i), (3, .int .u64 (RC.getD i 0)), (4, .pointer (some ⟨gc, 0, none⟩)), (59, .int .i64 x), (6, .int .i64 x), (7, .int .u64 (dP (lan u) x)), (8, .int .i64 (5 * (q : Int)))])
          (fun q => Hp w (fun k => k = g) [Ch.ints gc .u64 (cPart u 5) 52, Ch.hd g .u64 (thP u x q) rs T]) (fun q => 5 - q) 0 (by omega) ⟨rfl, rfl, rfl, rfl, rfl, rfl, rfl, by rw [← dP_eq]; rfl, rfl, trivial⟩ (fun _ h => h) ?_
        intro q hq
        have htl := thP_len (u := u) (x := x) (q := q)
        repeat first
          | refine XC_region ?_
          | refine X_nil ?_
          | refine XC_seq ?_
          | refine XT_seq ?_
          | refine Y_res (r_move rfl) rfl ?_
          | refine Y_res (r_lss rfl rfl) rfl ?_
        refine XC_condP rfl (fun hlt3 => ?_) (fun hge3 => ?_)
        · have hq2 : q < 5 := by omega
          repeat first
            | refine XC_region ?_
            | refine XC_tailF (by kernel_rfl) (by kernel_rfl) drw_hp ?_
            | refine X_nil ?_
            | refine XQ_nilX ?_
            | refine XC_seq ?_
            | refine XT_seq ?_
            | refine XC_block ?_
            | refine XT_block_normal ?_
            | refine XC_skip ?_
            | refine Y_res (r_move rfl) rfl ?_
            | refine Y_res (r_assign rfl) rfl ?_
            | refine Y_res (r_add64 rfl rfl (by omega)) rfl ?_
            | refine Y_res (r_xor rfl rfl) rfl ?_
            | refine Y_res (r_indexA0 rfl rfl (by omega)) rfl ?_
            | refine Y_res (r_nilCheck rfl) rfl ?_
            | refine Y_res (r_loadI rfl (by first | omega | (simp only [List.length_set, List.length_replicate]; omega))) rfl ?_
            | refine X_storeI rfl rfl (by first | omega | (simp only [List.length_set, List.length_replicate]; omega)) ?_
          exact XT_round (q + 1) (by omega) (by omega) ⟨rfl, rfl, rfl, rfl, rfl, rfl, rfl, rfl, by rw [show (5 * ((q + 1 : Nat) : Int)) = 5 * (q : Int) + 5 by omega]; rfl, trivial⟩ (fun _ h => by rw [← thP_set hx2 hq2]; exact h)
        · obtain rfl : q = 5 := by omega
          repeat first
            | refine XC_region ?_
            | refine X_nil ?_
            | refine XT_seq ?_
            | refine XT_block_normal ?_
            | refine XT_block_same rfl ?_
            | refine XT_then_exit ?_
            | refine XC_exit ?_
            | refine Y_res (r_move rfl) rfl ?_
            | refine Y_res (r_add64 rfl rfl (by omega)) rfl ?_
          exact XT_round (x + 1) (by omega) (by omega) ⟨rfl, rfl, rfl, rfl, rfl, rfl, trivial⟩ (fun _ h => by rw [← thP_next]; exact h)
      · obtain rfl : x = 5 := by omega
        rw [thP_5]
        have hvl : (thL u).length = 25 := mkn_len _ _
        obtain ⟨v, hv⟩ : ∃ v, v = thL u := ⟨_, rfl⟩
        rw [← hv] at hvl ⊢
        repeat first
          | refine XC_region ?_
          | refine XC_quietF rfl (by kernel_rfl) (by kernel_rfl) drw_hp ?_
          | refine X_nil ?_
          | refine XQ_nil ?_
          | refine XC_seq ?_
          | refine XT_seq ?_
          | refine XC_block ?_
          | refine XT_block_same rfl ?_
          | refine XT_then_exit ?_
          | refine XC_exit ?_
          | refine Y_res (r_move rfl) rfl ?_
          | refine Y_res (r_assign rfl) rfl ?_
          | refine Y_res (r_indexA0 rfl rfl (by omega)) rfl ?_
          | refine Y_res (r_nilCheck rfl) rfl ?_
          | refine Y_res (r_loadI rfl (by first | omega | (simp only [List.length_set, List.length_replicate]; omega))) rfl ?_
        refine XC_loop (ι := Nat) (fun t => t ≤ 24) (fun t => [(0, .pointer (some ⟨g, 0, none⟩)), (16, .agg (RC.map (Value.int .u64)).toArray), (17, .int .i64 i), (3, .int .u64 (RC.getD i 0)), (9, .int .i64 (pos t).1), (10, .int .i64 (pos t).2), (11, .int .u64 (v.getD (ix t) 0)), (94, .int .i64 t)])
          (fun t => Hp w (fun k => k = g) [Ch.hd g .u64 (chain v t) rs T]) (fun t => 24 - t) 0 (by omega) ⟨rfl, rfl, rfl, rfl, rfl, rfl, rfl, rfl, trivial⟩ (fun _ h => by rw [chain_0 hvl]; exact h.tail) ?_
        intro t ht
        have hcl : (chain v t).length = 25 := sel_len
        repeat first
          | refine XC_region ?_
          | refine X_nil ?_
          | refine XC_seq ?_
          | refine XT_seq ?_
          | refine Y_res (r_lss rfl rfl) rfl ?_
        refine XC_condP rfl (fun hlt2 => ?_) (fun hge2 => ?_)
        · have ht2 : t < 24 := by omega
          obtain ⟨p1, p2, p3⟩ := pos_facts t (by omega)
          obtain ⟨q1, q2, q3⟩ := pos_facts (t + 1) (by omega)
          obtain ⟨r1, r2, r3, r4, r5⟩ := ix_facts t ht2
          have hm : 0 ≤ ((t : Int) + 1) * ((t : Int) + 2) ∧ ((t : Int) + 1) * ((t : Int) + 2) ≤ 650 := by
            have h1 : ((t : Int) + 1) * ((t : Int) + 2) ≤ 25 * 26 := Int.mul_le_mul (by omega) (by omega) (by omega) (by omega)
            have h2 : 0 ≤ ((t : Int) + 1) * ((t : Int) + 2) := Int.mul_nonneg (by omega) (by omega)
            omega
          have hrt : ((t : Int) + 1) * ((t : Int) + 2) / 2 % 64 = ((rt t : Nat) : Int) := by
            rw [rt, Int.natCast_emod, Int.natCast_ediv, Int.natCast_mul]; rfl
          have e2 : (pos (t + 1)).2 = (2 * (pos t).1 + 3 * (pos t).2) % 5 := rfl
          have e1 : (pos (t + 1)).1 = (pos t).2 := rfl
          have eix : ix (t + 1) = (pos t).2 + 5 * ((2 * (pos t).1 + 3 * (pos t).2) % 5) := rfl
          have hcg := chain_get (s := v) ht2
          have hcs := chain_set (s := v) ht2
          generalize rt t = rr at hrt r4 r5 hcs
          rw [e2] at q2
          rw [eix] at q3 hcg hcs
          repeat first
            | refine XC_region ?_
            | refine XC_tailF (by kernel_rfl) (by kernel_rfl) drw_hp ?_
            | refine X_nil ?_
            | refine XQ_nilX ?_
            | refine XC_seq ?_
            | refine XT_seq ?_
            | refine XC_block ?_
            | refine XT_block_normal ?_
            | refine XC_skip ?_
            | refine Y_res (r_move rfl) rfl ?_
            | refine Y_res (r_assign rfl) rfl ?_
            | refine Y_res (r_add64 rfl rfl (by omega)) rfl ?_
            | refine Y_res (r_mul64 rfl rfl (by omega)) rfl ?_
            | refine Y_res (r_rem rfl rfl (by omega)) rfl ?_
            | refine Y_res (r_quo rfl rfl (by omega)) rfl ?_
            | refine Y_res (r_indexA0 rfl rfl (by omega)) rfl ?_
            | refine Y_res (r_nilCheck rfl) rfl ?_
            | refine Y_res (r_loadI rfl (by first | omega | (simp only [List.length_set, List.length_replicate]; omega))) rfl ?_
            | refine X_storeI rfl rfl (by first | omega | (simp only [List.length_set, List.length_replicate]; omega)) ?_
            | refine Y_says (g := 26) rfl rfl (fun w1 hM => rotl_any _ _ rr w1 hrt ⟨r5, r4⟩) ?_
          have e3 : (2 * ((pos t).1 : Int) + 3 * ((pos t).2 : Int)) % 5 = ((pos (t + 1)).2 : Int) := by rw [e2]; omega
          exact XT_round (t + 1) (by omega) (by omega) ⟨rfl, rfl, rfl, rfl, rfl, congrArg (fun z : Int => some (Value.int .i64 z)) e3, congrArg (fun z : Int => some (Value.int .u64 z)) hcg, rfl, trivial⟩ (fun _ h => by rw [← hcs]; exact h)
        · obtain rfl : t = 24 := by omega
          rw [chain_end]
          have hrl : (rpL v).length = 25 := mkn_len _ _
          obtain ⟨r, hr⟩ : ∃ r, r = rpL v := ⟨_, rfl⟩
          rw [← hr] at hrl ⊢
          repeat first
            | refine XC_region ?_
            | refine X_nil ?_
            | refine XC_seq ?_
            | refine XT_seq ?_
            | refine XC_block ?_
            | refine XT_block_same rfl ?_
            | refine XT_then_exit ?_
            | refine XC_exit ?_
            | refine Y_res (r_assign rfl) rfl ?_
          refine XC_loop (ι := Nat) (fun q => q ≤ 5) (fun q => [(0, .pointer (some ⟨g, 0, none⟩)), (16, .agg (RC.map (Value.int .u64)).toArray), (17, .int .i64 i), (3, .int .u64 (RC.getD i 0)), (13, .int .i64 (5 * (q : Int)))])
            (fun q => Hp w (fun k => k = g) [Ch.hd g .u64 (chP r q) rs T]) (fun q => 5 - q) 0 (by omega) ⟨rfl, rfl, rfl, rfl, rfl, trivial⟩ (fun _ h => by rw [chP_0 hrl]; exact h) ?_
          intro q hq
          have hLl := chP_len (r := r) (q := q)
          repeat first
            | refine XC_region ?_
            | refine X_nil ?_
            | refine XC_seq ?_
            | refine XT_seq ?_
            | refine Y_res (r_move rfl) rfl ?_
            | refine Y_res (r_lss rfl rfl) rfl ?_
          refine XC_condP rfl (fun hlt3 => ?_) (fun hge3 => ?_)
          · have hq2 : q < 5 := by omega
            have hrow := @chP_row r q hq2 _ _ _ _ _ _ rfl rfl rfl rfl rfl rfl
            repeat first
              | refine XC_region ?_
              | refine XC_quietF rfl (by kernel_rfl) (by kernel_rfl) drw_hp ?_
              | refine XC_tailF (by kernel_rfl) (by kernel_rfl) drw_hp ?_
              | refine X_nil ?_
              | refine XQ_nil ?_
              | refine XQ_nilX ?_
              | refine XC_seq ?_
              | refine XT_seq ?_
              | refine XC_block ?_
              | refine XT_block_normal ?_
              | refine XC_skip ?_
              | refine Y_res (r_move rfl) rfl ?_
              | refine Y_res (r_assign rfl) rfl ?_
              | refine Y_res (r_add64 rfl rfl (by omega)) rfl ?_
              | refine Y_res (r_and rfl rfl) rfl ?_
              | refine Y_res (r_xor rfl rfl) rfl ?_
              | refine Y_res (r_not rfl) rfl ?_
              | refine Y_res (r_indexA0 rfl rfl (by omega)) rfl ?_
              | refine Y_res (r_nilCheck rfl) rfl ?_
              | refine Y_res (r_loadI rfl (by first | omega | (simp only [List.length_set, List.length_replicate]; omega))) rfl ?_
              | refine X_storeI rfl rfl (by first | omega | (simp only [List.length_set, List.length_replicate]; omega)) ?_
            exact XT_round (q + 1) (by omega) (by omega) ⟨rfl, rfl, rfl, rfl, by rw [show (5 * ((q + 1 : Nat) : Int)) = 5 * (q : Int) + 5 by omega]; rfl, trivial⟩ (fun _ h => by rw [← hrow]; exact h)
          · obtain rfl : q = 5 := by omega
            rw [chP_5]
            have hLl2 : (chL r).length = 25 := mkn_len _ _
            have hend : (chL r).set 0 (xr ((chL r).getD 0 0) (RC.getD i 0)) = rnds s (i + 1) := by rw [hnext, rnd, ioL, ← hv, ← hr]
            generalize chL r = L at hLl2 hend
            repeat first
              | refine XC_region ?_
              | refine XC_tailF (by kernel_rfl) (by kernel_rfl) drw_hp ?_
              | refine X_nil ?_
              | refine XQ_nilX ?_
              | refine XT_seq ?_
              | refine XT_block_normal ?_
              | refine XT_block_same rfl ?_
              | refine XT_then_exit ?_
              | refine XC_exit ?_
              | refine Y_res (r_move rfl) rfl ?_
              | refine Y_res (r_add64 rfl rfl (by omega)) rfl ?_
              | refine Y_res (r_xor rfl rfl) rfl ?_
              | refine Y_res (r_indexA0 rfl rfl (by omega)) rfl ?_
              | refine Y_res (r_nilCheck rfl) rfl ?_
              | refine Y_res (r_loadI rfl (by first | omega | (simp only [List.length_set, List.length_replicate]; omega))) rfl ?_
              | refine X_storeI rfl rfl (by first | omega | (simp only [List.length_set, List.length_replicate]; omega)) ?_
            exact XT_round (i + 1) (by omega) (by omega) ⟨rfl, rfl, rfl, trivial⟩ (fun _ h => by rw [← hend]; exact h)
  · obtain rfl : i = 24 := by omega
    repeat first
      | refine XT_block_same rfl ?_
      | refine XT_then_exit ?_
      | refine XC_exit ?_
    exact XT_ret0 (.inr rfl) Tryd.results24 (fun w' h => ⟨rfl, by rw [perm, ← hu]; exact h.head, h.chg⟩)
end Go.Proofs.YteogihkpplaioaaDoor.NShake
