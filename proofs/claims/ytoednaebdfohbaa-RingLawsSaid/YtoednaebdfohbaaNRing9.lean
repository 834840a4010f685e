/- The reference's differences and products, walked; calls in a row. -/
import Derived.Test.YtoednaebdfohbaaNRing8
import Derived.Test.YtoednaebdfohbaaPRing6
namespace Go.Proofs.Ytoednaebdfohbaa.NRing
open Go Go.RowKit Go.Proofs.Ytoednaebdfohbaa.MX Go.Proofs.Ytoednaebdfohbaa.PRing
set_option linter.unusedVariables false
set_option linter.unusedSimpArgs false
set_option maxHeartbeats 1000000 in
set_option maxRecDepth 100000 in
theorem rsub_any (a b : List Int) (A B : Option Addr) (ca cb : Nat) (w : World) (ha : Rds w A ca .i64 a) (hb : Rds w B cb .i64 b) (hoa : Ok a) (hob : Ok b) :
    Calls Try.prog 25 #[.slice A a.length ca, .slice B b.length cb] w fun e w' => ∃ v, e = .returned v ∧ NewSl w w' (zip2 fSub a b) v ∧ Chg (fun _ => False) w w' := by
  have hla := hoa.1
  have hlb := hob.1
  have hca := ha.le
  have hcb := hb.le
  obtain ⟨z, hz⟩ : ∃ z, z = zip2 fSub a b := ⟨_, rfl⟩
  have hzl : z.length = 256 := by rw [hz, zip2_len]
  have hzg : ∀ i, i < 256 → z.getD i 0 = (a.getD i 0 + 8380417 - b.getD i 0) % 8380417 := fun i hi => by rw [hz, zip2_get _ _ _ _ hi, fSub]; congr 1; omega
  have hzg := Lib.hid hzg
  rw [← hz]
  clear hz
  refine calls_of_X (vs := [_, _]) (M := Hp w (fun _ => False) []) Try.func25 rfl Try.ntmps25 rfl (Hp.nil _ _) ?_
  repeat first
    | refine XC_region ?_
    | refine X_nil ?_
    | refine XC_seq ?_
    | refine XT_seq ?_
    | refine XC_block ?_
    | refine Y_res (r_assign rfl) rfl ?_
    | (refine X_make rfl rfl (by omega) (by omega) (by omega) rfl ?_; intro _ _)
  rename_i go hgo
  refine XC_loop (ι := Nat) (fun i => i ≤ 256) (fun i => [(0, .slice A a.length ca), (1, .slice B b.length cb), (5, .slice (some ⟨go, 0, none⟩) 256 256), (6, .int .i64 i)])
    (fun i => Hp w (fun _ => False) [Ch.sl (some ⟨go, 0, none⟩) 256 3 .i64 (part z i)]) (fun i => 256 - i) 0 (by omega) ⟨rfl, rfl, rfl, rfl, trivial⟩ (fun _ h => by rw [part_0]; exact h) ?_
  intro i hi
  have hpl := part_len z i
  repeat first
    | refine XC_region ?_
    | refine X_nil ?_
    | refine XC_seq ?_
    | refine XT_seq ?_
    | refine Y_res (r_move rfl) rfl ?_
    | refine Y_res (r_lss rfl rfl) rfl ?_
  refine XC_condP rfl (fun hlt => ?_) (fun hge => ?_)
  · have hi2 : i < 256 := by omega
    have hx := hoa.2 i hi2
    have hy := hob.2 i hi2
    repeat first
      | refine XC_region ?_
      | refine XC_tailF (by kernel_rfl) (by kernel_rfl) drw_hp ?_
      | refine X_nil ?_
      | refine XQ_nilX ?_
      | refine XC_seq ?_
      | refine XT_seq ?_
      | refine XC_block ?_
      | refine XT_block_normal ?_
      | refine XC_skip ?_
      | refine Y_res (r_move rfl) rfl ?_
      | refine Y_res (r_assign rfl) rfl ?_
      | refine Y_res (r_add64 rfl rfl (by omega)) rfl ?_
      | refine Y_res (r_sub64 rfl rfl (by omega)) rfl ?_
      | refine Y_res (r_rem rfl rfl (by omega)) rfl ?_
      | refine Y_res (r_indexS rfl rfl (by omega) (by first | omega | (simp only [List.length_set, List.length_replicate]; omega))) rfl ?_
      | refine Y_res (r_indexR rfl rfl (by assumption) (by omega) (by omega)) rfl ?_
      | refine Y_res (r_loadR rfl (by assumption) (by first | exact old_false | assumption) (by omega)) rfl ?_
      | refine X_storeI rfl rfl (by first | omega | (simp only [List.length_set, List.length_replicate]; omega)) ?_
    refine XT_round (i + 1) (by omega) (by omega) ⟨rfl, rfl, rfl, rfl, trivial⟩ (fun w3 h3 => ?_)
    rw [← part_set z i hi2, hzg.out i hi2]
    exact h3
  · obtain rfl : i = 256 := by omega
    rw [part_256 z hzl]
    repeat first
      | refine XC_region ?_
      | refine X_nil ?_
      | refine XC_seq ?_
      | refine XT_seq ?_
      | refine XT_block_same rfl ?_
      | refine XT_then_exit ?_
      | refine XC_exit ?_
      | refine XC_ret ?_
      | refine Y_res (r_move rfl) rfl ?_
      | refine Y_res (r_assign rfl) rfl ?_
    refine XT_ret1 (.inl rfl) Try.results25 rfl (fun w' h => ?_)
    exact ⟨_, rfl, ⟨_, _, by rw [hzl], h.head, fun j hj => (h.own _ (List.mem_cons_self ..) j hj).resolve_left (fun h => h)⟩, h.chg⟩

theorem mulL_P (a b : List Int) : mulL a b = mulP a b := rfl
theorem addL_P (a b : List Int) : zip2 fAdd a b = addP a b := rfl
theorem subL_P (a b : List Int) : zip2 fSub a b = subP a b := rfl
set_option maxHeartbeats 4000000 in
set_option maxRecDepth 100000 in
theorem rmul_any (a b : List Int) (A B : Option Addr) (ca cb : Nat) (w : World) (ha : Rds w A ca .i64 a) (hb : Rds w B cb .i64 b) (hoa : Ok a) (hob : Ok b) :
    Calls Try.prog 22 #[.slice A a.length ca, .slice B b.length cb] w fun e w' => ∃ v, e = .returned v ∧ NewSl w w' (mulL a b) v ∧ Chg (fun _ => False) w w' := by
  have hla := hoa.1
  have hlb := hob.1
  have hca := ha.le
  have hcb := hb.le
  rw [mulL_P, ← mall_mulP a b rfl]
  refine calls_of_X (vs := [_, _]) (M := Hp w (fun _ => False) []) Try.func22 rfl Try.ntmps22 rfl (Hp.nil _ _) ?_
  repeat first
    | refine XC_region ?_
    | refine X_nil ?_
    | refine XC_seq ?_
    | refine XT_seq ?_
    | refine XC_block ?_
    | refine Y_res (r_assign rfl) rfl ?_
    | (refine X_make rfl rfl (by omega) (by omega) (by omega) rfl ?_; intro _ _)
  rename_i go hgo
  refine XC_loop (ι := Nat) (fun i => i ≤ 256) (fun i => [(0, .slice A a.length ca), (1, .slice B b.length cb), (5, .slice (some ⟨go, 0, none⟩) 256 256), (6, .int .i64 i)])
    (fun i => Hp w (fun _ => False) [Ch.sl (some ⟨go, 0, none⟩) 256 3 .i64 (mall a b i)]) (fun i => 256 - i) 0 (by omega) ⟨rfl, rfl, rfl, rfl, trivial⟩ (fun _ h => h) ?_
  intro i hi
  have hol := mall_ok (a := a) (b := b) i hi
  have hs : i < 256 → mall a b (i + 1) = if a.getD i 0 = 0 then mall a b i else mrow a b (mall a b i) i 256 := fun _ => rfl
  repeat first
    | refine XC_region ?_
    | refine X_nil ?_
    | refine XC_seq ?_
    | refine XT_seq ?_
    | refine Y_res (r_move rfl) rfl ?_
    | refine Y_res (r_lss rfl rfl) rfl ?_
  refine XC_condP rfl (fun hlt => ?_) (fun hge => ?_)
  · have hi2 : i < 256 := by omega
    have hx := hoa.2 i hi2
    have hs := hs hi2
    obtain ⟨l, hl⟩ : ∃ l, l = mall a b i := ⟨_, rfl⟩
    rw [← hl] at hol hs ⊢
    repeat first
      | refine XC_region ?_
      | refine X_nil ?_
      | refine XC_seq ?_
      | refine XT_seq ?_
      | refine XC_block ?_
      | refine XC_skip ?_
      | refine Y_res (r_move rfl) rfl ?_
      | refine Y_res (r_eql rfl rfl) rfl ?_
      | refine Y_res (r_indexR rfl rfl (by assumption) (by omega) (by omega)) rfl ?_
      | refine Y_res (r_loadR rfl (by assumption) (by first | exact old_false | assumption) (by omega)) rfl ?_
    refine XC_condP rfl (fun h0 => ?_) (fun h0 => ?_)
    · rw [if_pos h0] at hs
      repeat first
        | refine XC_region ?_
        | refine X_nil ?_
        | refine XT_seq ?_
        | refine XT_block_same rfl ?_
        | refine XT_then_exit ?_
        | refine XC_exit ?_
        | refine Y_res (r_move rfl) rfl ?_
        | refine Y_res (r_assign rfl) rfl ?_
        | refine Y_res (r_add64 rfl rfl (by omega)) rfl ?_
      exact XT_round (i + 1) (by omega) (by omega) ⟨rfl, rfl, rfl, rfl, trivial⟩ (fun w3 h3 => by rw [hs]; exact h3)
    · rw [if_neg h0] at hs
      repeat first
        | refine XC_region ?_
        | refine X_nil ?_
        | refine XC_seq ?_
        | refine XT_seq ?_
        | refine XC_block ?_
        | refine XC_skip ?_
        | refine Y_res (r_assign rfl) rfl ?_
      refine XC_loop (ι := Nat) (fun j => j ≤ 256) (fun j => [(0, .slice A a.length ca), (1, .slice B b.length cb), (5, .slice (some ⟨go, 0, none⟩) 256 256), (6, .int .i64 i), (7, .int .i64 j)])
        (fun j => Hp w (fun _ => False) [Ch.sl (some ⟨go, 0, none⟩) 256 3 .i64 (mrow a b l i j)]) (fun j => 256 - j) 0 (by omega) ⟨rfl, rfl, rfl, rfl, rfl, trivial⟩ (fun _ h => h) ?_
      intro j hj
      have hor := mrow_ok (a := a) (b := b) hol hi2 j hj
      have hsr : mrow a b l i (j + 1) = mst a b (mrow a b l i j) i j := rfl
      obtain ⟨r, hr⟩ : ∃ r, r = mrow a b l i j := ⟨_, rfl⟩
      rw [← hr] at hor hsr ⊢
      have hrl := hor.1
      repeat first
        | refine XC_region ?_
        | refine X_nil ?_
        | refine XC_seq ?_
        | refine XT_seq ?_
        | refine Y_res (r_move rfl) rfl ?_
        | refine Y_res (r_lss rfl rfl) rfl ?_
      refine XC_condP rfl (fun hlt2 => ?_) (fun hge2 => ?_)
      · have hj2 : j < 256 := by omega
        have hy := hob.2 j hj2
        have hm := mul_bd hx hy
        repeat first
          | refine XC_region ?_
          | refine XC_quietF rfl (by kernel_rfl) (by kernel_rfl) drw_hp ?_
          | refine X_nil ?_
          | refine XQ_nil ?_
          | refine XC_seq ?_
          | refine XT_seq ?_
          | refine XC_block ?_
          | refine XC_skip ?_
          | refine Y_res (r_move rfl) rfl ?_
          | refine Y_res (r_assign rfl) rfl ?_
          | refine Y_res (r_add64 rfl rfl (by omega)) rfl ?_
          | refine Y_res (r_mul64 rfl rfl (by omega)) rfl ?_
          | refine Y_res (r_lss rfl rfl) rfl ?_
          | refine Y_res (r_indexR rfl rfl (by assumption) (by omega) (by omega)) rfl ?_
          | refine Y_res (r_loadR rfl (by assumption) (by first | exact old_false | assumption) (by omega)) rfl ?_
        refine XC_condP rfl (fun h3 => ?_) (fun h3 => ?_)
        · have h4 : i + j < 256 := by omega
          have hz := hor.2 (i + j) h4
          rw [mst, if_pos h4] at hsr
          repeat first
            | refine XC_region ?_
            | refine X_nil ?_
            | refine XT_seq ?_
            | refine XT_block_normal ?_
            | refine Y_res (r_move rfl) rfl ?_
            | refine Y_res (r_assign rfl) rfl ?_
            | refine Y_res (r_add64 rfl rfl (by omega)) rfl ?_
            | refine Y_res (r_rem rfl rfl (by omega)) rfl ?_
            | refine Y_res (r_indexS rfl rfl (by omega) (by first | omega | (simp only [List.length_set, List.length_replicate]; omega))) rfl ?_
            | refine Y_res (r_loadI rfl (by first | omega | (simp only [List.length_set, List.length_replicate]; omega))) rfl ?_
            | refine X_storeI rfl rfl (by first | omega | (simp only [List.length_set, List.length_replicate]; omega)) ?_
          exact XT_round (j + 1) (by omega) (by omega) ⟨rfl, rfl, rfl, rfl, rfl, trivial⟩ (fun w3 h3 => by rw [hsr]; exact h3)
        · have h4 : ¬ i + j < 256 := by omega
          have hz := hor.2 (i + j - 256) (by omega)
          have h5 : ((i : Int) + j - 256).toNat = i + j - 256 := by omega
          have h6 := Int.emod_nonneg (a.getD i 0 * b.getD j 0) (show (8380417 : Int) ≠ 0 by decide)
          have h7 := Int.emod_lt_of_pos (a.getD i 0 * b.getD j 0) (show (0 : Int) < 8380417 by decide)
          rw [mst, if_neg h4] at hsr
          repeat first
            | refine XC_region ?_
            | refine X_nil ?_
            | refine XT_seq ?_
            | refine XT_block_normal ?_
            | refine Y_res (r_move rfl) rfl ?_
            | refine Y_res (r_assign rfl) rfl ?_
            | refine Y_res (r_add64 rfl rfl (by omega)) rfl ?_
            | refine Y_res (r_sub64 rfl rfl (by omega)) rfl ?_
            | refine Y_res (r_mul64 rfl rfl (by omega)) rfl ?_
            | refine Y_res (r_rem rfl rfl (by omega)) rfl ?_
            | refine Y_res (r_indexST rfl rfl (by omega) (by omega) (by omega)) rfl ?_
            | refine Y_res (r_loadI rfl (by first | omega | (simp only [List.length_set, List.length_replicate]; omega))) rfl ?_
            | refine X_storeI rfl rfl (by first | omega | (simp only [List.length_set, List.length_replicate]; omega)) ?_
            | rw [h5]
          exact XT_round (j + 1) (by omega) (by omega) ⟨rfl, rfl, rfl, rfl, rfl, trivial⟩ (fun w3 h3 => by rw [hsr]; exact h3)
      · obtain rfl : j = 256 := by omega
        rw [← hr] at hs
        repeat first
          | refine XC_region ?_
          | refine X_nil ?_
          | refine XT_seq ?_
          | refine XT_block_normal ?_
          | refine XT_block_same rfl ?_
          | refine XT_then_exit ?_
          | refine XC_exit ?_
          | refine Y_res (r_move rfl) rfl ?_
          | refine Y_res (r_assign rfl) rfl ?_
          | refine Y_res (r_add64 rfl rfl (by omega)) rfl ?_
        exact XT_round (i + 1) (by omega) (by omega) ⟨rfl, rfl, rfl, rfl, trivial⟩ (fun w3 h3 => by rw [hs]; exact h3)
  · obtain rfl : i = 256 := by omega
    repeat first
      | refine XC_region ?_
      | refine X_nil ?_
      | refine XC_seq ?_
      | refine XT_seq ?_
      | refine XT_block_same rfl ?_
      | refine XT_then_exit ?_
      | refine XC_exit ?_
      | refine XC_ret ?_
      | refine Y_res (r_move rfl) rfl ?_
      | refine Y_res (r_assign rfl) rfl ?_
    exact XT_ret1 (.inl rfl) Try.results22 rfl (fun w' h => ⟨_, rfl, ⟨_, _, by rw [hol.1], h.head, fun j hj => (h.own _ (List.mem_cons_self ..) j hj).resolve_left (fun h => h)⟩, h.chg⟩)
end Go.Proofs.Ytoednaebdfohbaa.NRing
