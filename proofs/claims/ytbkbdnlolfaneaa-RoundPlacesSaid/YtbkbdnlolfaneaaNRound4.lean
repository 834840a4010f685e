/- Bytes as lists of hints, the program's way, walked. -/
import Derived.Test.YtbkbdnlolfaneaaNRound3
namespace Go.Proofs.Ytbkbdnlolfaneaa.NRound
open Go Go.RowKit Go.Proofs.Ytbkbdnlolfaneaa.MX Go.Proofs.Ytbkbdnlolfaneaa.PRound
set_option linter.unusedVariables false
set_option linter.unusedSimpArgs false
set_option linter.unusedVariables false
/-- Lists that are told, or none. -/
def TellsL (w : World) (o : Option (List (List Bool))) : Ending → World → Prop := fun en w' => ∃ A c, en = .returned (.tuple #[.slice A (o.getD []).length c, .bool o.isSome]) ∧ BLs w' A c (o.getD []) ∧ Chg (fun _ => False) w w'
theorem BLs.none (w : World) : BLs w none 0 [] := ⟨Nat.le_refl _, by decide, fun _ => rfl, fun i l h => by simp at h⟩
section
variable {P : Program} {n : Nat} {R : Regs} {w0 : World} {cs : List Ch} {o : Option (List (List Bool))} {e : Exit} {fn : Func} {t1 t2 : Nat}
theorem XT_tellsL0 (he : e = .ret ∨ e = .normal) (hr : fn.results = #[.tmp t1, .tmp t2]) (h1 : R.get t1 = some (.slice none 0 0)) (h2 : R.get t2 = some (.bool false)) (ho : o = none) :
    XT n (bodyPost P fn (TellsL w0 o)) e R (Hp w0 (fun _ => False) cs) := XT_ret2 he hr h1 h2 fun w hw => by
  subst ho
  exact ⟨none, 0, rfl, BLs.none w, hw.chg⟩
end
theorem not_unpB {b : List Int} {n m : Int} (h : ¬ unpOk b n m) : unpB b n m = none := by unfold unpB; rw [if_neg h]
theorem seg_succ (b : List Int) (f k : Nat) (hf : f ≤ k) (hk : k < b.length) : (b.take (k + 1)).drop f = (b.take k).drop f ++ [b.getD k 0] := by
  rw [List.take_succ_eq_append_getElem hk, List.drop_append_of_le_length (by simp; omega)]
  simp [List.getD_eq_getElem?_getD, hk]
theorem up_snoc {b : List Int} {f k : Nat} (hk : k < b.length) (h : Up ((b.take k).drop f)) (hlt : f < k → b.getD (k - 1) 0 < b.getD k 0) : Up ((b.take k).drop f ++ [b.getD k 0]) := by
  refine List.pairwise_append.2 ⟨h, by simp, fun x hx y hy => ?_⟩
  have hy : y = b.getD k 0 := by simpa using hy
  subst hy
  have h0 : 0 < ((b.take k).drop f).length := List.length_pos_of_mem hx
  have hfk : f < k := by simp at h0; omega
  have hl := hlt hfk
  obtain ⟨k', rfl⟩ : ∃ k', k = k' + 1 := ⟨k - 1, by omega⟩
  rw [seg_succ b f k' (by omega) (by omega)] at h hx
  obtain ⟨_, _, h3⟩ := List.pairwise_append.1 h
  rcases List.mem_append.1 hx with hx | hx
  · have := h3 x hx (b.getD k' 0) (List.mem_singleton.2 rfl)
    simp only [Nat.add_sub_cancel] at hl
    omega
  · have : x = b.getD k' 0 := by simpa using hx
    subst this
    simpa using hl
theorem up_at {b : List Int} {f e k : Nat} (h : Up ((b.take e).drop f)) (hf : f < k) (hk : k < e) (he : e ≤ b.length) : b.getD (k - 1) 0 < b.getD k 0 := by
  have h1 := List.pairwise_iff_getElem.1 h (k - 1 - f) (k - f) (by simp; omega) (by simp; omega) (by omega)
  simp only [List.getElem_drop, List.getElem_take] at h1
  rw [List.getD_eq_getElem?_getD, List.getD_eq_getElem?_getD, List.getElem?_eq_getElem (by omega), List.getElem?_eq_getElem (by omega)]
  simp only [Option.getD_some]
  have e1 : f + (k - 1 - f) = k - 1 := by omega
  have e2 : f + (k - f) = k := by omega
  simpa only [e1, e2] using h1
set_option maxRecDepth 100000 in
set_option maxHeartbeats 8000000 in
theorem unp_any (b : List Int) (A : Option Addr) (c : Nat) (n m : Int) (w : World) (hr : Rds w A c .u8 b) (hb : ∀ x ∈ b, 0 ≤ x ∧ x < 256) (hn : (Lit.int .i64 n).wf = true) (hm : (Lit.int .i64 m).wf = true) (hbl : b.length ≤ 10000) :
    Calls Try.prog 31 #[.slice A b.length c, .int .i64 n, .int .i64 m] w (TellsL w (unpB b n m)) := by
  have hle := hr.le
  refine calls_of_X (vs := [_, _, _]) (M := Hp w (fun _ => False) []) Try.func31 rfl Try.ntmps31 rfl (Hp.nil _ _) ?_
  repeat first
    | refine XC_region ?_
    | refine X_nil ?_
    | refine XC_seq ?_
    | refine XT_seq ?_
    | refine Y_res (r_move rfl) rfl ?_
    | refine Y_res (r_assign rfl) rfl ?_
    | refine Y_res (r_lss rfl rfl) rfl ?_
  refine Y_split rfl rfl (fun h1 => ?_) (fun h1 => ?_)
  · repeat first
      | refine XC_region ?_
      | refine X_nil ?_
      | refine XC_condT rfl ?_
      | refine XC_seq ?_
      | refine XT_seq ?_
      | refine XT_then_ret ?_
      | refine XC_ret ?_
      | refine Y_res (r_move rfl) rfl ?_
      | refine Y_res (r_assign rfl) rfl ?_
      | refine Y_off rfl rfl rfl ?_
      | refine Y_res (r_pickT rfl rfl) rfl ?_
    exact XT_tellsL0 (.inl rfl) Try.results31 rfl rfl (not_unpB fun q => by have := q.1.1; omega)
  repeat first
    | refine Y_res (r_move rfl) rfl ?_
    | refine Y_res (r_gtr rfl rfl) rfl ?_
    | refine Y_on rfl rfl ?_
    | refine Y_res (r_pickF rfl rfl) rfl ?_
  refine Y_split rfl rfl (fun h2 => ?_) (fun h2 => ?_)
  · repeat first
      | refine XC_region ?_
      | refine X_nil ?_
      | refine XC_condT rfl ?_
      | refine XC_seq ?_
      | refine XT_seq ?_
      | refine XT_then_ret ?_
      | refine XC_ret ?_
      | refine Y_res (r_move rfl) rfl ?_
      | refine Y_res (r_assign rfl) rfl ?_
      | refine Y_off rfl rfl rfl ?_
      | refine Y_res (r_pickT rfl rfl) rfl ?_
    exact XT_tellsL0 (.inl rfl) Try.results31 rfl rfl (not_unpB fun q => by have := q.1.2.1; omega)
  repeat first
    | refine Y_res (r_move rfl) rfl ?_
    | refine Y_res (r_lss rfl rfl) rfl ?_
    | refine Y_on rfl rfl ?_
    | refine Y_res (r_pickF rfl rfl) rfl ?_
  refine Y_split rfl rfl (fun h3 => ?_) (fun h3 => ?_)
  · repeat first
      | refine XC_region ?_
      | refine X_nil ?_
      | refine XC_condT rfl ?_
      | refine XC_seq ?_
      | refine XT_seq ?_
      | refine XT_then_ret ?_
      | refine XC_ret ?_
      | refine Y_res (r_move rfl) rfl ?_
      | refine Y_res (r_assign rfl) rfl ?_
      | refine Y_off rfl rfl rfl ?_
      | refine Y_res (r_pickT rfl rfl) rfl ?_
    exact XT_tellsL0 (.inl rfl) Try.results31 rfl rfl (not_unpB fun q => by have := q.1.2.2.1; omega)
  repeat first
    | refine Y_res (r_move rfl) rfl ?_
    | refine Y_res (r_gtr rfl rfl) rfl ?_
    | refine Y_on rfl rfl ?_
    | refine Y_res (r_pickF rfl rfl) rfl ?_
  refine Y_split rfl rfl (fun h4 => ?_) (fun h4 => ?_)
  · repeat first
      | refine XC_region ?_
      | refine X_nil ?_
      | refine XC_condT rfl ?_
      | refine XC_seq ?_
      | refine XT_seq ?_
      | refine XT_then_ret ?_
      | refine XC_ret ?_
      | refine Y_res (r_assign rfl) rfl ?_
      | refine Y_off rfl rfl rfl ?_
      | refine Y_res (r_pickT rfl rfl) rfl ?_
    exact XT_tellsL0 (.inl rfl) Try.results31 rfl rfl (not_unpB fun q => by have := q.1.2.2.2.1; omega)
  repeat first
    | refine X_nil ?_
    | refine XT_seq ?_
    | refine Y_res (r_move rfl) rfl ?_
    | refine Y_res (r_add64 rfl rfl (by omega)) rfl ?_
    | refine Y_res (r_neq rfl rfl) rfl ?_
    | refine Y_on rfl rfl ?_
    | refine Y_res (r_len rfl) rfl ?_
    | refine Y_res (r_pickF rfl rfl) rfl ?_
  refine XC_condP rfl (fun h5 => ?_) (fun h5 => ?_)
  · repeat first
      | refine XC_region ?_
      | refine X_nil ?_
      | refine XC_seq ?_
      | refine XT_seq ?_
      | refine XT_then_ret ?_
      | refine XC_ret ?_
      | refine Y_res (r_assign rfl) rfl ?_
    exact XT_tellsL0 (.inl rfl) Try.results31 rfl rfl (not_unpB fun q => by have := q.1.2.2.2.2; omega)
  obtain ⟨q, rfl⟩ : ∃ q : Nat, m = q := ⟨m.toNat, by omega⟩
  obtain ⟨p, rfl⟩ : ∃ p : Nat, n = p := ⟨n.toNat, by omega⟩
  have hq : q ≤ 255 := by omega
  have hp16 : p ≤ 16 := by omega
  have hlen : b.length = q + p := by omega
  have hC : unpC b p q := ⟨by omega, by omega, by omega, by omega, by omega⟩
  clear h1 h2 h3 h4 h5 hm hn
  repeat first
    | refine XC_region ?_
    | refine X_nil ?_
    | refine XC_seq ?_
    | refine XT_seq ?_
    | refine XC_block ?_
    | refine XC_skip ?_
    | refine Y_res (r_move rfl) rfl ?_
    | refine Y_res (r_assign rfl) rfl ?_
    | (refine X_makeV rfl rfl rfl (by omega) (by omega) (by omega) rfl ?_; intro _ _)
  rename_i g hg
  refine XC_mem (M' := Hp w (fun _ => False) [Ch.sv (some ⟨g, 0, none⟩) p 46 1 0 [], Ch.bag w []]) (fun _ h => h.bag0.swap) ?_
  refine XC_loop (ι := Nat × (Option Addr × Nat) × List It) (fun s => s.1 ≤ p ∧ (∀ j, j < s.1 → stepOk b q j) ∧ fromU b q s.1 ≤ q ∧ s.2.2.length = s.1 ∧ ∀ j it, s.2.2[j]? = some it → it.vs = (mkL (segU b q j)).map Value.bool) (fun s => [(0, .slice A b.length c), (1, .int .i64 p), (2, .int .i64 q), (8, .slice s.2.1.1 s.1 s.2.1.2), (9, .int .i64 (fromU b q s.1)), (40, .int .i64 p), (41, .int .i64 s.1)])
    (fun s => Hp w (fun _ => False) [Ch.sv s.2.1.1 s.2.1.2 46 1 s.1 (s.2.2.map It.val), Ch.bag w s.2.2]) (fun s => p - s.1) (0, (some ⟨g, 0, none⟩, p), []) ⟨Nat.zero_le _, fun j hj => absurd hj (Nat.not_lt_zero _), Nat.zero_le _, rfl, fun j it h => by simp at h⟩ ⟨rfl, rfl, rfl, rfl, rfl, rfl, rfl, trivial⟩ (fun _ h => h) ?_
  rintro ⟨i, ⟨A8, c8⟩, its⟩ ⟨hi, hst, hfq, hil, hiv⟩
  dsimp only at hi hst hfq hil hiv ⊢
  repeat first
    | refine XC_region ?_
    | refine X_nil ?_
    | refine XC_seq ?_
    | refine XT_seq ?_
    | refine Y_res (r_lss rfl rfl) rfl ?_
  refine XC_condP rfl (fun hlt => ?_) (fun hge => ?_)
  · have hi2 : i < p := by omega
    have hqi : q + i < b.length := by omega
    have hbd := hb (b.getD (q + i) 0) (by rw [List.getD_eq_getElem?_getD, List.getElem?_eq_getElem hqi]; exact List.getElem_mem _)
    obtain ⟨E, hE⟩ : ∃ E, E = endU b q i := ⟨_, rfl⟩
    have hEx : b.getD (q + i) 0 = (E : Int) := by rw [hE, endU]; omega
    repeat first
      | refine XC_region ?_
      | refine X_nil ?_
      | refine XC_seq ?_
      | refine XT_seq ?_
      | refine XC_block ?_
      | refine XC_skip ?_
      | refine Y_res (r_move rfl) rfl ?_
      | refine Y_res (r_assign rfl) rfl ?_
      | refine Y_res (r_add64 rfl rfl (by omega)) rfl ?_
      | refine Y_res (r_lss rfl rfl) rfl ?_
      | refine Y_res (r_conv64 rfl (by omega)) rfl ?_
      | refine Y_res (r_indexR rfl rfl (by assumption) (by omega) (by omega)) rfl ?_
      | refine Y_res (r_loadR rfl (by assumption) (by first | exact old_false | assumption) (by omega)) rfl ?_
      | (refine X_makeV rfl rfl rfl (by omega) (by omega) (by omega) rfl ?_; intro _ _)
    rename_i g1 hg1
    rw [hEx]
    obtain ⟨F, hF⟩ : ∃ F, F = fromU b q i := ⟨_, rfl⟩
    rw [← hF] at hfq ⊢
    refine Y_split rfl rfl (fun h1 => ?_) (fun h1 => ?_)
    · repeat first
        | refine XC_region ?_
        | refine X_nil ?_
        | refine XC_condT rfl ?_
        | refine XC_seq ?_
        | refine XT_seq ?_
        | refine XT_block_ret ?_
        | refine XT_then_ret ?_
        | refine XC_ret ?_
        | refine Y_res (r_assign rfl) rfl ?_
        | refine Y_off rfl rfl rfl ?_
        | refine Y_res (r_pickT rfl rfl) rfl ?_
      exact XT_tellsL0 (.inl rfl) Try.results31 rfl rfl (not_unpB fun r => by have := (r.2.1 i (by omega)).1; rw [Int.toNat_natCast, ← hE, ← hF] at this; omega)
    repeat first
      | refine X_nil ?_
      | refine XT_seq ?_
      | refine Y_res (r_move rfl) rfl ?_
      | refine Y_res (r_gtr rfl rfl) rfl ?_
      | refine Y_on rfl rfl ?_
      | refine Y_res (r_pickF rfl rfl) rfl ?_
    refine XC_condP rfl (fun h2 => ?_) (fun h2 => ?_)
    · repeat first
        | refine XC_region ?_
        | refine X_nil ?_
        | refine XC_seq ?_
        | refine XT_seq ?_
        | refine XT_block_ret ?_
        | refine XT_then_ret ?_
        | refine XC_ret ?_
        | refine Y_res (r_assign rfl) rfl ?_
      exact XT_tellsL0 (.inl rfl) Try.results31 rfl rfl (not_unpB fun r => by have := (r.2.1 i (by omega)).2.1; rw [Int.toNat_natCast, ← hE] at this; omega)
    have hFE : F ≤ E := by omega
    have hEq : E ≤ q := by omega
    clear h1 h2
    repeat first
      | refine XC_region ?_
      | refine X_nil ?_
      | refine XC_seq ?_
      | refine XT_seq ?_
      | refine XC_block ?_
      | refine XC_skip ?_
      | refine Y_res (r_move rfl) rfl ?_
      | refine Y_res (r_assign rfl) rfl ?_
    have e0 : (mkL ((b.take F).drop F)).map Value.bool = List.replicate 256 (Value.bool false) := by
      rw [List.drop_eq_nil_of_le (by simp; omega)]
      unfold mkL
      rw [List.foldl_nil, List.map_replicate]
    rw [← e0]
    refine XC_loop (ι := Nat) (fun k => F ≤ k ∧ k ≤ E ∧ Up ((b.take k).drop F)) (fun k => [(0, .slice A b.length c), (1, .int .i64 p), (2, .int .i64 q), (8, .slice A8 i c8), (9, .int .i64 F), (10, .int .i64 i), (11, .slice (some ⟨g1, 0, none⟩) 256 256), (12, .int .i64 E), (13, .int .i64 k), (40, .int .i64 p), (41, .int .i64 i)])
      (fun k => Hp w (fun _ => False) [Ch.sv (some ⟨g1, 0, none⟩) 256 4 1 256 ((mkL ((b.take k).drop F)).map Value.bool), Ch.sv A8 c8 46 1 i (its.map It.val), Ch.bag w its]) (fun k => E - k) F ⟨Nat.le_refl _, hFE, by rw [List.drop_eq_nil_of_le (by simp; omega)]; exact .nil⟩ ⟨rfl, rfl, rfl, rfl, rfl, rfl, rfl, rfl, rfl, rfl, rfl, trivial⟩ (fun _ h => h) ?_
    rintro k ⟨hk1, hk2, hup⟩
    repeat first
      | refine XC_region ?_
      | refine X_nil ?_
      | refine XC_seq ?_
      | refine XT_seq ?_
      | refine Y_res (r_move rfl) rfl ?_
      | refine Y_res (r_lss rfl rfl) rfl ?_
    refine XC_condP rfl (fun hlt2 => ?_) (fun hge2 => ?_)
    · have hk3 : k < E := by omega
      have hkb : k < b.length := by omega
      have hbk := hb (b.getD k 0) (by rw [List.getD_eq_getElem?_getD, List.getElem?_eq_getElem hkb]; exact List.getElem_mem _)
      have hml : ((mkL ((b.take k).drop F)).map Value.bool).length = 256 := by rw [List.length_map, mkL_len]
      have hset : ((mkL ((b.take k).drop F)).map Value.bool).set (b.getD k 0).toNat (.bool true) = (mkL ((b.take (k + 1)).drop F)).map Value.bool := by rw [seg_succ b F k hk1 hkb, mkL_snoc, List.map_set]
      have hrest : (F < k → b.getD (k - 1) 0 < b.getD k 0) → Up ((b.take (k + 1)).drop F) := fun hq2 => by
        rw [seg_succ b F k hk1 hkb]
        exact up_snoc hkb hup hq2
      repeat first
        | refine XC_quietF rfl (by kernel_rfl) (by kernel_rfl) drw_hp ?_
        | refine XC_seq ?_
        | refine XT_seq ?_
        | refine XC_block ?_
        | refine XC_skip ?_
        | refine Y_res (r_move rfl) rfl ?_
        | refine Y_res (r_gtr rfl rfl) rfl ?_
      refine Y_split rfl rfl (fun hin => ?_) (fun hout => ?_)
      · have ek : ((k : Int) - 1).toNat = k - 1 := by omega
        repeat first
          | refine XQ_nil ?_
          | refine XT_seq ?_
          | refine Y_res (r_move rfl) rfl ?_
          | refine Y_res (r_sub64 rfl rfl (by omega)) rfl ?_
          | refine Y_res (r_leq rfl rfl) rfl ?_
          | refine Y_on rfl rfl ?_
          | refine Y_res (r_indexR rfl rfl (by assumption) (by omega) (by omega)) rfl ?_
          | refine Y_res (r_indexRT rfl rfl (by assumption) (by omega) (by omega) (by omega)) rfl ?_
          | refine Y_res (r_loadR rfl (by assumption) (by first | exact old_false | assumption) (by omega)) rfl ?_
          | refine Y_res (r_pickT rfl rfl) rfl ?_
          | refine Y_res (r_indexRT rfl rfl hr (by omega) (by omega) (by omega)) rfl ?_
        rw [ek]
        refine XC_condP rfl (fun hbad => ?_) (fun hgood => ?_)
        · repeat first
            | refine XC_region ?_
            | refine X_nil ?_
            | refine XC_seq ?_
            | refine XT_seq ?_
            | refine XT_block_ret ?_
            | refine XT_then_ret ?_
            | refine XC_ret ?_
            | refine Y_res (r_assign rfl) rfl ?_
          exact XT_tellsL0 (.inl rfl) Try.results31 rfl rfl (not_unpB fun r => by
            have h3 := (r.2.1 i (by omega)).2.2
            rw [Int.toNat_natCast, segU, ← hE, ← hF] at h3
            have := up_at h3 (by omega) hk3 (by omega)
            omega)
        repeat first
          | refine XC_region ?_
          | refine X_nil ?_
          | refine XT_seq ?_
          | refine XT_block_normal ?_
          | refine XC_skip ?_
          | refine Y_res (r_move rfl) rfl ?_
          | refine Y_res (r_assign rfl) rfl ?_
          | refine Y_res (r_add64 rfl rfl (by omega)) rfl ?_
          | refine Y_res (r_indexR rfl rfl (by assumption) (by omega) (by omega)) rfl ?_
          | refine Y_res (r_loadR rfl (by assumption) (by first | exact old_false | assumption) (by omega)) rfl ?_
          | refine Y_res (r_indexV0T rfl rfl hbk.1 (by omega) (by omega)) rfl ?_
          | refine X_storeV rfl rfl rfl (by rw [hml]; omega) ?_
        rw [hset]
        exact XT_round (k + 1) ⟨by omega, by omega, hrest (fun _ => by omega)⟩ (by omega) ⟨rfl, rfl, rfl, rfl, rfl, rfl, rfl, rfl, rfl, rfl, rfl, trivial⟩ (fun _ h => h)
      · repeat first
          | refine XC_region ?_
          | refine X_nil ?_
          | refine XQ_nil ?_
          | refine XC_condF rfl ?_
          | refine XT_seq ?_
          | refine XT_block_normal ?_
          | refine XC_skip ?_
          | refine Y_res (r_move rfl) rfl ?_
          | refine Y_res (r_assign rfl) rfl ?_
          | refine Y_res (r_add64 rfl rfl (by omega)) rfl ?_
          | refine Y_off rfl rfl rfl ?_
          | refine Y_res (r_indexR rfl rfl (by assumption) (by omega) (by omega)) rfl ?_
          | refine Y_res (r_loadR rfl (by assumption) (by first | exact old_false | assumption) (by omega)) rfl ?_
          | refine Y_res (r_pickF rfl rfl) rfl ?_
          | refine Y_res (r_indexV0T rfl rfl hbk.1 (by omega) (by omega)) rfl ?_
          | refine X_storeV rfl rfl rfl (by rw [hml]; omega) ?_
        rw [hset]
        exact XT_round (k + 1) ⟨by omega, by omega, hrest (fun hq2 => absurd hq2 (by omega))⟩ (by omega) ⟨rfl, rfl, rfl, rfl, rfl, rfl, rfl, rfl, rfl, rfl, rfl, trivial⟩ (fun _ h => h)
    · obtain rfl : k = E := by omega
      have hseg : (b.take k).drop F = segU b q i := by rw [segU, ← hE, ← hF]
      rw [hseg] at hup ⊢
      repeat first
        | refine XC_region ?_
        | refine X_nil ?_
        | refine XT_seq ?_
        | refine XT_block_normal ?_
        | refine XT_block_same rfl ?_
        | refine XT_then_exit ?_
        | refine XC_exit ?_
        | refine Y_res (r_move rfl) rfl ?_
        | refine Y_res (r_assign rfl) rfl ?_
        | refine Y_res (r_add64 rfl rfl (by omega)) rfl ?_
        | (refine X_buildV rfl rfl (fun u hu => by simp at hu; rw [hu]; rfl) rfl (by simp) rfl ?_; intro _ _)
        | (refine X_appendV rfl rfl (fun w_ hM => rdv_blk (r := []) hM.head (List.append_nil _).symm rfl (Nat.le_refl 1) (by decide)) (fun u hu => by simp at hu; rw [hu]; rfl) rfl (by decide) rfl rfl (by omega) (by omega) rfl ?_; intro _ _)
      subst hE
      refine XT_round (i + 1, (_, _), its ++ [⟨some ⟨g1, 0, none⟩, 256, 256, (mkL (segU b q i)).map Value.bool⟩]) ⟨by dsimp only; omega, fun j hj => ?_, by dsimp only [fromU]; omega, by simp [hil], fun j it hj => ?_⟩ (by dsimp only; omega) ⟨rfl, rfl, rfl, rfl, rfl, rfl, rfl, trivial⟩ (fun _ h => ?_)
      · dsimp only at hj
        rcases Nat.lt_or_ge j i with hj2 | hj2
        · exact hst j hj2
        · obtain rfl : j = i := by omega
          exact ⟨by rw [← hF]; exact hFE, hEq, hup⟩
      · dsimp only at hj
        rcases Nat.lt_or_ge j its.length with hj2 | hj2
        · rw [List.getElem?_append_left hj2] at hj
          exact hiv j it hj
        · rw [List.getElem?_append_right hj2] at hj
          have h0 : j - its.length = 0 := by
            have := (List.getElem?_eq_some_iff.1 hj).1
            simpa using this
          rw [h0] at hj
          have hj := Option.some.inj hj
          rw [← hj]
          obtain rfl : j = i := by omega
          rfl
      · have h2 := h.tail.of_perm (List.Perm.cons _ (List.Perm.swap _ _ _))
        have h3 := (h2.bagV.bagSub (jts := its ++ [⟨some ⟨g1, 0, none⟩, 256, 256, (mkL (segU b q i)).map Value.bool⟩]) (fun it hit => by
          rcases List.mem_append.1 hit with hit | hit
          · exact List.mem_cons_of_mem _ hit
          · rw [List.mem_singleton.1 hit]; exact List.mem_cons_self ..)).swap
        dsimp only
        rw [List.map_append]
        exact h3
  · obtain rfl : i = p := by omega
    obtain ⟨F, hF⟩ : ∃ F, F = fromU b q i := ⟨_, rfl⟩
    rw [← hF] at hfq ⊢
    repeat first
      | refine XC_region ?_
      | refine X_nil ?_
      | refine XC_seq ?_
      | refine XT_seq ?_
      | refine XC_block ?_
      | refine XT_block_same rfl ?_
      | refine XT_then_exit ?_
      | refine XC_exit ?_
      | refine Y_res (r_move rfl) rfl ?_
      | refine Y_res (r_len rfl) rfl ?_
      | refine Y_res (r_cutLH rfl rfl rfl (by omega) (by omega)) rfl ?_
    have hrc := hr.cut F q hfq (by omega)
    have hZl : ((b.take q).drop F).length = q - F := by simp; omega
    refine XC_loop (ι := Nat) (fun j => j ≤ q - F ∧ ∀ k, F ≤ k → k < F + j → b.getD k 0 = 0) (fun j => [(8, .slice A8 i c8), (96, .slice (cutA A F c 1) (q - F) (c - F)), (97, .int .i64 ((q - F : Nat) : Int)), (98, .int .i64 j)])
      (fun j => Hp w (fun _ => False) [Ch.sv A8 c8 46 1 i (its.map It.val), Ch.bag w its]) (fun j => q - F - j) 0 ⟨Nat.zero_le _, fun k h1 h2 => by omega⟩ ⟨rfl, rfl, rfl, rfl, trivial⟩ (fun _ h => h) ?_
    rintro j ⟨hj, hz⟩
    repeat first
      | refine XC_region ?_
      | refine X_nil ?_
      | refine XC_seq ?_
      | refine XT_seq ?_
      | refine Y_res (r_lss rfl rfl) rfl ?_
    refine XC_condP rfl (fun hlt2 => ?_) (fun hge2 => ?_)
    · have hj2 : j < q - F := by omega
      have hzj : ((b.take q).drop F).getD j 0 = b.getD (F + j) 0 := by
        rw [List.getD_eq_getElem?_getD, List.getD_eq_getElem?_getD, List.getElem?_drop, List.getElem?_take_of_lt (by omega)]
      repeat first
        | refine XC_region ?_
        | refine X_nil ?_
        | refine XC_seq ?_
        | refine XT_seq ?_
        | refine XC_block ?_
        | refine XC_skip ?_
        | refine Y_res (r_move rfl) rfl ?_
        | refine Y_res (r_assign rfl) rfl ?_
        | refine Y_res (r_neq rfl rfl) rfl ?_
        | refine Y_res (r_indexR rfl rfl (by assumption) (by omega) (by omega)) rfl ?_
        | refine Y_res (r_loadR rfl (by assumption) (by first | exact old_false | assumption) (by omega)) rfl ?_
      rw [hzj]
      refine XC_condP rfl (fun hbad => ?_) (fun hgood => ?_)
      · repeat first
          | refine XC_region ?_
          | refine X_nil ?_
          | refine XC_seq ?_
          | refine XT_seq ?_
          | refine XT_block_ret ?_
          | refine XT_then_ret ?_
          | refine XC_ret ?_
          | refine Y_res (r_assign rfl) rfl ?_
        exact XT_tellsL0 (.inl rfl) Try.results31 rfl rfl (not_unpB fun r => hbad (r.2.2 (F + j) (by rw [Int.toNat_natCast, Int.toNat_natCast, ← hF]; omega) (by omega)))
      repeat first
        | refine XC_region ?_
        | refine X_nil ?_
        | refine XT_seq ?_
        | refine XT_block_normal ?_
        | refine XC_skip ?_
        | refine Y_res (r_move rfl) rfl ?_
        | refine Y_res (r_add64 rfl rfl (by omega)) rfl ?_
      exact XT_round (j + 1) ⟨by omega, fun k h1 h2 => by
        rcases Nat.lt_or_ge k (F + j) with h3 | h3
        · exact hz k h1 h3
        · obtain rfl : k = F + j := by omega
          exact Classical.not_not.1 hgood⟩ (by omega) ⟨rfl, rfl, rfl, rfl, trivial⟩ (fun _ h => h)
    · obtain rfl : j = q - F := by omega
      have hok : unpOk b i q := ⟨hC, fun j hj => by rw [Int.toNat_natCast] at hj ⊢; exact hst j hj, fun k h1 h2 => hz k (by rw [Int.toNat_natCast, Int.toNat_natCast, ← hF] at h1; exact h1) (by rw [Int.toNat_natCast] at h2; omega)⟩
      obtain ⟨L, hL⟩ : ∃ L, L = (List.range i).map fun i => mkL (segU b q i) := ⟨_, rfl⟩
      have hu : unpB b i q = some L := by unfold unpB; rw [if_pos hok, hL]; rfl
      have hLl : L.length = i := by rw [hL]; simp
      rw [hu]
      repeat first
        | refine XC_region ?_
        | refine X_nil ?_
        | refine XC_seq ?_
        | refine XT_seq ?_
        | refine XT_block_same rfl ?_
        | refine XT_then_exit ?_
        | refine XC_exit ?_
        | refine XC_ret ?_
        | refine Y_res (r_move rfl) rfl ?_
        | refine Y_res (r_assign rfl) rfl ?_
      refine XT_ret2 (.inl rfl) Try.results31 rfl rfl (fun w' h => ⟨A8, c8, ?_, ?_, h.chg⟩)
      · show Ending.returned (.tuple #[.slice A8 i c8, .bool true]) = .returned (.tuple #[.slice A8 L.length c8, .bool true])
        rw [hLl]
      · show BLs w' A8 c8 L
        have hsv := rdv_sv h.head
        refine ⟨by rw [hLl]; exact hsv.le, hsv.cap, hsv.nil, fun j l hjl => ?_⟩
        have hj3 : j < i := by rw [← hLl]; exact (List.getElem?_eq_some_iff.1 hjl).1
        have hle2 : l = mkL (segU b q j) := by
          rw [hL, List.getElem?_map, List.getElem?_range hj3] at hjl
          exact (Option.some.inj hjl).symm
        obtain ⟨it, hit⟩ : ∃ it, its[j]? = some it := ⟨its[j], List.getElem?_eq_getElem (by omega)⟩
        have hv := hiv j it hit
        have hrd := bag_rd h.tail.head h.chg (List.mem_of_getElem? hit)
        have hln := hrd.len
        rw [hv, List.length_map, Nat.mul_one] at hln
        have hcell := hsv.at_ j it.val (by rw [List.getElem?_map, hit]; rfl)
        refine ⟨it.A, it.c, ?_, ?_⟩
        · rw [hcell, hle2, hln]; rfl
        · have hrd2 : RdV w' it.A it.c 1 it.l it.vs := hrd
          rw [hv, ← hln] at hrd2
          rw [hle2]
          exact hrd2
end Go.Proofs.Ytbkbdnlolfaneaa.NRound
