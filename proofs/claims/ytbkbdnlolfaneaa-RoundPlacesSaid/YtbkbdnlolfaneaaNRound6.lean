/- Bytes as lists of hints, the document's way, walked. -/
import Derived.Test.YtbkbdnlolfaneaaNRound5
namespace Go.Proofs.Ytbkbdnlolfaneaa.NRound
open Go Go.RowKit Go.Proofs.Ytbkbdnlolfaneaa.MX Go.Proofs.Ytbkbdnlolfaneaa.PRound
set_option linter.unusedVariables false
set_option linter.unusedSimpArgs false
set_option linter.unusedVariables false
theorem not_unpR {b : List Int} {n m : Int} (h : ¬ (unpC b n m ∧ packB (listsR b n m) m = some b)) : unpR b n m = none := by unfold unpR; rw [if_neg h]
theorem bls_of {w0 w' : World} {A8 : Option Addr} {c8 i : Nat} {e : TypeId} {its : List It} {L : List (List Bool)} {cs : List Ch} (h : Hp w0 (fun _ => False) (Ch.sv A8 c8 e 1 i (its.map It.val) :: Ch.bag w0 its :: cs) w') (hil : its.length = i) (hLl : L.length = i) (hiv : ∀ (j : Nat) (it : It) (l : List Bool), its[j]? = some it → L[j]? = some l → it.vs = l.map Value.bool) : BLs w' A8 c8 L := by
  have hsv := rdv_sv h.head
  refine ⟨by rw [hLl]; exact hsv.le, hsv.cap, hsv.nil, fun j l hjl => ?_⟩
  have hj3 : j < i := by rw [← hLl]; exact (List.getElem?_eq_some_iff.1 hjl).1
  obtain ⟨it, hit⟩ : ∃ it, its[j]? = some it := ⟨its[j], List.getElem?_eq_getElem (by omega)⟩
  have hv := hiv j it l hit hjl
  have hrd : RdV w' it.A it.c 1 it.l it.vs := bag_rd h.tail.head h.chg (List.mem_of_getElem? hit)
  have hln := hrd.len
  rw [hv, List.length_map, Nat.mul_one] at hln
  have hcell := hsv.at_ j it.val (by rw [List.getElem?_map, hit]; rfl)
  refine ⟨it.A, it.c, ?_, ?_⟩
  · rw [hcell, hln]; rfl
  · rw [hv, ← hln] at hrd
    exact hrd
set_option maxRecDepth 100000 in
set_option maxHeartbeats 8000000 in
theorem refunp_any (b : List Int) (A : Option Addr) (c : Nat) (n m : Int) (w : World) (hr : Rds w A c .u8 b) (hb : ∀ x ∈ b, 0 ≤ x ∧ x < 256) (hn : (Lit.int .i64 n).wf = true) (hm : (Lit.int .i64 m).wf = true) (hbl : b.length ≤ 10000) :
    Calls Try.prog 33 #[.slice A b.length c, .int .i64 n, .int .i64 m] w (TellsL w (unpR b n m)) := by
  have hle := hr.le
  refine calls_of_X (vs := [_, _, _]) (M := Hp w (fun _ => False) []) Try.func33 rfl Try.ntmps33 rfl (Hp.nil _ _) ?_
  repeat first
    | refine XC_region ?_
    | refine X_nil ?_
    | refine XC_seq ?_
    | refine XT_seq ?_
    | refine Y_res (r_move rfl) rfl ?_
    | refine Y_res (r_assign rfl) rfl ?_
    | refine Y_res (r_lss rfl rfl) rfl ?_
  refine Y_split rfl rfl (fun h1 => ?_) (fun h1 => ?_)
  · repeat first
      | refine XC_region ?_
      | refine X_nil ?_
      | refine XC_condT rfl ?_
      | refine XC_seq ?_
      | refine XT_seq ?_
      | refine XT_then_ret ?_
      | refine XC_ret ?_
      | refine Y_res (r_move rfl) rfl ?_
      | refine Y_res (r_assign rfl) rfl ?_
      | refine Y_off rfl rfl rfl ?_
      | refine Y_res (r_pickT rfl rfl) rfl ?_
    exact XT_tellsL0 (.inl rfl) Try.results33 rfl rfl (not_unpR fun q => by have := q.1.1; omega)
  repeat first
    | refine Y_res (r_move rfl) rfl ?_
    | refine Y_res (r_gtr rfl rfl) rfl ?_
    | refine Y_on rfl rfl ?_
    | refine Y_res (r_pickF rfl rfl) rfl ?_
  refine Y_split rfl rfl (fun h2 => ?_) (fun h2 => ?_)
  · repeat first
      | refine XC_region ?_
      | refine X_nil ?_
      | refine XC_condT rfl ?_
      | refine XC_seq ?_
      | refine XT_seq ?_
      | refine XT_then_ret ?_
      | refine XC_ret ?_
      | refine Y_res (r_move rfl) rfl ?_
      | refine Y_res (r_assign rfl) rfl ?_
      | refine Y_off rfl rfl rfl ?_
      | refine Y_res (r_pickT rfl rfl) rfl ?_
    exact XT_tellsL0 (.inl rfl) Try.results33 rfl rfl (not_unpR fun q => by have := q.1.2.1; omega)
  repeat first
    | refine Y_res (r_move rfl) rfl ?_
    | refine Y_res (r_lss rfl rfl) rfl ?_
    | refine Y_on rfl rfl ?_
    | refine Y_res (r_pickF rfl rfl) rfl ?_
  refine Y_split rfl rfl (fun h3 => ?_) (fun h3 => ?_)
  · repeat first
      | refine XC_region ?_
      | refine X_nil ?_
      | refine XC_condT rfl ?_
      | refine XC_seq ?_
      | refine XT_seq ?_
      | refine XT_then_ret ?_
      | refine XC_ret ?_
      | refine Y_res (r_move rfl) rfl ?_
      | refine Y_res (r_assign rfl) rfl ?_
      | refine Y_off rfl rfl rfl ?_
      | refine Y_res (r_pickT rfl rfl) rfl ?_
    exact XT_tellsL0 (.inl rfl) Try.results33 rfl rfl (not_unpR fun q => by have := q.1.2.2.1; omega)
  repeat first
    | refine Y_res (r_move rfl) rfl ?_
    | refine Y_res (r_gtr rfl rfl) rfl ?_
    | refine Y_on rfl rfl ?_
    | refine Y_res (r_pickF rfl rfl) rfl ?_
  refine Y_split rfl rfl (fun h4 => ?_) (fun h4 => ?_)
  · repeat first
      | refine XC_region ?_
      | refine X_nil ?_
      | refine XC_condT rfl ?_
      | refine XC_seq ?_
      | refine XT_seq ?_
      | refine XT_then_ret ?_
      | refine XC_ret ?_
      | refine Y_res (r_assign rfl) rfl ?_
      | refine Y_off rfl rfl rfl ?_
      | refine Y_res (r_pickT rfl rfl) rfl ?_
    exact XT_tellsL0 (.inl rfl) Try.results33 rfl rfl (not_unpR fun q => by have := q.1.2.2.2.1; omega)
  repeat first
    | refine X_nil ?_
    | refine XT_seq ?_
    | refine Y_res (r_move rfl) rfl ?_
    | refine Y_res (r_add64 rfl rfl (by omega)) rfl ?_
    | refine Y_res (r_neq rfl rfl) rfl ?_
    | refine Y_on rfl rfl ?_
    | refine Y_res (r_len rfl) rfl ?_
    | refine Y_res (r_pickF rfl rfl) rfl ?_
  refine XC_condP rfl (fun h5 => ?_) (fun h5 => ?_)
  · repeat first
      | refine XC_region ?_
      | refine X_nil ?_
      | refine XC_seq ?_
      | refine XT_seq ?_
      | refine XT_then_ret ?_
      | refine XC_ret ?_
      | refine Y_res (r_assign rfl) rfl ?_
    exact XT_tellsL0 (.inl rfl) Try.results33 rfl rfl (not_unpR fun q => by have := q.1.2.2.2.2; omega)
  obtain ⟨q, rfl⟩ : ∃ q : Nat, m = q := ⟨m.toNat, by omega⟩
  obtain ⟨p, rfl⟩ : ∃ p : Nat, n = p := ⟨n.toNat, by omega⟩
  have hq : q ≤ 255 := by omega
  have hp16 : p ≤ 16 := by omega
  have hlen : b.length = q + p := by omega
  have hC : unpC b p q := ⟨by omega, by omega, by omega, by omega, by omega⟩
  clear h1 h2 h3 h4 h5 hn
  repeat first
    | refine XC_region ?_
    | refine X_nil ?_
    | refine XC_seq ?_
    | refine XT_seq ?_
    | refine XC_block ?_
    | refine XC_skip ?_
    | refine Y_res (r_move rfl) rfl ?_
    | refine Y_res (r_assign rfl) rfl ?_
    | (refine X_makeV rfl rfl rfl (by omega) (by omega) (by omega) rfl ?_; intro _ _)
  rename_i g hg
  refine XC_mem (M' := Hp w (fun _ => False) [Ch.sv (some ⟨g, 0, none⟩) p 46 1 p (List.replicate p (.slice none 0 0)), Ch.bag w []]) (fun _ h => h.bag0.swap) ?_
  refine XC_loop (ι := Nat × List It) (fun s => s.1 ≤ p ∧ s.2.length = s.1 ∧ ∀ j it, s.2[j]? = some it → it.vs = (mkL (segR b q j)).map Value.bool) (fun s => [(0, .slice A b.length c), (1, .int .i64 p), (2, .int .i64 q), (8, .slice (some ⟨g, 0, none⟩) p p), (9, .int .i64 (fromU b q s.1)), (10, .int .i64 s.1)])
    (fun s => Hp w (fun _ => False) [Ch.sv (some ⟨g, 0, none⟩) p 46 1 p (s.2.map It.val ++ List.replicate (p - s.1) (.slice none 0 0)), Ch.bag w s.2]) (fun s => p - s.1) (0, []) ⟨Nat.zero_le _, rfl, fun j it h => by simp at h⟩ ⟨rfl, rfl, rfl, rfl, rfl, rfl, trivial⟩ (fun _ h => h) ?_
  rintro ⟨i, its⟩ ⟨hi, hil, hiv⟩
  dsimp only at hi hil hiv ⊢
  repeat first
    | refine XC_region ?_
    | refine X_nil ?_
    | refine XC_seq ?_
    | refine XT_seq ?_
    | refine Y_res (r_move rfl) rfl ?_
    | refine Y_res (r_lss rfl rfl) rfl ?_
  refine XC_condP rfl (fun hlt => ?_) (fun hge => ?_)
  · have hi2 : i < p := by omega
    have hqi : q + i < b.length := by omega
    have hbd := hb (b.getD (q + i) 0) (by rw [List.getD_eq_getElem?_getD, List.getElem?_eq_getElem hqi]; exact List.getElem_mem _)
    obtain ⟨E, hE⟩ : ∃ E, E = endU b q i := ⟨_, rfl⟩
    have hEx : b.getD (q + i) 0 = (E : Int) := by rw [hE, endU]; omega
    have hrl : (its.map It.val ++ List.replicate (p - i) (Value.slice none 0 0)).length = p := by simp; omega
    repeat first
      | refine XC_region ?_
      | refine X_nil ?_
      | refine XC_seq ?_
      | refine XT_seq ?_
      | refine XC_block ?_
      | refine XC_skip ?_
      | refine Y_res (r_move rfl) rfl ?_
      | refine Y_res (r_assign rfl) rfl ?_
      | refine Y_res (r_add64 rfl rfl (by omega)) rfl ?_
      | refine Y_res (r_conv64 rfl (by omega)) rfl ?_
      | refine Y_res (r_indexR rfl rfl (by assumption) (by omega) (by omega)) rfl ?_
      | refine Y_res (r_loadR rfl (by assumption) (by first | exact old_false | assumption) (by omega)) rfl ?_
      | (refine X_makeV rfl rfl rfl (by omega) (by omega) (by omega) rfl ?_; intro _ _)
      | refine Y_res (r_indexV0 rfl rfl hi2 (Nat.le_refl p)) rfl ?_
      | refine X_storeV rfl rfl rfl (by rw [hrl]; omega) ?_
    rename_i g1 hg1
    rw [hEx]
    obtain ⟨F, hF⟩ : ∃ F, F = fromU b q i := ⟨_, rfl⟩
    rw [← hF]
    have hXe : (its.map It.val ++ List.replicate (p - i) (Value.slice none 0 0)).set i (.slice (some ⟨g1, 0, none⟩) 256 256) = its.map It.val ++ (.slice (some ⟨g1, 0, none⟩) 256 256 :: List.replicate (p - (i + 1)) (Value.slice none 0 0)) := by
      rw [show p - i = (p - (i + 1)) + 1 by omega, List.replicate_succ, List.set_append_right _ _ (by simp; omega)]
      simp [hil]
    rw [hXe]
    obtain ⟨Xs, hXs⟩ : ∃ Xs, Xs = its.map It.val ++ (.slice (some ⟨g1, 0, none⟩) 256 256 :: List.replicate (p - (i + 1)) (Value.slice none 0 0)) := ⟨_, rfl⟩
    have hXi : Xs[i]? = some (.slice (some ⟨g1, 0, none⟩) 256 256) := by rw [hXs, List.getElem?_append_right (by simp; omega)]; simp [hil]
    rw [← hXs]
    have e0 : (mkL ((b.take F).drop F)).map Value.bool = List.replicate 256 (Value.bool false) := by
      rw [List.drop_eq_nil_of_le (by simp; omega)]
      unfold mkL
      rw [List.foldl_nil, List.map_replicate]
    rw [← e0]
    refine XC_loop (ι := Nat) (fun k => F ≤ k ∧ (k ≤ min E q ∨ k = F)) (fun k => [(0, .slice A b.length c), (1, .int .i64 p), (2, .int .i64 q), (8, .slice (some ⟨g, 0, none⟩) p p), (9, .int .i64 F), (10, .int .i64 i), (11, .int .i64 E), (12, .int .i64 k)])
      (fun k => Hp w (fun _ => False) [Ch.sv (some ⟨g1, 0, none⟩) 256 4 1 256 ((mkL ((b.take k).drop F)).map Value.bool), Ch.sv (some ⟨g, 0, none⟩) p 46 1 p Xs, Ch.bag w its]) (fun k => q - k) F ⟨Nat.le_refl _, .inr rfl⟩ ⟨rfl, rfl, rfl, rfl, rfl, rfl, rfl, rfl, trivial⟩ (fun _ h => h) ?_
    rintro k ⟨hk1, hk2⟩
    repeat first
      | refine XC_region ?_
      | refine XC_seq ?_
      | refine Y_res (r_move rfl) rfl ?_
      | refine Y_res (r_lss rfl rfl) rfl ?_
    have hlast : ¬ (k < E ∧ k < q) → (b.take k).drop F = segR b q i := fun hh => by
      rw [segR, ← hE, ← hF]
      rcases hk2 with hk2 | hk2
      · rw [show k = min E q by omega]
      · rw [List.drop_eq_nil_of_le (by simp; omega), List.drop_eq_nil_of_le (by simp; omega)]
    refine Y_split rfl rfl (fun h1 => ?_) (fun h1 => ?_)
    · repeat first
        | refine X_nil ?_
        | refine XT_seq ?_
        | refine Y_res (r_move rfl) rfl ?_
        | refine Y_res (r_lss rfl rfl) rfl ?_
        | refine Y_on rfl rfl ?_
        | refine Y_res (r_pickT rfl rfl) rfl ?_
      refine XC_condP rfl (fun h2 => ?_) (fun h2 => ?_)
      · have hkb : k < b.length := by omega
        have hbk := hb (b.getD k 0) (by rw [List.getD_eq_getElem?_getD, List.getElem?_eq_getElem hkb]; exact List.getElem_mem _)
        have hml : ((mkL ((b.take k).drop F)).map Value.bool).length = 256 := by rw [List.length_map, mkL_len]
        have hset : ((mkL ((b.take k).drop F)).map Value.bool).set (b.getD k 0).toNat (.bool true) = (mkL ((b.take (k + 1)).drop F)).map Value.bool := by rw [seg_succ b F k hk1 hkb, mkL_snoc, List.map_set]
        repeat first
          | refine XC_region ?_
          | refine XC_tailF (by kernel_rfl) (by kernel_rfl) drw_hp ?_
          | refine X_nil ?_
          | refine XQ_nilX ?_
          | refine XC_seq ?_
          | refine XT_seq ?_
          | refine XC_block ?_
          | refine XT_block_normal ?_
          | refine XC_skip ?_
          | refine Y_res (r_move rfl) rfl ?_
          | refine Y_res (r_assign rfl) rfl ?_
          | refine Y_res (r_add64 rfl rfl (by omega)) rfl ?_
          | refine Y_res (r_indexR rfl rfl (by assumption) (by omega) (by omega)) rfl ?_
          | refine Y_res (r_loadR rfl (by assumption) (by first | exact old_false | assumption) (by omega)) rfl ?_
          | refine Y_res (r_indexV0 rfl rfl hi2 (Nat.le_refl p)) rfl ?_
          | refine Y_res (r_loadV rfl hXi) rfl ?_
          | refine Y_res (r_indexV0T rfl rfl hbk.1 (by omega) (by omega)) rfl ?_
          | refine X_storeV rfl rfl rfl (by rw [hml]; omega) ?_
        rw [hset]
        exact XT_round (k + 1) ⟨by omega, by omega⟩ (by omega) ⟨rfl, rfl, rfl, rfl, rfl, rfl, rfl, rfl, trivial⟩ (fun _ h => h)
      · have hsg := hlast (by omega)
        rw [hsg]
        repeat first
          | refine XC_region ?_
          | refine X_nil ?_
          | refine XT_seq ?_
          | refine XT_block_normal ?_
          | refine XT_block_same rfl ?_
          | refine XT_then_exit ?_
          | refine XC_exit ?_
          | refine Y_res (r_move rfl) rfl ?_
          | refine Y_res (r_assign rfl) rfl ?_
          | refine Y_res (r_add64 rfl rfl (by omega)) rfl ?_
        subst hE
        refine XT_round (i + 1, its ++ [⟨some ⟨g1, 0, none⟩, 256, 256, (mkL (segR b q i)).map Value.bool⟩]) ⟨by dsimp only; omega, by simp [hil], fun j it hj => ?_⟩ (by dsimp only; omega) ⟨rfl, rfl, rfl, rfl, rfl, rfl, trivial⟩ (fun _ h => ?_)
        · dsimp only at hj
          rcases Nat.lt_or_ge j its.length with hj2 | hj2
          · rw [List.getElem?_append_left hj2] at hj
            exact hiv j it hj
          · rw [List.getElem?_append_right hj2] at hj
            have h0 : j - its.length = 0 := by
              have := (List.getElem?_eq_some_iff.1 hj).1
              simpa using this
            rw [h0] at hj
            have hj := Option.some.inj hj
            rw [← hj]
            obtain rfl : j = i := by omega
            rfl
        · have h2 := h.of_perm (List.Perm.cons _ (List.Perm.swap _ _ _))
          have h3 := (h2.bagV.bagSub (jts := its ++ [⟨some ⟨g1, 0, none⟩, 256, 256, (mkL (segR b q i)).map Value.bool⟩]) (fun it hit => by
            rcases List.mem_append.1 hit with hit | hit
            · exact List.mem_cons_of_mem _ hit
            · rw [List.mem_singleton.1 hit]; exact List.mem_cons_self ..)).swap
          dsimp only
          rw [List.map_append, List.append_assoc]
          rw [hXs] at h3
          exact h3
    · repeat first
        | refine XC_region ?_
        | refine X_nil ?_
        | refine XC_condF rfl ?_
        | refine XT_seq ?_
        | refine XT_block_normal ?_
        | refine XT_block_same rfl ?_
        | refine XT_then_exit ?_
        | refine XC_exit ?_
        | refine Y_res (r_move rfl) rfl ?_
        | refine Y_res (r_assign rfl) rfl ?_
        | refine Y_res (r_add64 rfl rfl (by omega)) rfl ?_
        | refine Y_off rfl rfl rfl ?_
        | refine Y_res (r_pickF rfl rfl) rfl ?_
      have hsg := hlast (by omega)
      rw [hsg]
      skip
      subst hE
      refine XT_round (i + 1, its ++ [⟨some ⟨g1, 0, none⟩, 256, 256, (mkL (segR b q i)).map Value.bool⟩]) ⟨by dsimp only; omega, by simp [hil], fun j it hj => ?_⟩ (by dsimp only; omega) ⟨rfl, rfl, rfl, rfl, rfl, rfl, trivial⟩ (fun _ h => ?_)
      · dsimp only at hj
        rcases Nat.lt_or_ge j its.length with hj2 | hj2
        · rw [List.getElem?_append_left hj2] at hj
          exact hiv j it hj
        · rw [List.getElem?_append_right hj2] at hj
          have h0 : j - its.length = 0 := by
            have := (List.getElem?_eq_some_iff.1 hj).1
            simpa using this
          rw [h0] at hj
          have hj := Option.some.inj hj
          rw [← hj]
          obtain rfl : j = i := by omega
          rfl
      · have h2 := h.of_perm (List.Perm.cons _ (List.Perm.swap _ _ _))
        have h3 := (h2.bagV.bagSub (jts := its ++ [⟨some ⟨g1, 0, none⟩, 256, 256, (mkL (segR b q i)).map Value.bool⟩]) (fun it hit => by
          rcases List.mem_append.1 hit with hit | hit
          · exact List.mem_cons_of_mem _ hit
          · rw [List.mem_singleton.1 hit]; exact List.mem_cons_self ..)).swap
        dsimp only
        rw [List.map_append, List.append_assoc]
        rw [hXs] at h3
        exact h3
  · obtain rfl : i = p := by omega
    obtain ⟨L, hL⟩ : ∃ L, L = listsR b i q := ⟨_, rfl⟩
    have hLl : L.length = i := by rw [hL]; simp [listsR]
    refine XC_mem (M' := Hp w (fun _ => False) [Ch.sv (some ⟨g, 0, none⟩) i 46 1 i (its.map It.val), Ch.bag w its]) (fun _ h => by simpa using h) ?_
    have hBL : ∀ w', Hp w (fun _ => False) [Ch.sv (some ⟨g, 0, none⟩) i 46 1 i (its.map It.val), Ch.bag w its] w' → BLs w' (some ⟨g, 0, none⟩) i L := fun w' h => bls_of h hil hLl (fun j it l h1 h2 => by
      have hj : j < i := by rw [← hLl]; exact (List.getElem?_eq_some_iff.1 h2).1
      rw [hL, listsR, List.getElem?_map, List.getElem?_range (by rw [Int.toNat_natCast]; exact hj)] at h2
      rw [hiv j it h1, ← Option.some.inj h2]
      rfl)
    repeat first
      | refine XC_region ?_
      | refine XC_seq ?_
      | refine XT_seq ?_
      | refine XT_block_same rfl ?_
      | refine XT_then_exit ?_
      | refine XC_exit ?_
      | refine Y_res (r_move rfl) rfl ?_
    refine Y_re (e := 78) (v' := .slice (some ⟨g, 0, none⟩) L.length i) rfl (by rw [hLl]) ?_
    refine X_call (g := 30) rfl rfl (fun w1 h1 => (refpack_any L _ _ q w1 (hBL w1 h1) hm).mono ?_)
    rintro e w2 ⟨v, rfl, ⟨A2, c2, rfl, hp2, hf2⟩, hc2⟩
    refine ⟨_, rfl, _, h1.add hc2 hp2 hf2, ?_⟩
    clear h1 hp2 hf2 hc2
    cases hpk : packB L q with
    | none =>
      repeat first
        | refine XC_region ?_
        | refine X_nil ?_
        | refine XC_condT rfl ?_
        | refine XC_seq ?_
        | refine XT_seq ?_
        | refine XT_then_ret ?_
        | refine XC_ret ?_
        | refine Y_res (r_move rfl) rfl ?_
        | refine Y_res (r_assign rfl) rfl ?_
        | refine Y_res (r_notB rfl) rfl ?_
        | refine Y_res (r_extract rfl rfl) rfl ?_
      exact XT_tellsL0 (.inl rfl) Try.results33 rfl rfl (not_unpR fun r => by rw [← hL, hpk] at r; cases r.2)
    | some z =>
      have hzl : z.length = b.length := by
        have h0 : packOk L q := by
          by_cases h0 : packOk L q
          · exact h0
          · rw [not_packB h0] at hpk; cases hpk
        rw [outS_done L q h0] at hpk
        have h1 := h0.2.2.2.2
        rw [← Option.some.inj hpk, outS_len L _ _ _ (Nat.le_refl _) (by omega)]
        omega
      repeat first
        | refine XC_region ?_
        | refine X_nil ?_
        | refine XC_condF rfl ?_
        | refine XC_seq ?_
        | refine XT_seq ?_
        | refine XC_block ?_
        | refine XC_skip ?_
        | refine Y_res (r_move rfl) rfl ?_
        | refine Y_res (r_assign rfl) rfl ?_
        | refine Y_res (r_notB rfl) rfl ?_
        | refine Y_res (r_extract rfl rfl) rfl ?_
      refine XC_loop (ι := Nat) (fun j => j ≤ b.length ∧ b.take j = z.take j) (fun j => [(0, .slice A b.length c), (8, .slice (some ⟨g, 0, none⟩) i i), (13, .slice A2 z.length c2), (15, .int .i64 j)])
        (fun j => Hp w (fun _ => False) [Ch.sl A2 c2 5 .u8 z, Ch.sv (some ⟨g, 0, none⟩) i 46 1 i (its.map It.val), Ch.bag w its]) (fun j => b.length - j) 0 ⟨Nat.zero_le _, by simp⟩ ⟨rfl, rfl, rfl, rfl, trivial⟩ (fun _ h => h) ?_
      rintro j ⟨hj, htk⟩
      repeat first
        | refine XC_region ?_
        | refine X_nil ?_
        | refine XC_seq ?_
        | refine XT_seq ?_
        | refine Y_res (r_move rfl) rfl ?_
        | refine Y_res (r_lss rfl rfl) rfl ?_
        | refine Y_res (r_len rfl) rfl ?_
      refine XC_condP rfl (fun hlt2 => ?_) (fun hge2 => ?_)
      · have hj2 : j < b.length := by omega
        have hj3 : j < z.length := by omega
        repeat first
          | refine XC_quietF rfl (by kernel_rfl) (by kernel_rfl) drw_hp ?_
          | refine XQ_nil ?_
          | refine XC_seq ?_
          | refine XT_seq ?_
          | refine XC_block ?_
          | refine XC_skip ?_
          | refine Y_res (r_move rfl) rfl ?_
          | refine Y_res (r_neq rfl rfl) rfl ?_
          | refine Y_res (r_indexS rfl rfl (by omega) (by first | omega | (simp only [List.length_set, List.length_replicate]; omega))) rfl ?_
          | refine Y_res (r_indexR rfl rfl (by assumption) (by omega) (by omega)) rfl ?_
          | refine Y_res (r_loadI rfl (by first | omega | (simp only [List.length_set, List.length_replicate]; omega))) rfl ?_
          | refine Y_res (r_loadR rfl (by assumption) (by first | exact old_false | assumption) (by omega)) rfl ?_
        refine XC_condP rfl (fun hbad => ?_) (fun hgood => ?_)
        · repeat first
            | refine XC_region ?_
            | refine X_nil ?_
            | refine XC_seq ?_
            | refine XT_seq ?_
            | refine XT_block_ret ?_
            | refine XT_then_ret ?_
            | refine XC_ret ?_
            | refine Y_res (r_assign rfl) rfl ?_
          exact XT_tellsL0 (.inl rfl) Try.results33 rfl rfl (not_unpR fun r => hbad (by
            have h2 := r.2
            rw [← hL, hpk] at h2
            rw [Option.some.inj h2]))
        repeat first
          | refine XC_region ?_
          | refine X_nil ?_
          | refine XT_seq ?_
          | refine XT_block_normal ?_
          | refine XC_skip ?_
          | refine Y_res (r_move rfl) rfl ?_
          | refine Y_res (r_assign rfl) rfl ?_
          | refine Y_res (r_add64 rfl rfl (by omega)) rfl ?_
        exact XT_round (j + 1) ⟨by omega, by
          have hg := Classical.not_not.1 hgood
          have e1 : b[j]? = some (b.getD j 0) := by rw [List.getD_eq_getElem?_getD, List.getElem?_eq_getElem hj2]; rfl
          have e2 : z[j]? = some (b.getD j 0) := by rw [hg, List.getD_eq_getElem?_getD, List.getElem?_eq_getElem hj3]; rfl
          exact take_next htk e1 e2⟩ (by omega) ⟨rfl, rfl, rfl, rfl, trivial⟩ (fun _ h => h)
      · obtain rfl : j = b.length := by omega
        have hbz : b = z := by rw [List.take_length, ← hzl, List.take_length] at htk; exact htk
        subst hbz
        have hu : unpR b i q = some L := by unfold unpR; rw [if_pos ⟨hC, by rw [← hL]; exact hpk⟩, hL]
        rw [hu]
        repeat first
          | refine XC_region ?_
          | refine X_nil ?_
          | refine XC_seq ?_
          | refine XT_seq ?_
          | refine XT_block_same rfl ?_
          | refine XT_then_exit ?_
          | refine XC_exit ?_
          | refine XC_ret ?_
          | refine Y_res (r_move rfl) rfl ?_
          | refine Y_res (r_assign rfl) rfl ?_
        refine XT_ret2 (.inl rfl) Try.results33 rfl rfl (fun w' h => ⟨some ⟨g, 0, none⟩, i, ?_, hBL w' h.tail, h.chg⟩)
        show Ending.returned (.tuple #[.slice (some ⟨g, 0, none⟩) i i, .bool true]) = .returned (.tuple #[.slice (some ⟨g, 0, none⟩) L.length i, .bool true])
        rw [hLl]
end Go.Proofs.Ytbkbdnlolfaneaa.NRound
