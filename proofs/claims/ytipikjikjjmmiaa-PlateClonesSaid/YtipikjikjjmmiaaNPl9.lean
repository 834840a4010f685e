/- The document's disk revived: walked. -/
import Derived.Test.YtipikjikjjmmiaaNPl8
namespace Go.Proofs.Ytipikjikjjmmiaa.NPl
open Go Go.RowKit Go.Proofs.Ytipikjikjjmmiaa.MX
set_option linter.unusedVariables false
set_option linter.unusedSimpArgs false
set_option linter.unusedVariables false
theorem revS_stop {k : Nat → Bool} {L : List (Nat × List Int)} {s : List (List Int)} {j : Nat} (h : ∀ i, j ≤ i → k i = false) : ∀ d, revS k L s (j + d) = revS k L s j
  | 0 => rfl
  | d + 1 => by rw [← Nat.add_assoc, revS_not (h _ (by omega)), revS_stop h d]
section
variable {g : Nat} {a : Rd} {p : Pl} {w w0 : World} {TS : Nat → Prop} {es : List Ch} {si : List It} {li : List (Nat × It)}
set_option maxRecDepth 100000 in
set_option maxHeartbeats 4000000 in
theorem rrevive_any (ks : List Bool) (K : Option Addr) (kc : Nat) (hT : Hp w0 TS (RfC g a p si li es) w) (hp : PlOk p) (hf : RfOk p si li) (hk : ∀ (cs : List Ch) w1, Hp w0 TS (cs ++ es) w1 → RdV w1 K kc 1 ks.length (ks.map Value.bool)) :
    Calls Try.prog 24 #[.pointer (some ⟨g, 0, none⟩), .slice K ks.length kc] w fun e w' => ∃ a' si' li', e = .returned (.tuple #[]) ∧ Hp w0 TS (RfC g a' (revP p ks) si' li' es) w' ∧ RfOk (revP p ks) si' li' := by
  refine calls_of_X (vs := [_, _]) (M := Hp w0 TS (RfC g a p si li es)) Try.func24 rfl Try.ntmps24 rfl hT ?_
  have hk0 := hk [_, _, _, _] _ hT
  have hkc := hk0.le
  have hkm := hk0.cap
  have hls := hp.ls
  have hll := hp.ll
  obtain ⟨kf, hkf⟩ : ∃ kf, kf = fun j => ks.getD j false := ⟨_, rfl⟩
  have fin : ∀ j, j ≤ p.loose.length → (¬ (j < p.loose.length ∧ j < ks.length)) → RfOk (revP p ks) (revI kf li si j) [] := fun j hj h1 => by
    have hfj := rfok_rev kf hf j hj
    have e1 : revS kf p.loose p.safe p.loose.length = revS kf p.loose p.safe j := by
      by_cases h2 : j < p.loose.length
      · have := revS_stop (k := kf) (L := p.loose) (s := p.safe) (j := j) (fun i hi => by rw [hkf]; simp [List.getD, List.getElem?_eq_none (show ks.length ≤ i by omega)]) (p.loose.length - j)
        rwa [show j + (p.loose.length - j) = p.loose.length by omega] at this
      · rw [show p.loose.length = j by omega]
    refine ⟨hfj.sl, rfl, fun i it s h2 h3 => hfj.sa i it s h2 ?_, fun i y x h1 => by simp at h1⟩
    show (revS kf p.loose p.safe j)[i]? = some s
    rw [← e1, hkf]
    exact h3
  unfold RfC
  repeat first
    | refine XC_region ?_
    | refine X_nil ?_
    | refine XC_seq ?_
    | refine XT_seq ?_
    | refine XC_block ?_
    | refine Y_res (r_assign rfl) rfl ?_
  refine XC_loop (ι := Nat) (fun j => j ≤ p.loose.length) (fun j => [(0, .pointer (some ⟨g, 0, none⟩)), (1, .slice K ks.length kc), (4, .int .i64 j)]) (fun j => Hp w0 TS (RfC g a { p with safe := revS kf p.loose p.safe j } (revI kf li si j) li es)) (fun j => p.loose.length - j) 0 (Nat.zero_le _) ⟨rfl, rfl, rfl, trivial⟩ (fun _ h => h) ?_
  intro j hj
  have hfj := rfok_rev kf hf j hj
  unfold RfC
  dsimp only
  repeat first
    | refine XC_region ?_
    | refine XC_seq ?_
    | refine Y_res (r_move rfl) rfl ?_
    | refine Y_res (r_lss rfl rfl) rfl ?_
    | refine Y_res (r_len rfl) rfl ?_
    | refine Y_res (r_field' rfl) rfl ?_
    | refine Y_res (r_nilCheck rfl) rfl ?_
    | refine Y_res (r_loadB rfl rfl) rfl ?_
  refine Y_split rfl rfl (fun h1 => ?_) (fun h1 => ?_)
  · repeat first
      | refine X_nil ?_
      | refine XT_seq ?_
      | refine Y_res (r_move rfl) rfl ?_
      | refine Y_res (r_lss rfl rfl) rfl ?_
      | refine Y_on rfl rfl ?_
      | refine Y_res (r_len rfl) rfl ?_
      | refine Y_res (r_pickT rfl rfl) rfl ?_
    refine XC_condP rfl (fun h2 => ?_) (fun h2 => ?_)
    · have hj2 : j < p.loose.length := by omega
      have h4 : j < ks.length := by omega
      obtain ⟨kb, hkb⟩ : ∃ kb, ks[j]? = some kb := ⟨ks[j]'h4, List.getElem?_eq_getElem h4⟩
      have hkv : kf j = kb := by rw [hkf]; simp [List.getD, hkb]
      obtain ⟨x, hx⟩ : ∃ x, p.loose[j]? = some x := ⟨p.loose[j]'hj2, List.getElem?_eq_getElem hj2⟩
      obtain ⟨y, hy⟩ : ∃ y, li[j]? = some y := ⟨li[j]'(by rw [hf.ll]; exact hj2), List.getElem?_eq_getElem _⟩
      obtain ⟨hq, hb⟩ := hls _ (List.mem_of_getElem? hx)
      have hyx := (hf.la j y x hy hx).1
      obtain ⟨r1, r2⟩ := rw_at hy
      have hq2 : y.1 < p.n := by rw [hyx]; exact hq
      have hsl : (revI kf li si j).length = p.n := hfj.sl
      repeat first
        | refine XC_region ?_
        | refine X_nil ?_
        | refine XC_seq ?_
        | refine XT_seq ?_
        | refine XC_block ?_
        | refine XC_skip ?_
        | refine Y_res (r_move rfl) rfl ?_
        | refine Y_res (r_indexRv rfl rfl hk0 h4 (by omega)) rfl ?_
        | refine Y_res (r_load (v := .bool kb) rfl (fun w1 h1 => (hk [_, _, _, _] w1 h1).at_ j _ (by rw [List.getElem?_map, hkb]; rfl))) rfl ?_
      refine XC_cond rfl (fun h5 => ?_) (fun h5 => ?_)
      · have hset := revI_some (k := kf) (s := si) hy (hkv.trans h5)
        have hmv : ((revI kf li si j).map It.val).set y.1 y.2.val = (revI kf li si (j + 1)).map It.val := by rw [hset, List.map_set]
        skip
        refine XC_tailF (by kernel_rfl) (by kernel_rfl) drw_hp ?_
        repeat first
          | refine XC_region ?_
          | refine X_nil ?_
          | refine XQ_nilX ?_
          | refine XT_seq ?_
          | refine XT_block_normal ?_
          | refine Y_res (r_move rfl) rfl ?_
          | refine Y_res (r_assign rfl) rfl ?_
          | refine Y_res (r_add64 rfl rfl (by omega)) rfl ?_
          | refine Y_res (r_field' rfl) rfl ?_
          | refine Y_res (r_nilCheck rfl) rfl ?_
          | refine Y_res (r_loadB rfl rfl) rfl ?_
          | refine Y_res (r_indexV1 (s := 2) rfl rfl hj2 (Nat.le_refl _)) rfl ?_
          | refine Y_res (r_loadV rfl r1) rfl ?_
          | refine Y_res (r_loadV rfl r2) rfl ?_
          | refine Y_res (r_indexV0 rfl rfl hq2 (Nat.le_refl _)) rfl ?_
          | refine X_storeV rfl rfl rfl (by rw [List.length_map, hsl]; exact hq2) ?_
        rw [hmv]
        exact XT_round (j + 1) hj2 (by omega) ⟨rfl, rfl, rfl, trivial⟩ (fun _ h => Hp_si h hset (List.mem_map.2 ⟨y, List.mem_of_getElem? hy, rfl⟩))
      · have hset : revI kf li si j = revI kf li si (j + 1) := (revI_not (hkv.trans (by simpa using h5))).symm
        repeat first
          | refine XC_region ?_
          | refine X_nil ?_
          | refine XT_seq ?_
          | refine XT_block_normal ?_
          | refine XC_skip ?_
          | refine Y_res (r_move rfl) rfl ?_
          | refine Y_res (r_assign rfl) rfl ?_
          | refine Y_res (r_add64 rfl rfl (by omega)) rfl ?_
        rw [hset]
        exact XT_round (j + 1) hj2 (by omega) ⟨rfl, rfl, rfl, trivial⟩ (fun _ h => h)
    · repeat first
        | refine XC_region ?_
        | refine X_nil ?_
        | refine XC_seq ?_
        | refine XT_seq ?_
        | refine XT_block_same rfl ?_
        | refine XT_then_exit ?_
        | refine XC_exit ?_
        | refine Y_res (r_move rfl) rfl ?_
        | refine Y_res (r_field' rfl) rfl ?_
        | refine Y_res (r_nilCheck rfl) rfl ?_
        | refine X_storeB rfl rfl rfl (by simp) ?_
      exact XT_ret0 (.inr rfl) Try.results24 (fun w' h => ⟨{ a with Lo := none, lc := 0 }, _, [], rfl, noLooseR 69 h, fin j hj (by omega)⟩)
  · repeat first
      | refine XC_region ?_
      | refine X_nil ?_
      | refine XC_condF rfl ?_
      | refine XC_seq ?_
      | refine XT_seq ?_
      | refine XT_block_same rfl ?_
      | refine XT_then_exit ?_
      | refine XC_exit ?_
      | refine Y_res (r_move rfl) rfl ?_
      | refine Y_off rfl rfl rfl ?_
      | refine Y_res (r_field' rfl) rfl ?_
      | refine Y_res (r_nilCheck rfl) rfl ?_
      | refine Y_res (r_pickF rfl rfl) rfl ?_
      | refine X_storeB rfl rfl rfl (by simp) ?_
    exact XT_ret0 (.inr rfl) Try.results24 (fun w' h => ⟨{ a with Lo := none, lc := 0 }, _, [], rfl, noLooseR 69 h, fin j hj (by omega)⟩)
end
end Go.Proofs.Ytipikjikjjmmiaa.NPl
