/- The document's disk read, where there is something: walked. -/
import Derived.Test.YtipikjikjjmmiaaNPlA
namespace Go.Proofs.Ytipikjikjjmmiaa.NPl
open Go Go.RowKit Go.Proofs.Ytipikjikjjmmiaa.MX
set_option linter.unusedVariables false
set_option linter.unusedSimpArgs false
set_option linter.unusedVariables false
section
variable {g : Nat} {a : Rd} {p : Pl} {w w0 : World} {TS : Nat → Prop} {es : List Ch} {si : List It} {li : List (Nat × It)}
set_option maxRecDepth 100000 in
set_option maxHeartbeats 4000000 in
theorem rread_ok (i : Int) (hT : Hp w0 TS (RfC g a p si li es) w) (hp : PlOk p) (hf : RfOk p si li) (hnow : PNow p) (hn : thereP p i = 0) :
    Calls Try.prog 25 #[.pointer (some ⟨g, 0, none⟩), .int .i64 i] w fun e w' => ∃ b s, p.now[i.toNat]? = some s ∧ e = .returned (.tuple #[.slice (some ⟨b, 0, none⟩) 64 64, .int .i64 0]) ∧ Hp w0 TS (Ch.sv (some ⟨b, 0, none⟩) 64 5 1 64 (secC s) :: RfC g a p si li es) w' := by
  refine calls_of_X (vs := [_, _]) (M := Hp w0 TS (RfC g a p si li es)) Try.func25 rfl Try.ntmps25 rfl hT ?_
  obtain ⟨hd, hi0, hi1⟩ := there0 (p := p) (i := i) (by simp [hn])
  obtain ⟨q, rfl⟩ : ∃ q : Nat, i = q := ⟨i.toNat, by omega⟩
  have hq : q < p.n := by omega
  have hls := hp.ls
  have hll := hp.ll
  obtain ⟨it, hit⟩ : ∃ it, si[q]? = some it := ⟨si[q]'(by rw [hf.sl]; exact hq), List.getElem?_eq_getElem _⟩
  obtain ⟨s0, hs0⟩ : ∃ s0, p.safe[q]? = some s0 := ⟨p.safe[q]'(by rw [hp.sl]; exact hq), List.getElem?_eq_getElem _⟩
  have hs64 := hp.ss _ (List.mem_of_getElem? hs0)
  have hsi : (si.map It.val)[q]? = some it.val := by rw [List.getElem?_map, hit]; rfl
  have hcase := hf.sa q it s0 hit hs0
  obtain ⟨G, hG⟩ : ∃ G : Nat → List Int, G = fun j => (revS (fun _ => true) p.loose p.safe j).getD q [] := ⟨_, rfl⟩
  have hG0 : G 0 = s0 := by rw [hG]; show p.safe.getD q [] = s0; simp [List.getD, hs0]
  unfold RfC
  repeat first
    | refine XC_region ?_
    | refine X_nil ?_
    | refine XC_seq ?_
    | refine XT_seq ?_
    | refine Y_res (r_move rfl) rfl ?_
    | refine Y_res (r_assign rfl) rfl ?_
    | refine Y_res (r_field' rfl) rfl ?_
    | refine Y_res (r_nilCheck rfl) rfl ?_
    | refine Y_res (r_loadB rfl rfl) rfl ?_
  refine XC_cond rfl (fun h1 => absurd h1 (by simp [hd])) (fun h1 => ?_)
  repeat first
    | refine XC_region ?_
    | refine X_nil ?_
    | refine XC_seq ?_
    | refine XT_seq ?_
    | refine XC_skip ?_
    | refine Y_res (r_move rfl) rfl ?_
    | refine Y_res (r_lss rfl rfl) rfl ?_
    | refine Y_res (r_geq rfl rfl) rfl ?_
    | refine Y_on rfl rfl ?_
    | refine Y_res (r_field' rfl) rfl ?_
    | refine Y_res (r_nilCheck rfl) rfl ?_
    | refine Y_res (r_loadB rfl rfl) rfl ?_
    | refine Y_res (r_pickF rfl rfl) rfl ?_
  refine XC_condP rfl (fun h3 => ?_) (fun h3 => ?_)
  · exact absurd h3 (by omega)
  repeat first
    | refine XC_region ?_
    | refine X_nil ?_
    | refine XC_seq ?_
    | refine XT_seq ?_
    | refine XC_block ?_
    | refine XC_skip ?_
    | refine Y_res (r_move rfl) rfl ?_
    | refine Y_res (r_assign rfl) rfl ?_
    | refine Y_res (r_field' rfl) rfl ?_
    | refine Y_res (r_nilCheck rfl) rfl ?_
    | refine Y_res (r_loadB rfl rfl) rfl ?_
    | (refine X_makeF (u := .int .u8 0) rfl rfl rfl (by decide) (by omega) (by omega) rfl ?_; intro g1 hg1; rw [show (List.replicate 64 (List.replicate 1 (Value.int .u8 0))).flatten = secC (List.replicate 64 0) from rfl])
    | refine Y_res (r_indexV0 rfl rfl hq (Nat.le_refl _)) rfl ?_
    | refine Y_res (r_loadV rfl hsi) rfl ?_
    | (refine X_copyIt (s := s0) rfl rfl (hcase.imp (fun h => ⟨h.1, by rw [h.2]⟩) id) hs64 (fun w1 h1 => bagN_rd (h1.sat _ (List.mem_cons_of_mem _ (List.mem_cons_of_mem _ (List.mem_cons_of_mem _ (List.mem_cons_of_mem _ (List.mem_cons_self ..)))))) (List.mem_append_left _ (List.mem_of_getElem? hit))) rfl ?_; intro m)
  refine XC_loop (ι := Nat) (fun j => j ≤ p.loose.length) (fun j => [(0, .pointer (some ⟨g, 0, none⟩)), (1, .int .i64 q), (6, .slice (some ⟨g1, 0, none⟩) 64 64), (7, .int .i64 j)]) (fun j => Hp w0 TS (Ch.sv (some ⟨g1, 0, none⟩) 64 5 1 64 (secC (G j)) :: RfC g a p si li es)) (fun j => p.loose.length - j) 0 (Nat.zero_le _) ⟨rfl, rfl, rfl, rfl, trivial⟩ (fun _ h => by rw [hG0]; exact h) ?_
  intro j hj
  unfold RfC
  repeat first
    | refine XC_region ?_
    | refine X_nil ?_
    | refine XC_seq ?_
    | refine XT_seq ?_
    | refine Y_res (r_move rfl) rfl ?_
    | refine Y_res (r_lss rfl rfl) rfl ?_
    | refine Y_res (r_len rfl) rfl ?_
    | refine Y_res (r_field' rfl) rfl ?_
    | refine Y_res (r_nilCheck rfl) rfl ?_
    | refine Y_res (r_loadB rfl rfl) rfl ?_
  refine XC_condP rfl (fun hlt => ?_) (fun hge => ?_)
  · have hj2 : j < p.loose.length := by omega
    obtain ⟨x, hx⟩ : ∃ x, p.loose[j]? = some x := ⟨p.loose[j]'hj2, List.getElem?_eq_getElem hj2⟩
    obtain ⟨y, hy⟩ : ∃ y, li[j]? = some y := ⟨li[j]'(by rw [hf.ll]; exact hj2), List.getElem?_eq_getElem _⟩
    obtain ⟨hq2, hb⟩ := hls _ (List.mem_of_getElem? hx)
    obtain ⟨hyx, B, d, hyi⟩ := hf.la j y x hy hx
    obtain ⟨r1, r2⟩ := rw_at hy
    repeat first
      | refine XC_region ?_
      | refine X_nil ?_
      | refine XC_seq ?_
      | refine XT_seq ?_
      | refine XC_block ?_
      | refine XC_skip ?_
      | refine Y_res (r_move rfl) rfl ?_
      | refine Y_res (r_eql rfl rfl) rfl ?_
      | refine Y_res (r_field' rfl) rfl ?_
      | refine Y_res (r_nilCheck rfl) rfl ?_
      | refine Y_res (r_loadB rfl rfl) rfl ?_
      | refine Y_res (r_indexV1 (s := 2) rfl rfl hj2 (Nat.le_refl _)) rfl ?_
      | refine Y_res (r_loadV rfl r1) rfl ?_
    refine XC_condP rfl (fun h5 => ?_) (fun h5 => ?_)
    · have hxq : x.1 = q := by omega
      have hG1 : G (j + 1) = x.2 := by
        rw [hG]
        show (revS (fun _ => true) p.loose p.safe (j + 1)).getD q [] = x.2
        rw [revS_some hx rfl, hxq, List.getD_eq_getElem?_getD, List.getElem?_set, if_pos rfl, if_pos (by rw [revS_len, hp.sl]; exact hq)]
        rfl
      repeat first
        | refine XC_region ?_
        | refine X_nil ?_
        | refine XT_seq ?_
        | refine XT_block_normal ?_
        | refine Y_res (r_move rfl) rfl ?_
        | refine Y_res (r_assign rfl) rfl ?_
        | refine Y_res (r_add64 rfl rfl (by omega)) rfl ?_
        | refine Y_res (r_field' rfl) rfl ?_
        | refine Y_res (r_nilCheck rfl) rfl ?_
        | refine Y_res (r_loadB rfl rfl) rfl ?_
        | refine Y_res (r_indexV1 (s := 2) rfl rfl hj2 (Nat.le_refl _)) rfl ?_
        | refine Y_res (r_loadV rfl r2) rfl ?_
        | (refine X_copyIt (s := x.2) rfl rfl (.inr ⟨B, d, hyi⟩) hb (fun w1 h1 => bagN_rd (h1.sat _ (List.mem_cons_of_mem _ (List.mem_cons_of_mem _ (List.mem_cons_of_mem _ (List.mem_cons_of_mem _ (List.mem_cons_self ..)))))) (List.mem_append_right _ (List.mem_map.2 ⟨y, List.mem_of_getElem? hy, rfl⟩))) rfl ?_; intro m2)
      rw [← hG1]
      exact XT_round (j + 1) hj2 (by omega) ⟨rfl, rfl, rfl, rfl, trivial⟩ (fun _ h => h)
    · have hG2 : G j = G (j + 1) := by
        have hxq : x.1 ≠ q := by omega
        rw [hG]
        show (revS (fun _ => true) p.loose p.safe j).getD q [] = (revS (fun _ => true) p.loose p.safe (j + 1)).getD q []
        rw [revS_some hx rfl, List.getD_eq_getElem?_getD, List.getD_eq_getElem?_getD, List.getElem?_set, if_neg hxq]
      repeat first
        | refine XC_region ?_
        | refine X_nil ?_
        | refine XT_seq ?_
        | refine XT_block_normal ?_
        | refine XC_skip ?_
        | refine Y_res (r_move rfl) rfl ?_
        | refine Y_res (r_assign rfl) rfl ?_
        | refine Y_res (r_add64 rfl rfl (by omega)) rfl ?_
      rw [hG2]
      exact XT_round (j + 1) hj2 (by omega) ⟨rfl, rfl, rfl, rfl, trivial⟩ (fun _ h => h)
  · obtain rfl : j = p.loose.length := by omega
    have hG3 : p.now[q]? = some (G p.loose.length) := by
      rw [hG, hnow]
      show _ = some ((revS (fun _ => true) p.loose p.safe p.loose.length).getD q [])
      rw [List.getD_eq_getElem?_getD, List.getElem?_eq_getElem (by rw [revS_len, hp.sl]; exact hq)]
      rfl
    repeat first
      | refine XC_region ?_
      | refine X_nil ?_
      | refine XC_seq ?_
      | refine XT_seq ?_
      | refine XT_block_same rfl ?_
      | refine XT_then_exit ?_
      | refine XC_exit ?_
      | refine XC_ret ?_
      | refine Y_res (r_move rfl) rfl ?_
      | refine Y_res (r_assign rfl) rfl ?_
    exact XT_ret2 (.inl rfl) Try.results25 rfl rfl (fun w' h => ⟨g1, _, hG3, rfl, h⟩)
end
end Go.Proofs.Ytipikjikjjmmiaa.NPl
