/- PlateLast, walked: true at every input. -/
import Derived.Test.YtipikjikjjmmiaaNPl6
namespace Go.Proofs.Ytipikjikjjmmiaa.NPl
open Go Go.RowKit Go.Proofs.Ytipikjikjjmmiaa.MX
set_option linter.unusedVariables false
set_option linter.unusedSimpArgs false
set_option linter.unusedVariables false
def lastN (l : List Int) : Nat → List (List Int)
  | 0 => List.replicate 8 (rep 0)
  | j + 1 => (lastN l j).set 5 (rep (l.getD j 0))
def lastP (l : List Int) (j : Nat) : Pl := ⟨8, List.replicate 8 (rep 0), lastN l j, (l.take j).map (fun c => (5, rep c)), -1, false⟩
def lastW (l : List Int) (ks : List Bool) : Nat → Int
  | 0 => 0
  | j + 1 => if ks.getD j false then l.getD j 0 else lastW l ks j
theorem last_len (l : List Int) : ∀ j, (lastN l j).length = 8
  | 0 => rfl
  | j + 1 => by rw [lastN, List.length_set, last_len]
theorem last_64 (l : List Int) : ∀ j, ∀ s ∈ lastN l j, s.length = 64
  | 0 => fun s hs => by rw [List.eq_of_mem_replicate hs]; rfl
  | j + 1 => fun s hs => by
    rcases List.mem_or_eq_of_mem_set hs with hs | hs
    · exact last_64 l j s hs
    · rw [hs]; rfl
theorem last_ok {l : List Int} (hl : l.length ≤ 50) (j : Nat) : PlOk (lastP l j) :=
  ⟨by show 8 ≤ 8; omega, by show 8 ≤ 16384; omega, rfl, last_len l j, fun s hs => by rw [List.eq_of_mem_replicate hs]; rfl, last_64 l j, fun x hx => by
    obtain ⟨c, _, rfl⟩ := List.mem_map.1 hx
    exact ⟨by show 5 < 8; omega, rfl⟩, by show ((l.take j).map _).length ≤ _; rw [List.length_map, List.length_take]; omega, by show (-1 : Int) ≤ -1 ∧ (-1 : Int) ≤ _; omega⟩
theorem last_write {l : List Int} {j : Nat} (hj : j < l.length) : writeP (lastP l j) (5 : Nat) (rep (l.getD j 0)) = (lastP l (j + 1), 0) := by
  rw [writeP_done rfl (by show (-1 : Int) < 0; omega) (by show 5 < 8; omega) rfl]
  have e : l.take (j + 1) = l.take j ++ [l.getD j 0] := by
    rw [List.take_succ_eq_append_getElem hj, List.getD_eq_getElem?_getD, List.getElem?_eq_getElem hj]
    rfl
  show (Pl.mk _ _ _ _ _ _, _) = (Pl.mk _ _ _ _ _ _, _)
  rw [e, List.map_append]
  rfl
theorem last_rev {l : List Int} {ks : List Bool} : ∀ j, j ≤ l.length → (revS (fun j => ks.getD j false) (l.map (fun c => (5, rep c))) (List.replicate 8 (rep 0)) j)[5]? = some (rep (lastW l ks j))
  | 0, _ => rfl
  | j + 1, h => by
    have hx : (l.map (fun c => ((5 : Nat), rep c)))[j]? = some (5, rep (l.getD j 0)) := by
      rw [List.getElem?_map, List.getElem?_eq_getElem (show j < l.length by omega), List.getD_eq_getElem?_getD, List.getElem?_eq_getElem (show j < l.length by omega)]
      rfl
    cases hk : ks.getD j false with
    | true =>
      rw [revS_some hx hk, lastW, if_pos hk, List.getElem?_set, if_pos rfl, if_pos (by rw [revS_len]; show 5 < 8; omega)]
    | false =>
      rw [revS_not hk, lastW, if_neg (by rw [hk]; decide)]
      exact last_rev j (by omega)
theorem lastW_bd {l : List Int} {ks : List Bool} (hl : ∀ n ∈ l, 0 ≤ n ∧ n < 256) : ∀ j, j ≤ l.length → 0 ≤ lastW l ks j ∧ lastW l ks j < 256
  | 0, _ => by show (0 : Int) ≤ 0 ∧ (0 : Int) < 256; decide
  | j + 1, h => by
    rw [lastW]
    split
    · rw [List.getD_eq_getElem?_getD, List.getElem?_eq_getElem (show j < l.length by omega)]
      exact hl _ (List.getElem_mem _)
    · exact lastW_bd hl j (by omega)
set_option maxRecDepth 100000 in
set_option maxHeartbeats 4000000 in
theorem last_any (l : List Int) (A : Option Addr) (c : Nat) (ks : List Bool) (K : Option Addr) (kc : Nat) (w : World) (hr : Rds w A c .u8 l) (hwf : ∀ n ∈ l, (Lit.int .u8 n).wf = true) (hks : shBs.has w [.slice K ks.length kc] (K, kc, ks)) :
    Calls Try.prog 3 #[.slice A l.length c, .slice K ks.length kc] w fun e w' => e = .returned (.bool true) ∧ Chg (fun _ => False) w w' := by
  have hk := bs_rdv hks
  clear hks
  have hle := hr.le
  have hkl := hk.le
  have hkc := hk.cap
  refine calls_of_X (Rr := Says w (.bool true)) (vs := [_, _]) (M := Hp w (fun _ => False) []) Try.func3 rfl Try.ntmps3 rfl (Hp.nil _ _) ?_
  repeat first
    | refine XC_region ?_
    | refine X_nil ?_
    | refine XC_condF rfl ?_
    | refine XC_seq ?_
    | refine XT_seq ?_
    | refine XC_skip ?_
    | refine Y_res (r_move rfl) rfl ?_
    | refine Y_res (r_assign rfl) rfl ?_
    | refine Y_res (r_gtr rfl rfl) rfl ?_
    | refine Y_res (r_notB rfl) rfl ?_
    | refine Y_res (r_len rfl) rfl ?_
    | refine Y_says (g := 8) rfl rfl (fun w1 hM => anchor_any w1) ?_
  refine Y_split rfl rfl (fun h1 => ?_) (fun h1 => ?_)
  · repeat first
      | refine XC_region ?_
      | refine X_nil ?_
      | refine XC_condT rfl ?_
      | refine XC_seq ?_
      | refine XT_seq ?_
      | refine XT_then_ret ?_
      | refine XC_ret ?_
      | refine Y_res (r_assign rfl) rfl ?_
      | refine Y_off rfl rfl rfl ?_
      | refine Y_res (r_pickT rfl rfl) rfl ?_
    exact XT_says (.inl rfl) Try.results3 rfl rfl
  repeat first
    | refine X_nil ?_
    | refine XT_seq ?_
    | refine Y_res (r_move rfl) rfl ?_
    | refine Y_res (r_gtr rfl rfl) rfl ?_
    | refine Y_on rfl rfl ?_
    | refine Y_res (r_len rfl) rfl ?_
    | refine Y_res (r_pickF rfl rfl) rfl ?_
  refine XC_condP rfl (fun h2 => ?_) (fun h2 => ?_)
  · repeat first
      | refine XC_region ?_
      | refine X_nil ?_
      | refine XC_seq ?_
      | refine XT_seq ?_
      | refine XT_then_ret ?_
      | refine XC_ret ?_
      | refine Y_res (r_assign rfl) rfl ?_
    exact XT_says (.inl rfl) Try.results3 rfl rfl
  have hl50 : l.length ≤ 50 := by omega
  repeat first
    | refine XC_region ?_
    | refine XC_seq ?_
    | refine XT_seq ?_
    | refine XC_skip ?_
  refine X_call (g := 9) rfl rfl (fun w1 q1 => (new_es 8 q1 (by decide) (by decide)).mono ?_)
  rintro e w2 ⟨g, a, rfl, q2⟩
  refine ⟨_, rfl, Hp w (fun _ => False) (PlC g a (lastP l 0) []), q2, ?_⟩
  clear q1 q2
  repeat first
    | refine XC_region ?_
    | refine X_nil ?_
    | refine XC_condF rfl ?_
    | refine XC_seq ?_
    | refine XT_seq ?_
    | refine XC_block ?_
    | refine XC_skip ?_
    | refine Y_res (r_move rfl) rfl ?_
    | refine Y_res (r_assign rfl) rfl ?_
    | refine Y_res (r_eqlNil rfl rfl) rfl ?_
    | refine Y_res (r_len rfl) rfl ?_
  refine XC_loop (ι := Nat × Ad) (fun j => j.1 ≤ l.length) (fun j => [(0, .slice A l.length c), (1, .slice K ks.length kc), (5, .pointer (some ⟨g, 0, none⟩)), (6, .int .u8 (lastW l ks j.1)), (26, .slice A l.length c), (27, .int .i64 l.length), (28, .int .i64 j.1)]) (fun j => Hp w (fun _ => False) (PlC g j.2 (lastP l j.1) [])) (fun j => l.length - j.1) (0, a) (Nat.zero_le _) ⟨rfl, rfl, rfl, rfl, rfl, rfl, rfl, trivial⟩ (fun _ h => h) ?_
  rintro ⟨j, a⟩ hj
  dsimp only at hj ⊢
  repeat first
    | refine XC_region ?_
    | refine X_nil ?_
    | refine XC_seq ?_
    | refine XT_seq ?_
    | refine Y_res (r_lss rfl rfl) rfl ?_
  refine XC_condP rfl (fun hlt => ?_) (fun hge => ?_)
  · have hj2 : j < l.length := by omega
    have hc8 : 0 ≤ l.getD j 0 ∧ l.getD j 0 < 256 := by
      rw [List.getD_eq_getElem?_getD, List.getElem?_eq_getElem hj2]
      exact wf8 (hwf _ (List.getElem_mem _))
    have kj := last_ok hl50 j
    have kj1 := last_ok hl50 (j + 1)
    have hlj : (lastP l j).loose.length ≤ 10000 := by show ((l.take j).map _).length ≤ _; rw [List.length_map, List.length_take]; omega
    have hwr := last_write hj2
    have hnow : (lastP l (j + 1)).now[5]? = some (rep (l.getD j 0)) := by show ((lastN l j).set 5 (rep (l.getD j 0)))[5]? = _; rw [List.getElem?_set, if_pos rfl, if_pos (by rw [last_len]; decide)]
    repeat first
      | refine XC_region ?_
      | refine X_nil ?_
      | refine XC_seq ?_
      | refine XT_seq ?_
      | refine XC_block ?_
      | refine XC_skip ?_
      | refine Y_res (r_move rfl) rfl ?_
      | refine Y_res (r_assign rfl) rfl ?_
      | refine Y_res (r_indexR rfl rfl (by assumption) (by omega) (by omega)) rfl ?_
      | refine Y_res (r_loadR rfl (by assumption) (by first | exact old_false | assumption) (by omega)) rfl ?_
    generalize hx : l.getD j 0 = x at *
    refine X_call (g := 11) rfl rfl (fun w1 q1 => (fill_es x 64 (by decide) hc8 q1).mono ?_)
    rintro e w2 ⟨B, cap, rfl, q2⟩
    refine ⟨_, rfl, _, q2, ?_⟩
    clear q1 q2
    skip
    refine X_call (g := 10) rfl rfl (fun w1 q1 => (write_rep (5 : Nat) x 64 _ _ kj hlj q1).mono ?_)
    rintro e w2 ⟨ab, rfl, q2⟩
    rw [show List.replicate 64 x = rep x from rfl, hwr] at q2 ⊢
    refine ⟨_, rfl, _, q2, ?_⟩
    clear q1 q2
    repeat first
      | refine XC_region ?_
      | refine X_nil ?_
      | refine XC_condF rfl ?_
      | refine XC_seq ?_
      | refine XT_seq ?_
      | refine XC_skip ?_
      | refine Y_res (r_move rfl) rfl ?_
      | refine Y_res (r_neq rfl rfl) rfl ?_
    refine X_call (g := 12) rfl rfl (fun w1 q1 => (read_es 5 _ kj1 rfl hnow q1).mono ?_)
    rintro e w2 ⟨b, rfl, q2⟩
    refine ⟨_, rfl, _, q2, ?_⟩
    clear q1 q2
    have hrl : (rep x).length = 64 := rfl
    repeat first
      | refine XC_region ?_
      | refine X_nil ?_
      | refine XC_seq ?_
      | refine XT_seq ?_
      | refine Y_res (r_move rfl) rfl ?_
      | refine Y_res (r_assign rfl) rfl ?_
      | refine Y_res (r_neq rfl rfl) rfl ?_
      | refine Y_on rfl rfl ?_
      | refine Y_res (r_loadI rfl (by first | omega | (simp only [List.length_set, List.length_replicate]; omega))) rfl ?_
      | refine Y_res (r_extract rfl rfl) rfl ?_
      | refine Y_res (r_pickF rfl rfl) rfl ?_
      | refine Y_res (r_indexB rfl rfl (by omega)) rfl ?_
    rw [rep0]
    refine XC_condP rfl (fun h3 => absurd rfl h3) (fun h3 => ?_)
    repeat first
      | refine XC_region ?_
      | refine XC_seq ?_
      | refine XT_seq ?_
      | refine XC_skip ?_
      | refine Y_res (r_move rfl) rfl ?_
      | refine Y_res (r_lss rfl rfl) rfl ?_
      | refine Y_res (r_len rfl) rfl ?_
    refine Y_split rfl rfl (fun h4 => ?_) (fun h4 => ?_)
    · have h5 : j < ks.length := by omega
      obtain ⟨kb, hkb⟩ : ∃ kb, ks[j]? = some kb := ⟨ks[j]'h5, List.getElem?_eq_getElem h5⟩
      have hkv : ks.getD j false = kb := by simp [List.getD, hkb]
      repeat first
        | refine X_nil ?_
        | refine XT_seq ?_
        | refine Y_res (r_move rfl) rfl ?_
        | refine Y_on rfl rfl ?_
        | refine Y_res (r_pickT rfl rfl) rfl ?_
        | refine Y_res (r_indexRv rfl rfl hk h5 (by omega)) rfl ?_
        | refine Y_res (r_loadRv (v := .bool kb) rfl hk old_false (by rw [List.getElem?_map, hkb]; rfl)) rfl ?_
      refine XC_cond rfl (fun h6 => ?_) (fun h6 => ?_)
      · have hW : lastW l ks (j + 1) = x := by rw [lastW, if_pos (hkv.trans h6), hx]
        repeat first
          | refine XC_region ?_
          | refine X_nil ?_
          | refine XT_seq ?_
          | refine XT_block_normal ?_
          | refine Y_res (r_move rfl) rfl ?_
          | refine Y_res (r_assign rfl) rfl ?_
          | refine Y_res (r_add64 rfl rfl (by omega)) rfl ?_
        exact XT_round (j + 1, ab) (by dsimp only; omega) (by dsimp only; omega) ⟨rfl, rfl, rfl, by dsimp only; rw [hW]; rfl, rfl, rfl, rfl, trivial⟩ (fun _ h => h.tail)
      · have hW : lastW l ks (j + 1) = lastW l ks j := by rw [lastW, if_neg (by rw [hkv, h6]; decide)]
        repeat first
          | refine XC_region ?_
          | refine X_nil ?_
          | refine XT_seq ?_
          | refine XT_block_normal ?_
          | refine XC_skip ?_
          | refine Y_res (r_move rfl) rfl ?_
          | refine Y_res (r_add64 rfl rfl (by omega)) rfl ?_
        exact XT_round (j + 1, ab) (by dsimp only; omega) (by dsimp only; omega) ⟨rfl, rfl, rfl, by dsimp only; rw [hW]; rfl, rfl, rfl, rfl, trivial⟩ (fun _ h => h.tail)
    · have hW : lastW l ks (j + 1) = lastW l ks j := by rw [lastW, if_neg (by simp [List.getD, List.getElem?_eq_none (show ks.length ≤ j by omega)])]
      repeat first
        | refine XC_region ?_
        | refine X_nil ?_
        | refine XC_condF rfl ?_
        | refine XT_seq ?_
        | refine XT_block_normal ?_
        | refine XC_skip ?_
        | refine Y_res (r_move rfl) rfl ?_
        | refine Y_res (r_add64 rfl rfl (by omega)) rfl ?_
        | refine Y_off rfl rfl rfl ?_
        | refine Y_res (r_pickF rfl rfl) rfl ?_
      exact XT_round (j + 1, ab) (by dsimp only; omega) (by dsimp only; omega) ⟨rfl, rfl, rfl, by dsimp only; rw [hW]; rfl, rfl, rfl, rfl, trivial⟩ (fun _ h => h.tail)
  · obtain rfl : j = l.length := by omega
    have kj := last_ok hl50 l.length
    have hll : (lastP l l.length).loose.length = l.length := by show ((l.take l.length).map _).length = _; rw [List.length_map, List.take_length]
    have hnow : (revP (lastP l l.length) ks).now[5]? = some (rep (lastW l ks l.length)) := by
      have h3 := last_rev (l := l) (ks := ks) l.length (Nat.le_refl _)
      show (revS _ ((l.take l.length).map (fun c => (5, rep c))) _ ((l.take l.length).map (fun c => ((5 : Nat), rep c))).length)[5]? = _
      rw [List.take_length, List.length_map]
      exact h3
    have hWb := lastW_bd (l := l) (ks := ks) (fun n hn => wf8 (hwf n hn)) l.length (Nat.le_refl _)
    generalize hx : lastW l ks l.length = x at *
    repeat first
      | refine XC_region ?_
      | refine XC_seq ?_
      | refine XT_seq ?_
      | refine XT_block_same rfl ?_
      | refine XT_then_exit ?_
      | refine XC_exit ?_
      | refine Y_res (r_move rfl) rfl ?_
    refine X_call (g := 13) rfl rfl (fun w1 q1 => (loose_any q1).mono ?_)
    rintro e w2 ⟨rfl, q2⟩
    rw [hll]
    refine ⟨_, rfl, _, q2, ?_⟩
    clear q1 q2
    repeat first
      | refine X_nil ?_
      | refine XT_seq ?_
      | refine Y_res (r_move rfl) rfl ?_
      | refine Y_res (r_neq rfl rfl) rfl ?_
      | refine Y_res (r_len rfl) rfl ?_
    refine XC_condP rfl (fun h3 => absurd rfl h3) (fun h3 => ?_)
    repeat first
      | refine XC_region ?_
      | refine XC_seq ?_
      | refine XT_seq ?_
      | refine XC_skip ?_
      | refine Y_res (r_move rfl) rfl ?_
    refine X_call (g := 14) rfl rfl (fun w1 q1 => (revive_any ks K kc q1 kj (fun cs w1 h1 => hk.old h1 old_false)).mono ?_)
    rintro e w2 ⟨ac, rfl, q2⟩
    refine ⟨_, rfl, _, q2, ?_⟩
    clear q1 q2
    repeat first
      | refine XC_region ?_
      | refine X_nil ?_
      | refine XC_seq ?_
      | refine XT_seq ?_
      | refine Y_res (r_move rfl) rfl ?_
    refine X_call (g := 12) rfl rfl (fun w1 q1 => (read_es 5 _ (ok_rev kj ks) rfl hnow q1).mono ?_)
    rintro e w2 ⟨b, rfl, q2⟩
    refine ⟨_, rfl, _, q2, ?_⟩
    clear q1 q2
    have hrl : (rep x).length = 64 := rfl
    repeat first
      | refine XC_region ?_
      | refine X_nil ?_
      | refine XC_seq ?_
      | refine XT_seq ?_
      | refine XC_ret ?_
      | refine Y_res (r_move rfl) rfl ?_
      | refine Y_res (r_assign rfl) rfl ?_
      | refine Y_res (r_eql rfl rfl) rfl ?_
      | refine Y_on rfl rfl ?_
      | refine Y_res (r_len rfl) rfl ?_
      | refine Y_res (r_loadI rfl (by first | omega | (simp only [List.length_set, List.length_replicate]; omega))) rfl ?_
      | refine Y_res (r_extract rfl rfl) rfl ?_
      | refine Y_res (r_pickT rfl rfl) rfl ?_
      | refine Y_splitT rfl rfl (by decide) ?_
      | refine Y_splitT rfl rfl (rep0 x) ?_
      | refine Y_res (r_indexB rfl rfl (by omega)) rfl ?_
    rw [decide_eq_true (rep63 x)]
    exact XT_says (.inl rfl) Try.results3 rfl rfl
end Go.Proofs.Ytipikjikjjmmiaa.NPl
