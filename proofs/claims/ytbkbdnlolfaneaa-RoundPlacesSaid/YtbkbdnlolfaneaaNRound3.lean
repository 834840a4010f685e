/- Lists of hints packed, the document's way, walked. -/
import Derived.Test.YtbkbdnlolfaneaaNRound2
namespace Go.Proofs.Ytbkbdnlolfaneaa.NRound
open Go Go.RowKit Go.Proofs.Ytbkbdnlolfaneaa.MX Go.Proofs.Ytbkbdnlolfaneaa.PRound
set_option linter.unusedVariables false
set_option linter.unusedSimpArgs false
set_option linter.unusedVariables false
set_option maxRecDepth 100000 in
set_option maxHeartbeats 4000000 in
theorem refpack_any (L : List (List Bool)) (A : Option Addr) (c : Nat) (m : Int) (w : World) (h : BLs w A c L) (hm : (Lit.int .i64 m).wf = true) :
    Calls Try.prog 30 #[.slice A L.length c, .int .i64 m] w (TellsO 5 .u8 w (packB L m)) := by
  have hle := h.le
  have hcap := h.cap
  refine calls_of_X (vs := [_, _]) (M := Hp w (fun _ => False) []) Try.func30 rfl Try.ntmps30 rfl (Hp.nil _ _) ?_
  repeat first
    | refine XC_region ?_
    | refine X_nil ?_
    | refine XC_seq ?_
    | refine XT_seq ?_
    | refine Y_res (r_move rfl) rfl ?_
    | refine Y_res (r_assign rfl) rfl ?_
    | refine Y_res (r_lss rfl rfl) rfl ?_
  refine Y_split rfl rfl (fun h1 => ?_) (fun h1 => ?_)
  · repeat first
      | refine XC_region ?_
      | refine X_nil ?_
      | refine XC_condT rfl ?_
      | refine XC_seq ?_
      | refine XT_seq ?_
      | refine XT_then_ret ?_
      | refine XC_ret ?_
      | refine Y_res (r_move rfl) rfl ?_
      | refine Y_res (r_assign rfl) rfl ?_
      | refine Y_off rfl rfl rfl ?_
      | refine Y_res (r_pickT rfl rfl) rfl ?_
    exact XT_tellsN (.inl rfl) Try.results30 rfl rfl (not_packB fun q => by have := q.1; omega)
  repeat first
    | refine Y_res (r_move rfl) rfl ?_
    | refine Y_res (r_gtr rfl rfl) rfl ?_
    | refine Y_on rfl rfl ?_
    | refine Y_res (r_pickF rfl rfl) rfl ?_
  refine Y_split rfl rfl (fun h2 => ?_) (fun h2 => ?_)
  · repeat first
      | refine XC_region ?_
      | refine X_nil ?_
      | refine XC_condT rfl ?_
      | refine XC_seq ?_
      | refine XT_seq ?_
      | refine XT_then_ret ?_
      | refine XC_ret ?_
      | refine Y_res (r_assign rfl) rfl ?_
      | refine Y_off rfl rfl rfl ?_
      | refine Y_res (r_pickT rfl rfl) rfl ?_
    exact XT_tellsN (.inl rfl) Try.results30 rfl rfl (not_packB fun q => by have := q.2.1; omega)
  repeat first
    | refine X_nil ?_
    | refine XT_seq ?_
    | refine Y_res (r_move rfl) rfl ?_
    | refine Y_res (r_gtr rfl rfl) rfl ?_
    | refine Y_on rfl rfl ?_
    | refine Y_res (r_len rfl) rfl ?_
    | refine Y_res (r_pickF rfl rfl) rfl ?_
  refine XC_condP rfl (fun h3 => ?_) (fun h3 => ?_)
  · repeat first
      | refine XC_region ?_
      | refine X_nil ?_
      | refine XC_seq ?_
      | refine XT_seq ?_
      | refine XT_then_ret ?_
      | refine XC_ret ?_
      | refine Y_res (r_assign rfl) rfl ?_
    exact XT_tellsN (.inl rfl) Try.results30 rfl rfl (not_packB fun q => by have := q.2.2.1; omega)
  obtain ⟨q, rfl⟩ : ∃ q : Nat, m = q := ⟨m.toNat, by omega⟩
  have hq : q ≤ 255 := by omega
  have hL16 : L.length ≤ 16 := by omega
  clear h1 h2 h3 hm
  repeat first
    | refine XC_region ?_
    | refine X_nil ?_
    | refine XC_seq ?_
    | refine XT_seq ?_
    | refine XC_block ?_
    | refine XC_skip ?_
    | refine Y_res (r_assign rfl) rfl ?_
  refine XC_mem (M' := Hp w (fun _ => False) [Ch.sl none 0 5 .u8 [], Ch.sl none 0 5 .u8 []]) (fun _ h => h.nilS.nilS) ?_
  refine XC_loop (ι := Nat × (Option Addr × Nat) × (Option Addr × Nat)) (fun p => p.1 ≤ L.length ∧ (∀ j l, j < p.1 → L[j]? = some l → l.length = 256) ∧ (allP (L.take p.1)).length ≤ q) (fun p => [(0, .slice A L.length c), (1, .int .i64 q), (6, .slice p.2.1.1 (allP (L.take p.1)).length p.2.1.2), (7, .slice p.2.2.1 (endsP L p.1).length p.2.2.2), (8, .int .i64 p.1)])
    (fun p => Hp w (fun _ => False) [Ch.sl p.2.2.1 p.2.2.2 5 .u8 (endsP L p.1), Ch.sl p.2.1.1 p.2.1.2 5 .u8 (allP (L.take p.1))]) (fun p => L.length - p.1) (0, (none, 0), (none, 0)) ⟨Nat.zero_le _, fun j l hj => by dsimp only at hj; omega, by simp [allP]⟩ ⟨rfl, rfl, rfl, rfl, rfl, trivial⟩ (fun _ h => h) ?_
  rintro ⟨i, ⟨A6, c6⟩, ⟨A7, c7⟩⟩ ⟨hi, hlens, hcnt⟩
  dsimp only at hi hlens hcnt ⊢
  have hel := endsP_len L i
  repeat first
    | refine XC_region ?_
    | refine X_nil ?_
    | refine XC_seq ?_
    | refine XT_seq ?_
    | refine Y_res (r_move rfl) rfl ?_
    | refine Y_res (r_lss rfl rfl) rfl ?_
    | refine Y_res (r_len rfl) rfl ?_
  refine XC_condP rfl (fun hlt => ?_) (fun hge => ?_)
  · have hi2 : i < L.length := by omega
    have hA := h.some (by omega)
    obtain ⟨l, hl⟩ : ∃ l, L[i]? = some l := ⟨L[i], List.getElem?_eq_getElem hi2⟩
    have hLi : L[i] = l := by rw [List.getElem?_eq_getElem hi2] at hl; exact Option.some.inj hl
    obtain ⟨B, d, hcell, hrl⟩ := h.at_ i l hl
    have hld := hrl.le
    repeat first
      | refine XC_region ?_
      | refine X_nil ?_
      | refine XC_seq ?_
      | refine XT_seq ?_
      | refine XC_block ?_
      | refine XC_skip ?_
      | refine Y_res (r_move rfl) rfl ?_
      | refine Y_res (r_neq rfl rfl) rfl ?_
      | refine Y_res (r_len rfl) rfl ?_
      | refine Y_res (r_indexO rfl rfl hi2 hA) rfl ?_
      | refine Y_res (r_loadO rfl hcell (fun h => h)) rfl ?_
    refine XC_condP rfl (fun hbad => ?_) (fun hgood => ?_)
    · repeat first
        | refine XC_region ?_
        | refine X_nil ?_
        | refine XC_seq ?_
        | refine XT_seq ?_
        | refine XT_block_ret ?_
        | refine XT_then_ret ?_
        | refine XC_ret ?_
        | refine Y_res (r_assign rfl) rfl ?_
      exact XT_tellsN (.inl rfl) Try.results30 rfl rfl (not_packB fun q => hbad (by have := q.2.2.2.1 l (List.mem_of_getElem? hl); omega))
    have h256 : l.length = 256 := by omega
    repeat first
      | refine XC_region ?_
      | refine X_nil ?_
      | refine XC_seq ?_
      | refine XT_seq ?_
      | refine XC_block ?_
      | refine XC_skip ?_
      | refine Y_res (r_assign rfl) rfl ?_
    refine XC_loop (ι := Nat × Option Addr × Nat) (fun p => p.1 ≤ 256) (fun p => [(0, .slice A L.length c), (1, .int .i64 q), (6, .slice p.2.1 (allP (L.take i) ++ plc 0 (l.take p.1)).length p.2.2), (7, .slice A7 (endsP L i).length c7), (8, .int .i64 i), (9, .int .i64 p.1)])
      (fun p => Hp w (fun _ => False) [Ch.sl A7 c7 5 .u8 (endsP L i), Ch.sl p.2.1 p.2.2 5 .u8 (allP (L.take i) ++ plc 0 (l.take p.1))]) (fun p => 256 - p.1) (0, A6, c6) (Nat.zero_le _) ⟨rfl, rfl, by simp only [List.take_zero, plc, List.append_nil]; rfl, rfl, rfl, rfl, trivial⟩ (fun _ h => by simpa only [List.take_zero, plc, List.append_nil] using h) ?_
    rintro ⟨j, A8, c8⟩ hj
    dsimp only at hj ⊢
    have hpl := plc_len (l.take j) 0
    have hcl : (allP (L.take i) ++ plc 0 (l.take j)).length ≤ q + 256 := by rw [List.length_append]; rw [List.length_take] at hpl; omega
    repeat first
      | refine XC_region ?_
      | refine X_nil ?_
      | refine XC_seq ?_
      | refine XT_seq ?_
      | refine Y_res (r_move rfl) rfl ?_
      | refine Y_res (r_lss rfl rfl) rfl ?_
    refine XC_condP rfl (fun hlt2 => ?_) (fun hge2 => ?_)
    · have hj2 : j < l.length := by omega
      have hps := plc_succ l j hj2
      obtain ⟨b, hb⟩ : ∃ b, l[j]? = some b := ⟨l[j], List.getElem?_eq_getElem hj2⟩
      have hbv : (l.map Value.bool)[j]? = some (.bool b) := by rw [List.getElem?_map, hb]; rfl
      have hbd : l.getD j false = b := by rw [List.getD_eq_getElem?_getD, hb]; rfl
      rw [hbd] at hps
      repeat first
        | refine XC_region ?_
        | refine X_nil ?_
        | refine XC_seq ?_
        | refine XT_seq ?_
        | refine XC_block ?_
        | refine XC_skip ?_
        | refine Y_res (r_move rfl) rfl ?_
        | refine Y_res (r_indexO rfl rfl hi2 hA) rfl ?_
        | refine Y_res (r_loadO rfl hcell (fun h => h)) rfl ?_
        | refine Y_res (r_indexRv rfl rfl hrl hj2 (by omega)) rfl ?_
        | refine Y_res (r_loadRv rfl hrl (fun _ _ h => h) hbv) rfl ?_
      cases b
      · simp only [Bool.false_eq_true, if_false, List.append_nil] at hps
        repeat first
          | refine XC_region ?_
          | refine X_nil ?_
          | refine XC_condF rfl ?_
          | refine XT_seq ?_
          | refine XT_block_normal ?_
          | refine XC_skip ?_
          | refine Y_res (r_move rfl) rfl ?_
          | refine Y_res (r_assign rfl) rfl ?_
          | refine Y_res (r_add64 rfl rfl (by omega)) rfl ?_
        rw [← hps]
        exact XT_round (j + 1, A8, c8) (by dsimp only; omega) (by dsimp only; omega) ⟨rfl, rfl, rfl, rfl, rfl, rfl, trivial⟩ (fun _ h => h)
      · simp only [if_true] at hps
        repeat first
          | refine XC_region ?_
          | refine X_nil ?_
          | refine XC_condT rfl ?_
          | refine XT_seq ?_
          | refine XT_block_normal ?_
          | refine Y_res (r_move rfl) rfl ?_
          | refine Y_res (r_assign rfl) rfl ?_
          | refine Y_res (r_add64 rfl rfl (by omega)) rfl ?_
          | refine Y_res (r_conv8 rfl) rfl ?_
          | (refine X_buildS (by rfl) (by rfl) (by simp) rfl ?_; intro _ _)
          | (refine X_append rfl rfl (fun w_ h_ => rds_ints (Hp.head h_) (by simp) (by decide)) (by rfl) (by rfl) (by rfl) (by first | omega | (simp only [List.length_cons, List.length_nil]; omega)) (by first | omega | (simp only [List.length_cons, List.length_nil]; omega)) rfl ?_; intro _ _)
          | (refine X_append rfl rfl (fun w_ hM => rds_ints hM.head (Nat.le_refl 1) (by decide)) (by rfl) (by rfl) (by rfl) (by simp only [List.length_cons, List.length_nil]; omega) (by simp only [List.length_cons, List.length_nil]; omega) rfl ?_; intro _ _)
        have e256 : (j : Int) % 256 = j := by omega
        have hnl : (allP (L.take i) ++ plc 0 (l.take j)) ++ [(j : Int)] = allP (L.take i) ++ plc 0 (l.take (j + 1)) := by rw [hps, List.append_assoc]
        rw [e256, hnl]
        exact XT_round (j + 1, _, _) (by dsimp only; omega) (by dsimp only; omega) ⟨rfl, rfl, rfl, rfl, rfl, rfl, trivial⟩ (fun _ h => h.tail)
    · obtain rfl : j = l.length := by omega
      have hcur : allP (L.take i) ++ plc 0 (l.take l.length) = allP (L.take (i + 1)) := by rw [List.take_length, allP_succ L i hi2, hLi]
      rw [hcur] at hcl ⊢
      repeat first
        | refine XC_region ?_
        | refine X_nil ?_
        | refine XC_seq ?_
        | refine XT_seq ?_
        | refine XT_block_same rfl ?_
        | refine XT_then_exit ?_
        | refine XC_exit ?_
        | refine Y_res (r_move rfl) rfl ?_
        | refine Y_res (r_assign rfl) rfl ?_
        | refine Y_res (r_gtr rfl rfl) rfl ?_
        | refine Y_res (r_conv8 rfl) rfl ?_
        | refine Y_res (r_len rfl) rfl ?_
        | (refine X_buildS (by rfl) (by rfl) (by simp) rfl ?_; intro _ _)
        | (refine X_append rfl rfl (fun w_ h_ => rds_ints (Hp.head h_) (by simp) (by decide)) (by rfl) (by rfl) (by rfl) (by first | omega | (simp only [List.length_cons, List.length_nil]; omega)) (by first | omega | (simp only [List.length_cons, List.length_nil]; omega)) rfl ?_; intro _ _)
        | (refine X_append rfl rfl (fun w_ hM => rds_ints hM.head (Nat.le_refl 1) (by decide)) (by rfl) (by rfl) (by rfl) (by simp only [List.length_cons, List.length_nil]; omega) (by simp only [List.length_cons, List.length_nil]; omega) rfl ?_; intro _ _)
      refine XC_condP rfl (fun hbig => ?_) (fun hfit => ?_)
      · repeat first
          | refine XC_region ?_
          | refine X_nil ?_
          | refine XC_seq ?_
          | refine XT_seq ?_
          | refine XT_block_ret ?_
          | refine XT_then_ret ?_
          | refine XC_ret ?_
          | refine Y_res (r_assign rfl) rfl ?_
        refine XT_tellsN (.inl rfl) Try.results30 rfl rfl (not_packB fun q1 => ?_)
        have h1 := allP_take_le L (i + 1)
        have h2 := q1.2.2.2.2
        omega
      have e256 : ((allP (L.take (i + 1))).length : Int) % 256 = (allP (L.take (i + 1))).length := by omega
      rw [e256, ← endsP_succ]
      repeat first
        | refine XC_region ?_
        | refine X_nil ?_
        | refine XT_seq ?_
        | refine XT_block_normal ?_
        | refine XC_skip ?_
        | refine Y_res (r_move rfl) rfl ?_
        | refine Y_res (r_assign rfl) rfl ?_
        | refine Y_res (r_add64 rfl rfl (by omega)) rfl ?_
      exact XT_round (i + 1, (_, _), (_, _)) ⟨by dsimp only; omega, fun k l2 hk hl2 => by
        dsimp only at hk
        rcases Nat.lt_or_ge k i with hk2 | hk2
        · exact hlens k l2 hk2 hl2
        · obtain rfl : k = i := by omega
          rw [hl] at hl2
          injection hl2 with hl2
          rw [← hl2]; exact h256, by dsimp only; omega⟩ (by dsimp only; omega) ⟨rfl, rfl, rfl, rfl, rfl, trivial⟩ (fun _ h => h.tail)
  · obtain rfl : i = L.length := by omega
    rw [List.take_length] at hcnt ⊢
    have hok : packOk L q := ⟨by omega, by omega, hL16, fun l hl => by
      obtain ⟨k, hk⟩ := List.getElem?_of_mem hl
      exact hlens k l (List.getElem?_eq_some_iff.1 hk).1 hk, by omega⟩
    repeat first
      | refine XC_seq ?_
      | refine XT_seq ?_
      | refine XC_block ?_
      | refine XT_block_same rfl ?_
      | refine XT_then_exit ?_
      | refine XC_exit ?_
    refine XC_loop (ι := Nat × Option Addr × Nat) (fun p => (allP L).length + p.1 ≤ q) (fun p => [(1, .int .i64 q), (6, .slice p.2.1 (allP L ++ List.replicate p.1 0).length p.2.2), (7, .slice A7 (endsP L L.length).length c7)])
      (fun p => Hp w (fun _ => False) [Ch.sl A7 c7 5 .u8 (endsP L L.length), Ch.sl p.2.1 p.2.2 5 .u8 (allP L ++ List.replicate p.1 0)]) (fun p => q - p.1) (0, A6, c6) (by dsimp only; omega) ⟨rfl, by simp only [List.replicate_zero, List.append_nil]; rfl, rfl, trivial⟩ (fun _ h => by simpa only [List.replicate_zero, List.append_nil] using h) ?_
    rintro ⟨n, A8, c8⟩ hn
    dsimp only at hn ⊢
    have hnl : (allP L ++ List.replicate n (0 : Int)).length = (allP L).length + n := by simp
    repeat first
      | refine XC_region ?_
      | refine X_nil ?_
      | refine XC_seq ?_
      | refine XT_seq ?_
      | refine Y_res (r_move rfl) rfl ?_
      | refine Y_res (r_lss rfl rfl) rfl ?_
      | refine Y_res (r_len rfl) rfl ?_
    refine XC_condP rfl (fun hlt => ?_) (fun hge2 => ?_)
    · repeat first
        | refine XC_region ?_
        | refine X_nil ?_
        | refine XT_seq ?_
        | refine XC_block ?_
        | refine XT_block_normal ?_
        | refine XC_skip ?_
        | refine Y_res (r_move rfl) rfl ?_
        | refine Y_res (r_assign rfl) rfl ?_
        | (refine X_buildS (by rfl) (by rfl) (by simp) rfl ?_; intro _ _)
        | (refine X_append rfl rfl (fun w_ h_ => rds_ints (Hp.head h_) (by simp) (by decide)) (by rfl) (by rfl) (by rfl) (by first | omega | (simp only [List.length_cons, List.length_nil]; omega)) (by first | omega | (simp only [List.length_cons, List.length_nil]; omega)) rfl ?_; intro _ _)
        | (refine X_append rfl rfl (fun w_ hM => rds_ints hM.head (Nat.le_refl 1) (by decide)) (by rfl) (by rfl) (by rfl) (by simp only [List.length_cons, List.length_nil]; omega) (by simp only [List.length_cons, List.length_nil]; omega) rfl ?_; intro _ _)
      have en : allP L ++ List.replicate n 0 ++ [0] = allP L ++ List.replicate (n + 1) 0 := by rw [List.append_assoc, ← List.replicate_succ']
      rw [en]
      exact XT_round (n + 1, _, _) (by dsimp only; omega) (by dsimp only; omega) ⟨rfl, rfl, rfl, trivial⟩ (fun _ h => h.tail)
    · obtain rfl : n = q - (allP L).length := by omega
      repeat first
        | refine XC_region ?_
        | refine X_nil ?_
        | refine XC_seq ?_
        | refine XT_seq ?_
        | refine XT_block_same rfl ?_
        | refine XT_then_exit ?_
        | refine XC_exit ?_
        | refine XC_ret ?_
        | refine Y_res (r_move rfl) rfl ?_
        | refine Y_res (r_assign rfl) rfl ?_
        | (refine X_append rfl rfl (fun w_ hM => rds_sl hM.head) (by rfl) (by rfl) (by rfl) (by omega) (by omega) rfl ?_; intro _ _)
      refine XT_tellsS (.inl rfl) Try.results30 rfl rfl rfl ?_
      simp only [packB, if_pos hok]
      rfl
end Go.Proofs.Ytbkbdnlolfaneaa.NRound
