/- Mul, Center, Norm and the references, walked. -/
import Derived.Test.YtoednaebdfohbaaNRing3
namespace Go.Proofs.Ytoednaebdfohbaa.NRing
open Go Go.RowKit Go.Proofs.Ytoednaebdfohbaa.MX Go.Proofs.Ytoednaebdfohbaa.PRing
set_option linter.unusedVariables false
set_option linter.unusedSimpArgs false
theorem vd_ok {l : List Int} (h : Ok l) : vd l = true := vd_iff.2 ⟨h.1, fun i hi => h.2 i (by rw [h.1] at hi; exact hi)⟩
theorem ok_vd {l : List Int} (h : vd l = true) : Ok l := by
  obtain ⟨h1, h2⟩ := vd_iff.1 h
  exact ⟨h1, fun i hi => h2 i (by rw [h1]; exact hi)⟩
theorem zip2_ok (a b : List Int) : Ok (zip2 fMul a b) := mod_ok (f := fun i => fMul (a.getD i 0) (b.getD i 0)) fun i hi => ⟨_, rfl⟩
def mulL (a b : List Int) : List Int := bck (zip2 fMul (thr a) (thr b))
set_option maxHeartbeats 2000000 in
set_option maxRecDepth 100000 in
theorem mul_any (a b : List Int) (A B : Option Addr) (ca cb : Nat) (w : World) (ha : Rds w A ca .i64 a) (hb : Rds w B cb .i64 b) :
    Calls Try.prog 17 #[.slice A a.length ca, .slice B b.length cb] w fun e w' => Told w w' e (vd a = true ∧ vd b = true) (mulL a b) := by
  refine calls_of_X (vs := [_, _]) (M := Hp w (fun _ => False) []) Try.func17 rfl Try.ntmps17 rfl (Hp.nil _ _) ?_
  repeat first
    | refine XC_region ?_
    | refine X_nil ?_
    | refine XC_seq ?_
    | refine XT_seq ?_
    | refine Y_res (r_move rfl) rfl ?_
    | refine Y_res (r_assign rfl) rfl ?_
  refine X_call rfl rfl (fun w1 h1 => (there_any a A ca w1 (ha.old h1 old_false)).mono ?_)
  rintro e w2 ⟨hc2, hif2⟩
  by_cases hva : vd a = true
  · rw [if_pos hva] at hif2
    obtain ⟨v, rfl, A2, cap2, rfl, hp2, hf2⟩ := hif2
    refine ⟨_, rfl, _, h1.add hc2 hp2 hf2, ?_⟩
    have hoa := thr_ok (ok_vd hva)
    obtain ⟨x, hx⟩ : ∃ x, x = thr a := ⟨_, rfl⟩
    rw [← hx] at hoa ⊢
    clear hp2 hf2 hc2
    repeat first
      | refine XC_region ?_
      | refine X_nil ?_
      | refine XC_seq ?_
      | refine XT_seq ?_
      | refine Y_res (r_move rfl) rfl ?_
      | refine Y_res (r_assign rfl) rfl ?_
      | refine Y_res (r_extract rfl rfl) rfl ?_
    refine X_call rfl rfl (fun w3 h3 => (there_any b B cb w3 (hb.old h3 old_false)).mono ?_)
    rintro e w4 ⟨hc4, hif4⟩
    by_cases hvb : vd b = true
    · rw [if_pos hvb] at hif4
      obtain ⟨v, rfl, A4, cap4, rfl, hp4, hf4⟩ := hif4
      refine ⟨_, rfl, _, h3.add hc4 hp4 hf4, ?_⟩
      have hob := thr_ok (ok_vd hvb)
      obtain ⟨y, hy⟩ : ∃ y, y = thr b := ⟨_, rfl⟩
      rw [← hy] at hob ⊢
      clear hp4 hf4 hc4
      repeat first
        | refine XC_region ?_
        | refine X_nil ?_
        | refine XC_condF rfl ?_
        | refine XC_seq ?_
        | refine XT_seq ?_
        | refine XC_skip ?_
        | refine Y_res (r_move rfl) rfl ?_
        | refine Y_res (r_assign rfl) rfl ?_
        | refine Y_on rfl rfl ?_
        | refine Y_res (r_notB rfl) rfl ?_
        | refine Y_res (r_extract rfl rfl) rfl ?_
        | refine Y_res (r_pickF rfl rfl) rfl ?_
      refine X_call rfl rfl (fun w5 h5 => (point_any x y A2 A4 cap2 cap4 w5 (rds_sl h5.tail.head) (rds_sl h5.head)).mono ?_)
      rintro e w6 ⟨hc6, hif6⟩
      rw [if_pos ⟨vd_ok hoa, vd_ok hob⟩] at hif6
      obtain ⟨v, rfl, A6, cap6, rfl, hp6, hf6⟩ := hif6
      refine ⟨_, rfl, _, h5.add hc6 hp6 hf6, ?_⟩
      clear hp6 hf6 hc6
      repeat first
        | refine XC_region ?_
        | refine X_nil ?_
        | refine XC_seq ?_
        | refine XT_seq ?_
        | refine Y_res (r_move rfl) rfl ?_
        | refine Y_res (r_assign rfl) rfl ?_
        | refine Y_res (r_extract rfl rfl) rfl ?_
      refine X_call rfl rfl (fun w7 h7 => (back_any (zip2 fMul x y) A6 cap6 w7 (rds_sl h7.head)).mono ?_)
      rintro e w8 ⟨hc8, hif8⟩
      rw [if_pos (vd_ok (zip2_ok x y))] at hif8
      obtain ⟨v, rfl, A8, cap8, rfl, hp8, hf8⟩ := hif8
      refine ⟨_, rfl, _, h7.add hc8 hp8 hf8, ?_⟩
      clear hp8 hf8 hc8
      repeat first
        | refine X_nil ?_
        | refine XT_seq ?_
        | refine XC_ret ?_
        | refine Y_res (r_assign rfl) rfl ?_
        | refine Y_res (r_extract rfl rfl) rfl ?_
      refine XT_ret2 (.inl rfl) Try.results17 rfl rfl (fun w' h => ⟨h.chg, ?_⟩)
      rw [if_pos ⟨hva, hvb⟩, mulL, ← hx, ← hy]
      exact ⟨_, rfl, ⟨A8, cap8, rfl, h.head, fun j hj => (h.own _ (List.mem_cons_self ..) j hj).resolve_left (fun h => h)⟩⟩
    · rw [if_neg hvb] at hif4
      subst hif4
      refine ⟨_, rfl, _, h3.keep hc4, ?_⟩
      repeat first
        | refine XC_region ?_
        | refine X_nil ?_
        | refine XC_condT rfl ?_
        | refine XC_seq ?_
        | refine XT_seq ?_
        | refine XT_then_ret ?_
        | refine XC_ret ?_
        | refine Y_res (r_move rfl) rfl ?_
        | refine Y_res (r_assign rfl) rfl ?_
        | refine Y_on rfl rfl ?_
        | refine Y_res (r_notB rfl) rfl ?_
        | refine Y_res (r_extract rfl rfl) rfl ?_
        | refine Y_res (r_pickF rfl rfl) rfl ?_
      exact XT_ret2 (.inl rfl) Try.results17 rfl rfl (fun w' h => ⟨h.chg, by rw [if_neg (fun h => hvb h.2)]⟩)
  · rw [if_neg hva] at hif2
    subst hif2
    refine ⟨_, rfl, _, h1.keep hc2, ?_⟩
    clear hc2
    repeat first
      | refine XC_region ?_
      | refine X_nil ?_
      | refine XC_seq ?_
      | refine XT_seq ?_
      | refine Y_res (r_move rfl) rfl ?_
      | refine Y_res (r_assign rfl) rfl ?_
      | refine Y_res (r_extract rfl rfl) rfl ?_
    refine X_call rfl rfl (fun w3 h3 => (there_any b B cb w3 (hb.old h3 old_false)).mono ?_)
    rintro e w4 ⟨hc4, hif4⟩
    by_cases hvb : vd b = true
    · rw [if_pos hvb] at hif4
      obtain ⟨v, rfl, A4, cap4, rfl, hp4, hf4⟩ := hif4
      refine ⟨_, rfl, _, h3.keep hc4, ?_⟩
      repeat first
        | refine XC_region ?_
        | refine X_nil ?_
        | refine XC_condT rfl ?_
        | refine XC_seq ?_
        | refine XT_seq ?_
        | refine XT_then_ret ?_
        | refine XC_ret ?_
        | refine Y_res (r_move rfl) rfl ?_
        | refine Y_res (r_assign rfl) rfl ?_
        | refine Y_off rfl rfl rfl ?_
        | refine Y_res (r_notB rfl) rfl ?_
        | refine Y_res (r_extract rfl rfl) rfl ?_
        | refine Y_res (r_pickT rfl rfl) rfl ?_
      exact XT_ret2 (.inl rfl) Try.results17 rfl rfl (fun w' h => ⟨h.chg, by rw [if_neg (fun h => hva h.1)]⟩)
    · rw [if_neg hvb] at hif4
      subst hif4
      refine ⟨_, rfl, _, h3.keep hc4, ?_⟩
      repeat first
        | refine XC_region ?_
        | refine X_nil ?_
        | refine XC_condT rfl ?_
        | refine XC_seq ?_
        | refine XT_seq ?_
        | refine XT_then_ret ?_
        | refine XC_ret ?_
        | refine Y_res (r_move rfl) rfl ?_
        | refine Y_res (r_assign rfl) rfl ?_
        | refine Y_off rfl rfl rfl ?_
        | refine Y_res (r_notB rfl) rfl ?_
        | refine Y_res (r_extract rfl rfl) rfl ?_
        | refine Y_res (r_pickT rfl rfl) rfl ?_
      exact XT_ret2 (.inl rfl) Try.results17 rfl rfl (fun w' h => ⟨h.chg, by rw [if_neg (fun h => hva h.1)]⟩)
/-- The number around 0. -/
def ctr (n : Int) : Int := if n % 8380417 > 4190208 then n % 8380417 - 8380417 else n % 8380417
set_option maxHeartbeats 1000000 in
set_option maxRecDepth 100000 in
theorem center_any (n : Int) (w : World) (hn : -9223372036854775808 ≤ n ∧ n ≤ 9223372036854775807) : Calls Try.prog 26 #[.int .i64 n] w fun e w' => e = .returned (.int .i64 (ctr n)) ∧ Chg (fun _ => False) w w' := by
  have ht : n.tmod 8380417 = n % 8380417 ∨ n.tmod 8380417 = n % 8380417 - 8380417 := by
    have h1 := Int.emod_add_mul_ediv n 8380417
    have h2 := Int.tmod_add_mul_tdiv n 8380417
    have h3 : Int.sign 8380417 = 1 := by decide
    rw [Int.tdiv_eq_ediv] at h2
    split at h2 <;> omega
  have hb := Int.emod_nonneg n (show (8380417 : Int) ≠ 0 by decide)
  have hb2 := Int.emod_lt_of_pos n (show (0 : Int) < 8380417 by decide)
  have hmod : (n.tmod 8380417 + 8380417) % 8380417 = n % 8380417 := by omega
  refine calls_of_X (vs := [_]) (M := Hp w (fun _ => False) []) Try.func26 rfl Try.ntmps26 rfl (Hp.nil _ _) ?_
  repeat first
    | refine XC_region ?_
    | refine X_nil ?_
    | refine XC_seq ?_
    | refine XT_seq ?_
    | refine Y_res (r_move rfl) rfl ?_
    | refine Y_res (r_assign rfl) rfl ?_
    | refine Y_res (r_add64 rfl rfl (by omega)) rfl ?_
    | refine Y_res (r_rem rfl rfl (by omega)) rfl ?_
    | refine Y_res (r_gtr rfl rfl) rfl ?_
    | refine Y_res (r_rem' rfl rfl (by decide)) rfl ?_
  rw [hmod]
  refine XC_condP rfl (fun h => ?_) (fun h => ?_)
  · repeat first
      | refine XC_region ?_
      | refine X_nil ?_
      | refine XC_seq ?_
      | refine XT_seq ?_
      | refine XC_ret ?_
      | refine Y_res (r_move rfl) rfl ?_
      | refine Y_res (r_assign rfl) rfl ?_
      | refine Y_res (r_sub64 rfl rfl (by omega)) rfl ?_
    exact XT_ret1 (.inl rfl) Try.results26 rfl (fun w' h2 => ⟨by rw [ctr, if_pos h], h2.chg⟩)
  · repeat first
      | refine XC_region ?_
      | refine X_nil ?_
      | refine XC_seq ?_
      | refine XT_seq ?_
      | refine XC_skip ?_
      | refine XC_ret ?_
      | refine Y_res (r_move rfl) rfl ?_
      | refine Y_res (r_assign rfl) rfl ?_
    exact XT_ret1 (.inl rfl) Try.results26 rfl (fun w' h2 => ⟨by rw [ctr, if_neg h], h2.chg⟩)
set_option maxHeartbeats 1000000 in
set_option maxRecDepth 100000 in
theorem rcenter_any (n : Int) (w : World) (hn : -9223372036854775808 ≤ n ∧ n ≤ 9223372036854775807) : Calls Try.prog 27 #[.int .i64 n] w fun e w' => e = .returned (.int .i64 (ctr n)) ∧ Chg (fun _ => False) w w' := by
  have ht : n.tmod 8380417 = n % 8380417 ∨ (n.tmod 8380417 = n % 8380417 - 8380417 ∧ 0 < n % 8380417) := by
    have h1 := Int.emod_add_mul_ediv n 8380417
    have h2 := Int.tmod_add_mul_tdiv n 8380417
    have h3 : Int.sign 8380417 = 1 := by decide
    rw [Int.tdiv_eq_ediv] at h2
    split at h2 <;> omega
  have hb := Int.emod_nonneg n (show (8380417 : Int) ≠ 0 by decide)
  have hb2 := Int.emod_lt_of_pos n (show (0 : Int) < 8380417 by decide)
  obtain ⟨t, htt⟩ : ∃ t, t = n.tmod 8380417 := ⟨_, rfl⟩
  refine calls_of_X (vs := [_]) (M := Hp w (fun _ => False) []) Try.func27 rfl Try.ntmps27 rfl (Hp.nil _ _) ?_
  repeat first
    | refine XC_region ?_
    | refine X_nil ?_
    | refine XC_seq ?_
    | refine XT_seq ?_
    | refine Y_res (r_move rfl) rfl ?_
    | refine Y_res (r_assign rfl) rfl ?_
    | refine Y_res (r_gtr rfl rfl) rfl ?_
    | refine Y_res (r_rem' rfl rfl (by decide)) rfl ?_
  rw [← htt] at ht ⊢
  refine XC_condP rfl (fun h => ?_) (fun h => ?_)
  · repeat first
      | refine XC_region ?_
      | refine X_nil ?_
      | refine XC_seq ?_
      | refine XT_seq ?_
      | refine Y_res (r_move rfl) rfl ?_
      | refine Y_res (r_assign rfl) rfl ?_
      | refine Y_res (r_sub64 rfl rfl (by omega)) rfl ?_
      | refine Y_res (r_lss rfl rfl) rfl ?_
    refine XC_condP rfl (fun h' => ?_) (fun h' => ?_)
    · exact absurd h' (by omega)
    · repeat first
        | refine XC_region ?_
        | refine X_nil ?_
        | refine XC_seq ?_
        | refine XT_seq ?_
        | refine XC_skip ?_
        | refine XC_ret ?_
        | refine Y_res (r_move rfl) rfl ?_
        | refine Y_res (r_assign rfl) rfl ?_
      exact XT_ret1 (.inl rfl) Try.results27 rfl (fun w' h2 => ⟨by rw [ctr]; congr 2; split <;> omega, h2.chg⟩)
  · repeat first
      | refine XC_region ?_
      | refine X_nil ?_
      | refine XC_seq ?_
      | refine XT_seq ?_
      | refine XC_skip ?_
      | refine Y_res (r_move rfl) rfl ?_
      | refine Y_res (r_lss rfl rfl) rfl ?_
    refine XC_condP rfl (fun h' => ?_) (fun h' => ?_)
    · repeat first
        | refine XC_region ?_
        | refine X_nil ?_
        | refine XC_seq ?_
        | refine XT_seq ?_
        | refine XC_ret ?_
        | refine Y_res (r_move rfl) rfl ?_
        | refine Y_res (r_assign rfl) rfl ?_
        | refine Y_res (r_add64 rfl rfl (by omega)) rfl ?_
      exact XT_ret1 (.inl rfl) Try.results27 rfl (fun w' h2 => ⟨by rw [ctr]; congr 2; split <;> omega, h2.chg⟩)
    · repeat first
        | refine XC_region ?_
        | refine X_nil ?_
        | refine XC_seq ?_
        | refine XT_seq ?_
        | refine XC_skip ?_
        | refine XC_ret ?_
        | refine Y_res (r_move rfl) rfl ?_
        | refine Y_res (r_assign rfl) rfl ?_
      exact XT_ret1 (.inl rfl) Try.results27 rfl (fun w' h2 => ⟨by rw [ctr]; congr 2; split <;> omega, h2.chg⟩)
end Go.Proofs.Ytoednaebdfohbaa.NRing
