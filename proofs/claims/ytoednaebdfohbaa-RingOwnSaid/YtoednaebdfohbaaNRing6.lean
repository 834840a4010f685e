/- The laws' own anchor. -/
import Derived.Test.YtoednaebdfohbaaNRing5
import Derived.Test.YtoednaebdfohbaaPRing5
namespace Go.Proofs.Ytoednaebdfohbaa.NRing
open Go Go.RowKit Go.Proofs.Ytoednaebdfohbaa.MX Go.Proofs.Ytoednaebdfohbaa.PRing
set_option linter.unusedVariables false
set_option linter.unusedSimpArgs false
set_option maxHeartbeats 2000000 in
set_option maxRecDepth 100000 in
theorem anchor_any (w : World) : Calls Try.prog 10 #[] w fun e w' => e = .returned (.bool true) ∧ Chg (fun _ => False) w w' := by
  obtain ⟨x, hx⟩ : ∃ x, x = xk 255 := ⟨_, rfl⟩
  obtain ⟨y, hy⟩ : ∃ y, y = xk 1 := ⟨_, rfl⟩
  obtain ⟨m, hm⟩ : ∃ m, m = mulL x y := ⟨_, rfl⟩
  obtain ⟨t, ht⟩ : ∃ t, t = thr y := ⟨_, rfl⟩
  have hox : Ok x := by rw [hx]; exact ck_ok (by decide) (by decide)
  have hoy : Ok y := by rw [hy]; exact ck_ok (by decide) (by decide)
  have hm0 : m.getD 0 0 = 8380416 ∧ m.getD 1 0 = 0 ∧ m.length = 256 := by
    have e : m = ck 0 8380416 := by rw [hm, hx, hy]; exact mul_known
    rw [e]
    exact ⟨by rw [ck_get (by decide)]; rfl, by rw [ck_get (by decide)]; rfl, (ck_ok (by decide) (by decide)).1⟩
  have ht0 : t.getD 0 0 = 1753 ∧ t.getD 1 0 = 8378664 ∧ t.length = 256 := by
    rw [ht, hy]
    exact ⟨thr_known.1, thr_known.2, (thr_ok (ck_ok (by decide) (by decide))).1⟩
  obtain ⟨hm1, hm2, hm3⟩ := hm0
  obtain ⟨ht1, ht2, ht3⟩ := ht0
  refine calls_of_X (vs := []) (M := Hp w (fun _ => False) []) Try.func10 rfl Try.ntmps10 rfl (Hp.nil _ _) ?_
  repeat first
    | refine XC_region ?_
    | refine X_nil ?_
    | refine XC_seq ?_
    | refine XT_seq ?_
    | refine Y_res (r_assign rfl) rfl ?_
  refine X_call rfl rfl (fun w1 h1 => (lpower_any 255 w1 (by decide)).mono ?_)
  rw [← hx]
  rintro e w2 ⟨v, rfl, ⟨A2, cap2, rfl, hp2, hf2⟩, hc2⟩
  refine ⟨_, rfl, _, h1.add hc2 hp2 hf2, ?_⟩
  clear hp2 hf2 hc2
  skip
  refine X_call rfl rfl (fun w3 h3 => (lpower_any 1 w3 (by decide)).mono ?_)
  rw [← hy]
  rintro e w4 ⟨v, rfl, ⟨A4, cap4, rfl, hp4, hf4⟩, hc4⟩
  refine ⟨_, rfl, _, h3.add hc4 hp4 hf4, ?_⟩
  clear hp4 hf4 hc4
  skip
  refine X_call rfl rfl (fun w5 h5 => (mul_any x y A2 A4 cap2 cap4 w5 (rds_sl h5.tail.head) (rds_sl h5.head)).mono ?_)
  rw [← hm]
  rintro e w6 ⟨hc6, hif6⟩
  rw [if_pos ⟨vd_ok hox, vd_ok hoy⟩] at hif6
  obtain ⟨v, rfl, A6, cap6, rfl, hp6, hf6⟩ := hif6
  refine ⟨_, rfl, _, h5.add hc6 hp6 hf6, ?_⟩
  have hcap6 := sl_cap hp6
  clear hp6 hf6 hc6
  repeat first
    | refine XC_region ?_
    | refine X_nil ?_
    | refine XC_seq ?_
    | refine XT_seq ?_
    | refine Y_res (r_move rfl) rfl ?_
    | refine Y_res (r_assign rfl) rfl ?_
    | refine Y_res (r_extract rfl rfl) rfl ?_
  refine X_call rfl rfl (fun w7 h7 => (lpower_any 1 w7 (by decide)).mono ?_)
  rw [← hy]
  rintro e w8 ⟨v, rfl, ⟨A8, cap8, rfl, hp8, hf8⟩, hc8⟩
  refine ⟨_, rfl, _, h7.add hc8 hp8 hf8, ?_⟩
  clear hp8 hf8 hc8
  skip
  refine X_call rfl rfl (fun w9 h9 => (there_any y A8 cap8 w9 (rds_sl h9.head)).mono ?_)
  rw [← ht]
  rintro e w10 ⟨hc10, hif10⟩
  rw [if_pos (vd_ok hoy)] at hif10
  obtain ⟨v, rfl, A10, cap10, rfl, hp10, hf10⟩ := hif10
  refine ⟨_, rfl, _, h9.add hc10 hp10 hf10, ?_⟩
  have hcap10 := sl_cap hp10
  clear hp10 hf10 hc10
  repeat first
    | refine XC_region ?_
    | refine X_nil ?_
    | refine XC_seq ?_
    | refine XT_seq ?_
    | refine XC_ret ?_
    | refine Y_res (r_move rfl) rfl ?_
    | refine Y_res (r_assign rfl) rfl ?_
    | refine Y_res (r_eql rfl rfl) rfl ?_
    | refine Y_on rfl rfl ?_
    | refine Y_res (r_len rfl) rfl ?_
    | refine Y_res (r_indexS rfl rfl (by omega) (by first | omega | (simp only [List.length_set, List.length_replicate]; omega))) rfl ?_
    | refine Y_res (r_loadI rfl (by first | omega | (simp only [List.length_set, List.length_replicate]; omega))) rfl ?_
    | refine Y_res (r_extract rfl rfl) rfl ?_
    | refine Y_res (r_pickT rfl rfl) rfl ?_
    | refine Y_splitT rfl rfl (by omega) ?_
    | refine Y_call (g := 26) rfl rfl (fun w1 hM => (center_any 8380416 w1 (by decide)).mono fun e w2 h => ⟨h.1, hM.keep h.2⟩) ?_
  refine XT_ret1 (.inl rfl) Try.results10 rfl (fun w5 h5 => ?_)
  exact ⟨by rw [show ctr 8380416 = -1 by decide]; rfl, h5.chg⟩
end Go.Proofs.Ytoednaebdfohbaa.NRing
