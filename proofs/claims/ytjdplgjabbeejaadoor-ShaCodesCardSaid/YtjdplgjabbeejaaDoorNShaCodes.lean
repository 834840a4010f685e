/- ShaCodes, walked: true at every input. -/
import Derived.Test.YtjdplgjabbeejaaDoorNSha8
namespace Go.Proofs.YtjdplgjabbeejaaDoor.NSha
open Go Go.RowKit Go.Proofs.YtjdplgjabbeejaaDoor.MX Go.Proofs.YtjdplgjabbeejaaDoor.PSha
set_option linter.unusedVariables false
set_option linter.unusedSimpArgs false
set_option linter.unusedVariables false
theorem mac_long (k m : List Int) (h : 64 < k.length) : macS (sumS KS k) m = macS k m := by
  have e : keyS (sumS KS k) = keyS k := by
    have : ¬ 64 < (sumS KS k).length := by rw [sumS_len]; decide
    simp only [keyS, if_pos h, if_neg this]
  simp only [macS, e]
theorem pdf_zeros (x : Int) (k : List Int) (n : Nat) (hx : bits .xor .u8 x 0 = x) (h : k.length + n ≤ 64) : pdf x (k ++ List.replicate n 0) = pdf x k := by
  simp only [pdf, List.map_append, List.map_replicate, hx, List.append_assoc, List.replicate_append_replicate, List.length_append, List.length_replicate]
  congr 2
  omega
theorem mac_zeros (k m : List Int) (n : Nat) (h : k.length + n ≤ 64) : macS (k ++ List.replicate n 0) m = macS k m := by
  have e : keyS k = k := by rw [keyS, if_neg (by omega)]
  have e2 : keyS (k ++ List.replicate n 0) = k ++ List.replicate n 0 := by rw [keyS, if_neg (by simp; omega)]
  simp only [macS, e, e2, pdf_zeros 92 k n (by decide +kernel) h, pdf_zeros 54 k n (by decide +kernel) h]
set_option maxHeartbeats 2000000 in
theorem codes_any (k : List Int) (A : Option Addr) (c : Nat) (m : List Int) (A2 : Option Addr) (c2 : Nat) (x : Int) (w : World) (hr : Rds w A c .u8 k) (hk_ : ∀ n ∈ k, (Lit.int .u8 n).wf = true) (hr2 : Rds w A2 c2 .u8 m) (hm_ : ∀ n ∈ m, (Lit.int .u8 n).wf = true) (hx : (Lit.int .i64 x).wf = true) (hK : KAt KS w) :
    Calls Tryd.prog 7 #[.slice A k.length c, .slice A2 m.length c2, .int .i64 x] w fun e w' => e = .returned (.bool true) ∧ Chg (fun _ => False) w w' := by
  have hw0 := hK.pos
  have hmc := hr.le
  have hkc := hr2.le
  refine calls_of_X (Rr := Says w (.bool true)) (vs := [_, _, _]) (M := Hp w (fun _ => False) []) Tryd.func7 rfl Tryd.ntmps7 rfl (Hp.nil _ _) ?_
  repeat first
    | refine XC_region ?_
    | refine X_nil ?_
    | refine XC_condF rfl ?_
    | refine XC_seq ?_
    | refine XT_seq ?_
    | refine XC_skip ?_
    | refine Y_res (r_move rfl) rfl ?_
    | refine Y_res (r_assign rfl) rfl ?_
    | refine Y_res (r_gtr rfl rfl) rfl ?_
    | refine Y_res (r_notB rfl) rfl ?_
    | refine Y_res (r_len rfl) rfl ?_
    | refine Y_call (g := 8) rfl rfl (fun w1 hM => (anchor_any w1 (hK.keep hM.chg (fun h => h))).mono fun e w2 h => ⟨h.1, hM.keep h.2⟩) ?_
  refine Y_split rfl rfl (fun h1 => ?_) (fun h1 => ?_)
  · repeat first
      | refine XC_region ?_
      | refine X_nil ?_
      | refine XC_condT rfl ?_
      | refine XC_seq ?_
      | refine XT_seq ?_
      | refine XT_then_ret ?_
      | refine XC_ret ?_
      | refine Y_res (r_move rfl) rfl ?_
      | refine Y_res (r_assign rfl) rfl ?_
      | refine Y_off rfl rfl rfl ?_
      | refine Y_res (r_pickT rfl rfl) rfl ?_
    exact XT_says (.inl rfl) Tryd.results7 rfl rfl
  repeat first
    | refine Y_res (r_move rfl) rfl ?_
    | refine Y_res (r_gtr rfl rfl) rfl ?_
    | refine Y_on rfl rfl ?_
    | refine Y_res (r_len rfl) rfl ?_
    | refine Y_res (r_pickF rfl rfl) rfl ?_
  refine Y_split rfl rfl (fun h2 => ?_) (fun h2 => ?_)
  · repeat first
      | refine XC_region ?_
      | refine X_nil ?_
      | refine XC_condT rfl ?_
      | refine XC_seq ?_
      | refine XT_seq ?_
      | refine XT_then_ret ?_
      | refine XC_ret ?_
      | refine Y_res (r_move rfl) rfl ?_
      | refine Y_res (r_assign rfl) rfl ?_
      | refine Y_off rfl rfl rfl ?_
      | refine Y_res (r_pickT rfl rfl) rfl ?_
    exact XT_says (.inl rfl) Tryd.results7 rfl rfl
  repeat first
    | refine Y_res (r_move rfl) rfl ?_
    | refine Y_res (r_lss rfl rfl) rfl ?_
    | refine Y_on rfl rfl ?_
    | refine Y_res (r_pickF rfl rfl) rfl ?_
  refine Y_split rfl rfl (fun h3 => ?_) (fun h3 => ?_)
  · repeat first
      | refine XC_region ?_
      | refine X_nil ?_
      | refine XC_condT rfl ?_
      | refine XC_seq ?_
      | refine XT_seq ?_
      | refine XT_then_ret ?_
      | refine XC_ret ?_
      | refine Y_res (r_assign rfl) rfl ?_
      | refine Y_off rfl rfl rfl ?_
      | refine Y_res (r_pickT rfl rfl) rfl ?_
    exact XT_says (.inl rfl) Tryd.results7 rfl rfl
  repeat first
    | refine X_nil ?_
    | refine XT_seq ?_
    | refine Y_res (r_move rfl) rfl ?_
    | refine Y_res (r_gtr rfl rfl) rfl ?_
    | refine Y_on rfl rfl ?_
    | refine Y_res (r_pickF rfl rfl) rfl ?_
  refine XC_condP rfl (fun h4 => ?_) (fun h4 => ?_)
  · repeat first
      | refine XC_region ?_
      | refine X_nil ?_
      | refine XC_seq ?_
      | refine XT_seq ?_
      | refine XT_then_ret ?_
      | refine XC_ret ?_
      | refine Y_res (r_assign rfl) rfl ?_
    exact XT_says (.inl rfl) Tryd.results7 rfl rfl
  obtain ⟨n, rfl⟩ : ∃ n : Nat, x = n := ⟨x.toNat, by omega⟩
  repeat first
    | refine XC_region ?_
    | refine XC_seq ?_
    | refine XT_seq ?_
    | refine XC_skip ?_
    | refine Y_res (r_move rfl) rfl ?_
    | refine X_tells (g := 16) (E := 5) (k := .u8) (z := macS k m) rfl rfl (fun w1 hM => mac_any k m _ _ _ _ w1 (hr.old hM old_false) (hr2.old hM old_false) (by omega) (by omega) (hK.keep hM.chg (fun h => h))) ?_
  intro A3 c3 x3 h9
  repeat first
    | refine XC_region ?_
    | refine X_nil ?_
    | refine XC_seq ?_
    | refine XT_seq ?_
    | refine Y_res (r_move rfl) rfl ?_
    | refine Y_res (r_assign rfl) rfl ?_
    | refine Y_res (r_gtr rfl rfl) rfl ?_
    | refine Y_res (r_len rfl) rfl ?_
  refine XC_condP rfl (fun h5 => ?_) (fun h5 => ?_)
  · repeat first
      | refine XC_region ?_
      | refine XC_seq ?_
      | refine Y_res (r_move rfl) rfl ?_
      | refine X_tells (g := 14) (E := 5) (k := .u8) (z := sumS KS k) rfl rfl (fun w1 hM => sum_any KS k _ _ w1 (hr.old hM old_false) (by omega) (hK.keep hM.chg (fun h => h))) ?_
    intro A4 c4 x4 h4
    have hl4 : x4.length = 32 := by rw [h4, sumS_len]
    repeat first
      | refine Y_res (r_move rfl) rfl ?_
      | refine X_tells (g := 16) (E := 5) (k := .u8) (z := macS x4 m) rfl rfl (fun w1 hM => mac_any x4 m _ _ _ _ w1 (rds_sl hM.head) (hr2.old hM old_false) (by omega) (by omega) (hK.keep hM.chg (fun h => h))) ?_
    intro A5 c5 x5 h5
    have e35 : x3 = x5 := by rw [h9, h5, h4, mac_long k m (by omega)]
    repeat first
      | refine X_nil ?_
      | refine XT_seq ?_
      | refine XT_then_ret ?_
      | refine XC_ret ?_
      | refine Y_res (r_assign rfl) rfl ?_
      | refine Y_call (g := 11) rfl rfl (fun w1 hM => (same_any _ _ _ _ _ _ w1 (by first | exact Rds.old (by assumption) hM old_false | exact rds_sl (PkS.has inferInstance hM)) (by first | exact Rds.old (by assumption) hM old_false | exact rds_sl (PkS.has inferInstance hM))).mono fun e w2 h => ⟨h.1, hM.keep h.2⟩) ?_
    exact XT_says (.inl rfl) Tryd.results7 rfl (by rw [decide_eq_true e35])
  repeat first
    | refine XC_region ?_
    | refine X_nil ?_
    | refine XC_seq ?_
    | refine XT_seq ?_
    | refine XC_skip ?_
    | refine Y_res (r_move rfl) rfl ?_
    | refine Y_res (r_add64 rfl rfl (by omega)) rfl ?_
    | refine Y_res (r_gtr rfl rfl) rfl ?_
    | refine Y_res (r_len rfl) rfl ?_
  refine XC_condP rfl (fun h6 => ?_) (fun h6 => ?_)
  · repeat first
      | refine XC_region ?_
      | refine X_nil ?_
      | refine XC_seq ?_
      | refine XT_seq ?_
      | refine XT_then_ret ?_
      | refine XC_ret ?_
      | refine Y_res (r_assign rfl) rfl ?_
    exact XT_says (.inl rfl) Tryd.results7 rfl rfl
  repeat first
    | refine XC_region ?_
    | refine XC_seq ?_
    | refine XT_seq ?_
    | refine XC_skip ?_
    | refine Y_res (r_move rfl) rfl ?_
    | (refine X_make rfl rfl (by omega) (by omega) (by omega) rfl ?_; intro _ _)
  rename_i gz hgz
  have hzl : (List.replicate n (0 : Int)).length = n := List.length_replicate
  obtain ⟨z, hz⟩ : ∃ z, z = List.replicate n (0 : Int) := ⟨_, rfl⟩
  rw [← hz] at hzl ⊢
  refine Y_re (e := 46) (v' := .slice (some ⟨gz, 0, none⟩) z.length n) rfl (by rw [hzl]) ?_
  refine X_tells (g := 18) (E := 5) (k := .u8) (z := k ++ z) rfl rfl (fun w1 hM => join_any k z _ _ _ _ w1 (hr.old hM old_false) (rds_sl hM.head) (by omega) (by omega)) ?_
  intro A4 c4 x4 h4
  have hl4 : x4.length ≤ 64 := by rw [h4, List.length_append]; omega
  repeat first
    | refine Y_res (r_move rfl) rfl ?_
    | refine X_tells (g := 16) (E := 5) (k := .u8) (z := macS x4 m) rfl rfl (fun w1 hM => mac_any x4 m _ _ _ _ w1 (rds_sl hM.head) (hr2.old hM old_false) (by omega) (by omega) (hK.keep hM.chg (fun h => h))) ?_
  intro A5 c5 x5 h5
  have e35 : x3 = x5 := by rw [h9, h5, h4, hz, mac_zeros k m n (by omega)]
  repeat first
    | refine X_nil ?_
    | refine XT_seq ?_
    | refine XC_ret ?_
    | refine Y_res (r_assign rfl) rfl ?_
    | refine Y_call (g := 11) rfl rfl (fun w1 hM => (same_any _ _ _ _ _ _ w1 (by first | exact Rds.old (by assumption) hM old_false | exact rds_sl (PkS.has inferInstance hM)) (by first | exact Rds.old (by assumption) hM old_false | exact rds_sl (PkS.has inferInstance hM))).mono fun e w2 h => ⟨h.1, hM.keep h.2⟩) ?_
  exact XT_says (.inl rfl) Tryd.results7 rfl (by rw [decide_eq_true e35])
end Go.Proofs.YtjdplgjabbeejaaDoor.NSha
