/- The reference's code of a message under a key, walked. -/
import Derived.Test.YtjdplgjabbeejaaDoorNSha7
namespace Go.Proofs.YtjdplgjabbeejaaDoor.NSha
open Go Go.RowKit Go.Proofs.YtjdplgjabbeejaaDoor.MX Go.Proofs.YtjdplgjabbeejaaDoor.PSha
set_option linter.unusedVariables false
set_option linter.unusedSimpArgs false
set_option linter.unusedVariables false
theorem hp_hd {w0 w : World} {S : Nat → Prop} {c : Ch} {cs : List Ch} (h : Hp w0 S (c :: cs) w) : Hp w0 S [c] w := ⟨h.chg, fun x hx => h.sat x (by simp at hx; simp [hx]), fun x hx => h.own x (by simp at hx; simp [hx]), List.pairwise_singleton _ _⟩
theorem xor_comm8 (a b : Int) : bits .xor .u8 a b = bits .xor .u8 b a := by simp only [bits, BitVec.xor_comm]
def pdr (x : Int) (k : List Int) : List Int := (k ++ List.replicate (64 - k.length) 0).map (fun c => bits .xor .u8 c x)
theorem pdr_eq (x : Int) (k : List Int) (h : bits .xor .u8 0 x = x) : pdr x k = pdf x k := by
  simp only [pdr, pdf, List.map_append, List.map_replicate, h]
  congr 1
  exact List.map_congr_left fun c _ => xor_comm8 c x
theorem x54 : bits .xor .u8 0 54 = 54 := by decide +kernel
theorem x92 : bits .xor .u8 0 92 = 92 := by decide +kernel
set_option maxHeartbeats 1000000 in
theorem join_any (a b : List Int) (A A2 : Option Addr) (c c2 : Nat) (w : World) (hr : Rds w A c .u8 a) (hr2 : Rds w A2 c2 .u8 b) (ha : a.length ≤ 10000) (hb : b.length ≤ 10000) :
    Calls Tryd.prog 18 #[.slice A a.length c, .slice A2 b.length c2] w (Tells 5 .u8 w (a ++ b)) := by
  have hkc := hr.le
  have hmc := hr2.le
  refine calls_of_X (vs := [_, _]) (M := Hp w (fun _ => False) []) Tryd.func18 rfl Tryd.ntmps18 rfl (Hp.nil _ _) ?_
  repeat first
    | refine XC_region ?_
    | refine X_nil ?_
    | refine XC_seq ?_
    | refine XT_seq ?_
    | refine XC_ret ?_
    | refine Y_res (r_move rfl) rfl ?_
    | refine Y_res (r_assign rfl) rfl ?_
    | (refine X_buildS (by rfl) (by rfl) (by simp) rfl ?_; intro _ _)
    | (refine X_appendI rfl rfl (fun w_ hM => (by first | exact Rds.old (by assumption) hM old_false | exact rds_sl (PkS.has inferInstance hM))) rfl rfl rfl (by first | omega | (simp only [List.length_nil]; omega)) (by first | omega | (simp only [List.length_nil]; omega)) rfl ?_; intro _ _; try simp only [List.nil_append])
    | (refine X_append rfl rfl (fun w_ hM => (by first | exact Rds.old (by assumption) hM old_false | exact rds_sl (PkS.has inferInstance hM))) rfl rfl rfl (by omega) (by omega) rfl ?_; intro _ _)
  exact XT_tells (.inl rfl) Tryd.results18 rfl rfl
set_option maxHeartbeats 2000000 in
theorem refmac_any (k m : List Int) (A A2 : Option Addr) (c c2 : Nat) (w : World) (hr : Rds w A c .u8 k) (hr2 : Rds w A2 c2 .u8 m) (hk : k.length ≤ 10000) (hm : m.length ≤ 10000) :
    Calls Tryd.prog 17 #[.slice A k.length c, .slice A2 m.length c2] w (Tells 5 .u8 w (macS k m)) := by
  have hkc := hr.le
  have hmc := hr2.le
  refine calls_of_X (vs := [_, _]) (M := Hp w (fun _ => False) []) Tryd.func17 rfl Tryd.ntmps17 rfl (Hp.nil _ _) ?_
  repeat first
    | refine XC_region ?_
    | refine X_nil ?_
    | refine XC_seq ?_
    | refine XT_seq ?_
    | refine Y_res (r_move rfl) rfl ?_
    | refine Y_res (r_assign rfl) rfl ?_
    | refine Y_res (r_gtr rfl rfl) rfl ?_
    | refine Y_res (r_len rfl) rfl ?_
    | (refine X_buildS (by rfl) (by rfl) (by simp) rfl ?_; intro _ _)
    | (refine X_appendI rfl rfl (fun w_ hM => (by first | exact Rds.old (by assumption) hM old_false | exact rds_sl (PkS.has inferInstance hM))) rfl rfl rfl (by first | omega | (simp only [List.length_nil]; omega)) (by first | omega | (simp only [List.length_nil]; omega)) rfl ?_; intro _ _; try simp only [List.nil_append])
  rename_i A1 c1
  refine XC_mid (ι := List Int × Option Addr × Nat) (fun p => p.1 = keyS k) (fun p => [(1, .slice A2 m.length c2), (5, .slice p.2.1 p.1.length p.2.2)]) (fun p => Hp w (fun _ => False) [Ch.sl p.2.1 p.2.2 5 .u8 p.1]) ?_ ?_
  · refine XC_condP rfl (fun hlong => ?_) (fun hshort => ?_)
    · repeat first
        | refine XC_region ?_
        | refine Y_res (r_move rfl) rfl ?_
        | refine X_tells (g := 13) (E := 5) (k := .u8) (z := sumS KS k) rfl rfl (fun w1 hM => refsum_any k _ _ w1 (by first | exact Rds.old (by assumption) hM old_false | exact rds_sl (PkS.has inferInstance hM)) (by omega)) ?_
      intro A3 c3 x3 h3
      repeat first
        | refine X_nil ?_
        | refine Y_res (r_assign rfl) rfl ?_
      exact XT_mid (x3, A3, c3) (by dsimp only; rw [h3, keyS, if_pos (by omega)]) ⟨rfl, rfl, trivial⟩ (fun _ h => hp_hd h)
    · repeat first
        | refine XC_skip ?_
      exact XT_mid (k, A1, c1) (by dsimp only; rw [keyS, if_neg (by omega)]) ⟨rfl, rfl, trivial⟩ (fun _ h => h)
  rintro ⟨kk, A3, c3⟩ hkk
  dsimp only at hkk ⊢
  have hkl : kk.length ≤ 64 := by rw [hkk]; exact keyS_len k
  repeat first
    | refine XC_seq ?_
    | refine XC_block ?_
  refine XC_loop (ι := Nat × Option Addr × Nat) (fun p => kk.length + p.1 ≤ 64) (fun p => [(1, .slice A2 m.length c2), (5, .slice p.2.1 (kk ++ List.replicate p.1 0).length p.2.2)]) (fun p => Hp w (fun _ => False) [Ch.sl p.2.1 p.2.2 5 .u8 (kk ++ List.replicate p.1 0)]) (fun p => 64 - p.1) (0, A3, c3) (by dsimp only; omega) ⟨rfl, by simp only [List.replicate_zero, List.append_nil]; rfl, trivial⟩ (fun _ h => by simpa using h) ?_
  rintro ⟨n, A4, c4⟩ hn
  dsimp only at hn ⊢
  have hnl : (kk ++ List.replicate n 0).length = kk.length + n := by simp
  repeat first
    | refine XC_region ?_
    | refine X_nil ?_
    | refine XC_seq ?_
    | refine XT_seq ?_
    | refine Y_res (r_move rfl) rfl ?_
    | refine Y_res (r_lss rfl rfl) rfl ?_
    | refine Y_res (r_len rfl) rfl ?_
  refine XC_condP rfl (fun hlt => ?_) (fun hge => ?_)
  · repeat first
      | refine XC_region ?_
      | refine X_nil ?_
      | refine XT_seq ?_
      | refine XC_block ?_
      | refine XT_block_normal ?_
      | refine XC_skip ?_
      | refine Y_res (r_move rfl) rfl ?_
      | refine Y_res (r_assign rfl) rfl ?_
      | (refine X_buildS (by rfl) (by rfl) (by simp) rfl ?_; intro _ _)
      | (refine X_append rfl rfl (fun w_ h_ => rds_ints (Hp.head h_) (by simp) (by decide)) (by rfl) (by rfl) (by rfl) (by first | omega | (simp only [List.length_cons, List.length_nil]; omega)) (by first | omega | (simp only [List.length_cons, List.length_nil]; omega)) rfl ?_; intro _ _)
      | (refine X_append rfl rfl (fun w_ hM => (by first | exact Rds.old (by assumption) hM old_false | exact rds_sl (PkS.has inferInstance hM))) rfl rfl rfl (by omega) (by omega) rfl ?_; intro _ _)
    have en : kk ++ List.replicate n 0 ++ [0] = kk ++ List.replicate (n + 1) 0 := by rw [List.append_assoc, ← List.replicate_succ']
    rw [en]
    exact XT_round (n + 1, _, _) (by dsimp only; omega) (by dsimp only; omega) ⟨rfl, rfl, trivial⟩ (fun _ h => h.tail)
  obtain rfl : n = 64 - kk.length := by omega
  obtain ⟨kz, hkz⟩ : ∃ kz, kz = kk ++ List.replicate (64 - kk.length) 0 := ⟨_, rfl⟩
  rw [← hkz] at hnl ⊢
  repeat first
    | refine XC_region ?_
    | refine X_nil ?_
    | refine XC_seq ?_
    | refine XT_seq ?_
    | refine XC_block ?_
    | refine XT_block_same rfl ?_
    | refine XT_then_exit ?_
    | refine XC_exit ?_
    | refine Y_res (r_assign rfl) rfl ?_
  refine XC_mem (M' := Hp w (fun _ => False) [Ch.sl none 0 5 .u8 [], Ch.sl none 0 5 .u8 [], Ch.sl A4 c4 5 .u8 kz]) (fun _ h => h.nilS.nilS) ?_
  refine XC_loop (ι := Nat × (Option Addr × Nat) × (Option Addr × Nat)) (fun p => p.1 ≤ 64) (fun p => [(1, .slice A2 m.length c2), (5, .slice A4 kz.length c4), (6, .slice p.2.1.1 ((kz.take p.1).map (fun c => bits .xor .u8 c 54)).length p.2.1.2), (7, .slice p.2.2.1 ((kz.take p.1).map (fun c => bits .xor .u8 c 92)).length p.2.2.2), (8, .int .i64 p.1)])
    (fun p => Hp w (fun _ => False) [Ch.sl p.2.2.1 p.2.2.2 5 .u8 ((kz.take p.1).map (fun c => bits .xor .u8 c 92)), Ch.sl p.2.1.1 p.2.1.2 5 .u8 ((kz.take p.1).map (fun c => bits .xor .u8 c 54)), Ch.sl A4 c4 5 .u8 kz]) (fun p => 64 - p.1) (0, (none, 0), (none, 0)) (Nat.zero_le _) ⟨rfl, rfl, rfl, rfl, rfl, trivial⟩ (fun _ h => h) ?_
  rintro ⟨i, ⟨A6, c6⟩, ⟨A7, c7⟩⟩ hi
  dsimp only at hi ⊢
  have h64 : kz.length = 64 := by omega
  repeat first
    | refine XC_region ?_
    | refine X_nil ?_
    | refine XC_seq ?_
    | refine XT_seq ?_
    | refine Y_res (r_move rfl) rfl ?_
    | refine Y_res (r_lss rfl rfl) rfl ?_
  refine XC_condP rfl (fun hlt => ?_) (fun hge => ?_)
  · have hi2 : i < kz.length := by omega
    have hsn : ∀ x : Int, (kz.take i).map (fun c => bits .xor .u8 c x) ++ [bits .xor .u8 (kz.getD i 0) x] = (kz.take (i + 1)).map (fun c => bits .xor .u8 c x) := fun x => by
      rw [List.take_succ_eq_append_getElem hi2, List.map_append]
      simp [List.getD_eq_getElem?_getD, hi2]
    repeat first
      | refine XC_region ?_
      | refine X_nil ?_
      | refine XC_seq ?_
      | refine XT_seq ?_
      | refine XC_block ?_
      | refine XT_block_normal ?_
      | refine XC_skip ?_
      | refine Y_res (r_move rfl) rfl ?_
      | refine Y_res (r_assign rfl) rfl ?_
      | refine Y_res (r_add64 rfl rfl (by omega)) rfl ?_
      | refine Y_res (r_xor rfl rfl) rfl ?_
      | refine Y_res (r_indexS rfl rfl (by omega) (by first | omega | (simp only [List.length_set, List.length_replicate]; omega))) rfl ?_
      | refine Y_res (r_loadI rfl (by first | omega | (simp only [List.length_set, List.length_replicate]; omega))) rfl ?_
      | (refine X_buildS (by rfl) (by rfl) (by simp) rfl ?_; intro _ _)
      | (refine X_append rfl rfl (fun w_ hM => (by first | exact Rds.old (by assumption) hM old_false | exact rds_sl (PkS.has inferInstance hM))) rfl rfl rfl (by first | omega | (simp only [List.length_nil, List.length_map, List.length_take, List.length_cons]; omega)) (by first | omega | (simp only [List.length_nil, List.length_map, List.length_take, List.length_cons]; omega)) rfl ?_; intro _ _; try simp only [List.nil_append])
      | (refine X_append rfl rfl (fun w_ hM => rds_ints hM.head (Nat.le_refl 1) (by decide)) (by rfl) (by rfl) (by rfl) (by simp only [List.length_map, List.length_take, List.length_cons, List.length_nil]; omega) (by simp only [List.length_map, List.length_take, List.length_cons, List.length_nil]; omega) rfl ?_; intro _ _)
    rw [hsn, hsn]
    exact XT_round (i + 1, (_, _), (_, _)) (by dsimp only; omega) (by dsimp only; omega) ⟨rfl, rfl, rfl, rfl, rfl, trivial⟩ (fun _ h => h.tail.tail)
  obtain rfl : i = kz.length := by omega
  have ex : ∀ x, bits .xor .u8 0 x = x → (kz.take kz.length).map (fun c => bits .xor .u8 c x) = pdf x kk := fun x hx => by
    rw [List.take_length, ← pdr_eq x kk hx, hkz]; rfl
  rw [ex 54 x54, ex 92 x92]
  have hp92 := pdf_len 92 kk hkl
  have hp54 := pdf_len 54 kk hkl
  repeat first
    | refine XC_region ?_
    | refine X_nil ?_
    | refine XC_seq ?_
    | refine XT_seq ?_
    | refine XT_block_same rfl ?_
    | refine XT_then_exit ?_
    | refine XC_exit ?_
    | refine Y_res (r_move rfl) rfl ?_
    | refine Y_res (r_assign rfl) rfl ?_
      | (refine X_append rfl rfl (fun w_ hM => (by first | exact Rds.old (by assumption) hM old_false | exact rds_sl (PkS.has inferInstance hM))) rfl rfl rfl (by first | omega | (simp only [List.length_nil, List.length_map, List.length_take, List.length_cons]; omega)) (by first | omega | (simp only [List.length_nil, List.length_map, List.length_take, List.length_cons]; omega)) rfl ?_; intro _ _; try simp only [List.nil_append])
      | refine X_tells (g := 13) (E := 5) (k := .u8) (z := sumS KS (pdf 54 kk ++ m)) rfl rfl (fun w1 hM => refsum_any _ _ _ w1 (rds_sl hM.tail.head) (by rw [List.length_append]; omega)) ?_
  intro A8 c8 x8 h8
  have hx8 : x8.length = 32 := by rw [h8, sumS_len]
  repeat first
    | refine XC_region ?_
    | refine X_nil ?_
    | refine XC_seq ?_
    | refine XT_seq ?_
    | refine Y_res (r_move rfl) rfl ?_
    | refine Y_res (r_assign rfl) rfl ?_
      | (refine X_append rfl rfl (fun w_ hM => (by first | exact Rds.old (by assumption) hM old_false | exact rds_sl (PkS.has inferInstance hM))) rfl rfl rfl (by first | omega | (simp only [List.length_nil, List.length_map, List.length_take, List.length_cons]; omega)) (by first | omega | (simp only [List.length_nil, List.length_map, List.length_take, List.length_cons]; omega)) rfl ?_; intro _ _; try simp only [List.nil_append])
      | refine X_tells (g := 13) (E := 5) (k := .u8) (z := sumS KS (pdf 92 kk ++ x8)) rfl rfl (fun w1 hM => refsum_any _ _ _ w1 (rds_sl hM.tail.head) (by rw [List.length_append]; omega)) ?_
  intro A9 c9 x9 h9
  obtain rfl : x9 = macS k m := by rw [h9, h8, hkk]; rfl
  repeat first
    | refine X_nil ?_
    | refine XT_seq ?_
    | refine XC_ret ?_
    | refine Y_res (r_assign rfl) rfl ?_
  exact XT_tells (.inl rfl) Tryd.results17 rfl rfl
end Go.Proofs.YtjdplgjabbeejaaDoor.NSha
