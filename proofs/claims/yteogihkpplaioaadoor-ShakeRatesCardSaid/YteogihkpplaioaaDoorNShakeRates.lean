/- ShakeRates, walked: true at every input. -/
import Derived.Test.YteogihkpplaioaaDoorNShake6
namespace Go.Proofs.YteogihkpplaioaaDoor.NShake
open Go Go.RowKit Go.Proofs.YteogihkpplaioaaDoor.MX Go.Proofs.YteogihkpplaioaaDoor.PShake Go.Proofs.YteogihkpplaioaaDoor.NSame
set_option linter.unusedVariables false
set_option linter.unusedSimpArgs false
set_option maxHeartbeats 4000000 in
set_option maxRecDepth 100000 in
theorem shakeRates_any (wide : Bool) (parts more c : Int) (w : World) (hwp : (Lit.int .i64 parts).wf = true) (hwm : (Lit.int .i64 more).wf = true) (hwc : (Lit.int .u8 c).wf = true) (hK : KAt w) :
    Calls Tryd.prog 6 #[.bool wide, .int .i64 parts, .int .i64 more, .int .u8 c] w fun e w' => e = .returned (.bool true) ∧ Chg (fun _ => False) w w' := by
  have hp64 := wf64 hwp
  have hm64 := wf64 hwm
  have hc8 := wf8 hwc
  have hpos := hK.pos
  refine calls_of_X (Rr := Says w (.bool true)) (vs := [_, _, _, _]) (M := Hp w (fun _ => False) []) Tryd.func6 rfl Tryd.ntmps6 rfl (Hp.nil _ _) ?_
  repeat first
    | refine XC_region ?_
    | refine X_nil ?_
    | refine XC_condF rfl ?_
    | refine XC_seq ?_
    | refine XT_seq ?_
    | refine XC_skip ?_
    | refine Y_res (r_move rfl) rfl ?_
    | refine Y_res (r_assign rfl) rfl ?_
    | refine Y_res (r_lss rfl rfl) rfl ?_
    | refine Y_res (r_notB rfl) rfl ?_
    | refine Y_says (g := 8) rfl rfl (fun w1 hM => anchor_any w1 (hK.keep hM.chg (fun h => h))) ?_
  by_cases q1 : parts < 0
  · repeat first
      | refine XC_region ?_
      | refine X_nil ?_
      | refine XC_condT rfl ?_
      | refine XC_seq ?_
      | refine XT_seq ?_
      | refine XT_then_ret ?_
      | refine XC_ret ?_
      | refine Y_res (r_move rfl) rfl ?_
      | refine Y_res (r_assign rfl) rfl ?_
      | refine Y_off rfl rfl rfl ?_
      | refine Y_res (r_pickT rfl rfl) rfl ?_
      | refine Y_splitT rfl rfl q1 ?_
    exact XT_says (.inl rfl) Tryd.results6 rfl rfl
  by_cases q2 : 5 < parts
  · repeat first
      | refine XC_region ?_
      | refine X_nil ?_
      | refine XC_condT rfl ?_
      | refine XC_seq ?_
      | refine XT_seq ?_
      | refine XT_then_ret ?_
      | refine XC_ret ?_
      | refine Y_res (r_move rfl) rfl ?_
      | refine Y_res (r_assign rfl) rfl ?_
      | refine Y_res (r_gtr rfl rfl) rfl ?_
      | refine Y_on rfl rfl ?_
      | refine Y_off rfl rfl rfl ?_
      | refine Y_res (r_pickT rfl rfl) rfl ?_
      | refine Y_res (r_pickF rfl rfl) rfl ?_
      | refine Y_splitF rfl rfl q1 ?_
      | refine Y_splitT rfl rfl q2 ?_
    exact XT_says (.inl rfl) Tryd.results6 rfl rfl
  by_cases q3 : more < -3
  · repeat first
      | refine XC_region ?_
      | refine X_nil ?_
      | refine XC_condT rfl ?_
      | refine XC_seq ?_
      | refine XT_seq ?_
      | refine XT_then_ret ?_
      | refine XC_ret ?_
      | refine Y_res (r_move rfl) rfl ?_
      | refine Y_res (r_assign rfl) rfl ?_
      | refine Y_res (r_lss rfl rfl) rfl ?_
      | refine Y_res (r_gtr rfl rfl) rfl ?_
      | refine Y_on rfl rfl ?_
      | refine Y_off rfl rfl rfl ?_
      | refine Y_res (r_pickT rfl rfl) rfl ?_
      | refine Y_res (r_pickF rfl rfl) rfl ?_
      | refine Y_splitF rfl rfl q1 ?_
      | refine Y_splitF rfl rfl q2 ?_
      | refine Y_splitT rfl rfl q3 ?_
    exact XT_says (.inl rfl) Tryd.results6 rfl rfl
  by_cases q4 : 3 < more
  · repeat first
      | refine X_nil ?_
      | refine XT_seq ?_
      | refine Y_res (r_move rfl) rfl ?_
      | refine Y_res (r_lss rfl rfl) rfl ?_
      | refine Y_res (r_gtr rfl rfl) rfl ?_
      | refine Y_on rfl rfl ?_
      | refine Y_res (r_pickF rfl rfl) rfl ?_
      | refine Y_splitF rfl rfl q1 ?_
      | refine Y_splitF rfl rfl q2 ?_
      | refine Y_splitF rfl rfl q3 ?_
    refine XC_condP rfl (fun _ => ?_) (fun h => absurd q4 h)
    repeat first
      | refine XC_region ?_
      | refine X_nil ?_
      | refine XC_seq ?_
      | refine XT_seq ?_
      | refine XT_then_ret ?_
      | refine XC_ret ?_
      | refine Y_res (r_assign rfl) rfl ?_
    exact XT_says (.inl rfl) Tryd.results6 rfl rfl
  repeat first
    | refine X_nil ?_
    | refine XT_seq ?_
    | refine Y_res (r_move rfl) rfl ?_
    | refine Y_res (r_lss rfl rfl) rfl ?_
    | refine Y_res (r_gtr rfl rfl) rfl ?_
    | refine Y_on rfl rfl ?_
    | refine Y_res (r_pickF rfl rfl) rfl ?_
    | refine Y_splitF rfl rfl q1 ?_
    | refine Y_splitF rfl rfl q2 ?_
    | refine Y_splitF rfl rfl q3 ?_
  refine XC_condP rfl (fun h => absurd h q4) (fun _ => ?_)
  repeat first
    | refine XC_region ?_
    | refine X_nil ?_
    | refine XC_seq ?_
    | refine XT_seq ?_
    | refine XC_skip ?_
    | refine Y_res (r_move rfl) rfl ?_
    | refine Y_res (r_assign rfl) rfl ?_
  refine XC_mid (ι := Nat × Nat) (fun p => (p.1 = 128 ∧ p.2 = 168) ∨ (p.1 = 256 ∧ p.2 = 136)) (fun p => [(1, .int .i64 parts), (2, .int .i64 more), (3, .int .u8 c), (9, .int .i64 p.1), (10, .int .i64 p.2)]) (fun _ => Hp w (fun _ => False) []) ?_ ?_
  · cases wide
    · repeat first
        | refine XC_condF rfl ?_
        | refine XC_skip ?_
      exact XT_mid (128, 168) (.inl ⟨rfl, rfl⟩) ⟨rfl, rfl, rfl, rfl, rfl, trivial⟩ (fun _ h => h)
    · repeat first
        | refine XC_region ?_
        | refine X_nil ?_
        | refine XC_condT rfl ?_
        | refine Y_res (r_assign rfl) rfl ?_
      exact XT_mid (256, 136) (.inr ⟨rfl, rfl⟩) ⟨rfl, rfl, rfl, rfl, rfl, trivial⟩ (fun _ h => h)
  rintro ⟨size, rate⟩ hsz
  dsimp only at hsz ⊢
  have hrate : Rate rate := by rcases hsz with ⟨_, h⟩ | ⟨_, h⟩; exact .inl h; exact .inr h
  obtain ⟨hr0, hr2⟩ := hrate.bd
  have hpr : 0 ≤ parts * (rate : Int) ∧ parts * (rate : Int) ≤ 1000 := by
    have h1 : parts * (rate : Int) ≤ 5 * 200 := Int.mul_le_mul (by omega) (by omega) (by omega) (by omega)
    have h2 : 0 ≤ parts * (rate : Int) := Int.mul_nonneg (by omega) (by omega)
    omega
  repeat first
    | refine XC_region ?_
    | refine X_nil ?_
    | refine XC_seq ?_
    | refine XT_seq ?_
    | refine Y_res (r_move rfl) rfl ?_
    | refine Y_res (r_assign rfl) rfl ?_
    | refine Y_res (r_add64 rfl rfl (by omega)) rfl ?_
    | refine Y_res (r_mul64 rfl rfl (by omega)) rfl ?_
    | refine Y_res (r_lss rfl rfl) rfl ?_
  refine XC_condP rfl (fun hneg => ?_) (fun hneg => ?_)
  · repeat first
      | refine XC_region ?_
      | refine X_nil ?_
      | refine XC_seq ?_
      | refine XT_seq ?_
      | refine XT_then_ret ?_
      | refine XC_ret ?_
      | refine Y_res (r_assign rfl) rfl ?_
    exact XT_says (.inl rfl) Tryd.results6 rfl rfl
  obtain ⟨n, hn⟩ : ∃ n : Nat, parts * (rate : Int) + more = n := ⟨(parts * (rate : Int) + more).toNat, by omega⟩
  have hn2 : n ≤ 1003 := by omega
  rw [hn]
  repeat first
    | refine XC_region ?_
    | refine XC_seq ?_
    | refine XT_seq ?_
    | refine XC_skip ?_
    | refine Y_res (r_move rfl) rfl ?_
  refine X_call (g := 14) rfl rfl (fun w1 h1 => (new_any _ w1 (by omega)).mono ?_)
  rintro e w2 ⟨g, rfl, hg, h2, hc2⟩
  rw [show (if (size : Int) = 128 then 168 else 136) = rate by rcases hsz with ⟨rfl, rfl⟩ | ⟨rfl, rfl⟩ <;> rfl] at h2
  have hgw : w.heap.size ≤ g := Nat.le_trans h1.chg.size hg
  refine ⟨_, rfl, _, h1.add hc2 h2 (fun k hk => by rw [show k = g from hk]; exact hg), ?_⟩
  clear h1 h2 hc2
  repeat first
    | refine XC_region ?_
    | refine X_nil ?_
    | refine XC_condF rfl ?_
    | refine XC_seq ?_
    | refine XT_seq ?_
    | refine XC_block ?_
    | refine XC_skip ?_
    | refine Y_res (r_move rfl) rfl ?_
    | refine Y_res (r_assign rfl) rfl ?_
    | refine Y_res (r_eqlNil rfl rfl) rfl ?_
    | refine Y_res (r_len rfl) rfl ?_
    | (refine X_make rfl rfl (by omega) (by omega) (by omega) rfl ?_; intro _ _)
  rename_i go hgo
  -- what is written, byte by byte
  obtain ⟨B, hB⟩ : ∃ B : Nat → List Int, B = fun i => List.replicate i c ++ List.replicate (n - i) 0 := ⟨_, rfl⟩
  have hBl : ∀ i, i ≤ n → (B i).length = n := fun i hi => by rw [hB]; simp; omega
  have hB0 : B 0 = List.replicate n 0 := by rw [hB]; simp
  have hBn : B n = List.replicate n c := by rw [hB]; simp
  have hBs : ∀ i, i < n → (B i).set i c = B (i + 1) := fun i hi => by
    rw [hB]
    dsimp only
    obtain ⟨m, hm⟩ : ∃ m, n - i = m + 1 := ⟨n - i - 1, by omega⟩
    rw [hm, show n - (i + 1) = m by omega, List.set_append_right _ _ (by simp), List.length_replicate, Nat.sub_self, List.replicate_succ, List.set_cons_zero, List.replicate_succ', List.append_assoc]
    rfl
  have hBt : ∀ i, i < n → ((B (i + 1)).take (i + 1)).drop i = [c] := fun i hi => by
    rw [hB]
    dsimp only
    rw [List.take_append_of_le_length (by simp), List.take_of_length_le (by simp), List.replicate_succ', List.drop_append_of_le_length (by simp), List.drop_of_length_le (by simp)]
    rfl
  have hBl := Lib.hid hBl
  have hBs := Lib.hid hBs
  have hBt := Lib.hid hBt
  rw [← hB0]
  refine XC_loop (ι := Nat) (fun i => i ≤ n) (fun i => [(3, .int .u8 c), (10, .int .i64 rate), (12, .pointer (some ⟨g, 0, none⟩)), (13, .slice (some ⟨go, 0, none⟩) n n), (48, .int .i64 n), (49, .int .i64 i)])
    (fun i => Hp w (fun _ => False) [Ch.sl (some ⟨go, 0, none⟩) n 5 .u8 (B i), SpW g rate (List.replicate i c)]) (fun i => n - i) 0 (Nat.zero_le _) ⟨rfl, rfl, rfl, rfl, rfl, rfl, trivial⟩ (fun _ h => h) ?_
  intro i hi
  have hbl := hBl.out i hi
  repeat first
    | refine XC_region ?_
    | refine X_nil ?_
    | refine XC_seq ?_
    | refine XT_seq ?_
    | refine Y_res (r_lss rfl rfl) rfl ?_
  refine XC_condP rfl (fun hlt => ?_) (fun hge => ?_)
  · have hi2 : i < n := by omega
    have hbl2 := hBl.out (i + 1) hi2
    have hbs := hBs.out i hi2
    have hbt := hBt.out i hi2
    have e1 : i + 1 - i = [c].length := by show i + 1 - i = 1; omega
    repeat first
      | refine XC_region ?_
      | refine X_nil ?_
      | refine XC_seq ?_
      | refine XT_seq ?_
      | refine XC_block ?_
      | refine XC_skip ?_
      | refine Y_res (r_move rfl) rfl ?_
      | refine Y_res (r_assign rfl) rfl ?_
      | refine Y_res (r_add64 rfl rfl (by omega)) rfl ?_
      | refine Y_res (r_indexS rfl rfl (by omega) (by first | omega | (simp only [List.length_set, List.length_replicate]; omega))) rfl ?_
      | refine Y_res (r_cutLH rfl rfl rfl (by omega) (by omega)) rfl ?_
      | refine X_storeI rfl rfl (by first | omega | (simp only [List.length_set, List.length_replicate]; omega)) ?_
    rw [hbs]
    refine Y_re (e := 61) (v' := .slice (cutA (some ⟨go, 0, none⟩) i n 1) [c].length (n - i)) rfl (by rw [e1]) ?_
    refine X_call (g := 15) rfl rfl (fun w1 h1 => (write_any g rate (List.replicate i c) [c] (cutA (some ⟨go, 0, none⟩) i n 1) (n - i) w1 h1.tail.head (by rw [← hbt]; exact (rds_sl h1.head).cut i (i + 1) (by omega) (by omega)) (fun x hx => by rw [List.mem_singleton.1 hx]; exact hwc) (fun _ => old_cut (fun ad e => by injection e with e; subst e; exact h1.ne (i := go) (j := g) rfl rfl)) hrate (hK.keep h1.chg (fun h => h)) (by omega)).mono ?_)
    rintro e w2 ⟨rfl, h2, hc2⟩
    rw [← List.replicate_succ'] at h2
    refine ⟨_, rfl, _, (h1.swap.turn hc2 h2 (fun k hk => .inl hk)).swap, ?_⟩
    clear h1 h2 hc2
    repeat first
      | refine XC_region ?_
      | refine X_nil ?_
      | refine XC_condF rfl ?_
      | refine XT_seq ?_
      | refine XT_block_normal ?_
      | refine XC_skip ?_
      | refine Y_res (r_move rfl) rfl ?_
      | refine Y_res (r_add64 rfl rfl (by omega)) rfl ?_
      | refine Y_res (r_notB rfl) rfl ?_
    exact XT_round (i + 1) (by omega) (by omega) ⟨rfl, rfl, rfl, rfl, rfl, rfl, trivial⟩ (fun _ h => h)
  obtain rfl : i = n := by omega
  rw [hBn]
  clear hBl hBs hBt hbl hBn hB0
  have hwr : ∀ x ∈ List.replicate i c, (Lit.int .u8 x).wf = true := fun x hx => by rw [(List.mem_replicate.1 hx).2]; exact hwc
  have hrl : (List.replicate i c).length = i := List.length_replicate
  obtain ⟨z, hz⟩ : ∃ z, z = List.replicate i c := ⟨_, rfl⟩
  rw [← hz] at hwr hrl ⊢
  repeat first
    | refine XC_region ?_
    | refine XC_seq ?_
    | refine XT_seq ?_
    | refine XT_block_same rfl ?_
    | refine XT_then_exit ?_
    | refine XC_exit ?_
    | refine Y_res (r_move rfl) rfl ?_
  refine Y_re (e := 66) (v' := .slice (some ⟨go, 0, none⟩) z.length i) rfl (by rw [hrl]) ?_
  refine X_tells (g := 17) (vs := [_, _, .int .i64 ((200 : Nat) : Int)]) rfl rfl (fun w1 hM => rsum_any rate z _ _ 200 w1 (by first | exact Rds.old (by assumption) hM old_false | exact rds_sl (PkS.has inferInstance hM)) hwr (by omega) (by decide) hrate) ?_
  intro A1 c1 x1 h1
  obtain ⟨f, hf⟩ : ∃ f, f = sq rate z := ⟨_, rfl⟩
  have hph := phase_0 hrate z
  rw [← hf] at h1 hph
  repeat first
    | refine XC_region ?_
    | refine X_nil ?_
    | refine XC_seq ?_
    | refine XT_seq ?_
    | refine XC_block ?_
    | refine Y_res (r_move rfl) rfl ?_
    | refine Y_res (r_assign rfl) rfl ?_
  refine XC_mem (M' := Hp w (fun _ => False) [Ch.sl none 0 5 .u8 [], SpA g rate (absb rate z).1 (absb rate z).2 false, Ch.sl A1 c1 5 .u8 x1]) (fun _ h => (((h.swap.tail).swap).nilS)) ?_
  refine XC_loop (ι := Nat × (List Int × Nat × Bool × Nat × Nat) × Option Addr × Nat) (fun p => p.1 ≤ 200 ∧ Phase rate f p.2.1.1 p.2.1.2.1 p.2.1.2.2.1 p.2.1.2.2.2.1 p.2.1.2.2.2.2 ∧ p.2.1.2.2.2.1 * rate + p.2.1.2.2.2.2 = p.1)
    (fun p => [(12, .pointer (some ⟨g, 0, none⟩)), (15, .slice A1 x1.length c1), (16, .slice p.2.2.1 (outs rate f 0 p.1).length p.2.2.2), (68, .int .i64 p.1)])
    (fun p => Hp w (fun _ => False) [Ch.sl p.2.2.1 p.2.2.2 5 .u8 (outs rate f 0 p.1), SpA g rate p.2.1.1 p.2.1.2.1 p.2.1.2.2.1, Ch.sl A1 c1 5 .u8 x1]) (fun p => 200 - p.1) (0, ((absb rate z).1, (absb rate z).2, false, 0, 0), none, 0) ⟨Nat.zero_le _, hph, by dsimp only; omega⟩ ⟨rfl, rfl, rfl, rfl, trivial⟩ (fun _ h => h) ?_
  rintro ⟨k, ⟨s, a, b, q, r⟩, Ag, cg⟩ ⟨hk, hph2, hqr⟩
  dsimp only at hk hph2 hqr ⊢
  have hol := outs_len rate f 0 k
  repeat first
    | refine XC_region ?_
    | refine X_nil ?_
    | refine XC_seq ?_
    | refine XT_seq ?_
    | refine Y_res (r_lss rfl rfl) rfl ?_
  refine XC_condP rfl (fun hlt => ?_) (fun hge => ?_)
  · repeat first
      | refine XC_region ?_
      | refine XC_seq ?_
      | refine XT_seq ?_
      | refine XC_block ?_
      | refine XC_skip ?_
      | refine Y_res (r_move rfl) rfl ?_
    refine X_call (g := 16) (vs := [_, .int .i64 ((1 : Nat) : Int)]) rfl rfl (fun w1 h1 => (read_any g rate f s a q r 1 b w1 h1.tail.head hph2 (by decide) hrate (hK.keep h1.chg (fun h => h)) (by omega)).mono ?_)
    rintro e w2 ⟨A3, c3, q3, r3, rfl, h2, hqr3, hr3, hlf⟩
    have h3 := h1.swap.frame h2
    rw [hqr] at h3 hqr3
    have hone : outs rate f 0 (k + 1) = outs rate f 0 k ++ outs rate f k 1 := by
      rw [outs, List.range_succ, List.map_append]
      congr 1
      show [str rate f (0 + k)] = [str rate f (k + 0)]
      rw [Nat.zero_add, Nat.add_zero]
    have hl1 := outs_len rate f k 1
    refine ⟨_, rfl, _, h3, ?_⟩
    clear h1 h2 h3
    obtain ⟨y, hy⟩ : ∃ y, y = outs rate f k 1 := ⟨_, rfl⟩
    rw [← hy] at hone hl1 ⊢
    refine Y_re (e := 72) (v' := .slice A3 y.length c3) rfl (by rw [hl1]) ?_
    simp only [List.cons_append, List.nil_append]
    repeat first
      | refine XC_region ?_
      | refine X_nil ?_
      | refine XT_seq ?_
      | refine XT_block_normal ?_
      | refine Y_res (r_move rfl) rfl ?_
      | refine Y_res (r_assign rfl) rfl ?_
      | refine Y_res (r_add64 rfl rfl (by omega)) rfl ?_
      | (refine X_append rfl rfl (fun w_ hM => (by first | exact Rds.old (by assumption) hM old_false | exact rds_sl (PkS.has inferInstance hM))) rfl rfl rfl (by omega) (by omega) rfl ?_; intro _ _)
    rename_i A4 c4
    refine XT_round (k + 1, (permN f q3, r3, true, q3, r3), A4, c4) ⟨by dsimp only; omega, by unfold Phase; rw [if_pos rfl]; exact ⟨rfl, rfl, hr3, hlf⟩, hqr3⟩ (by dsimp only; omega) ⟨rfl, rfl, by rw [hone]; rfl, rfl, trivial⟩ (fun _ h => by rw [hone]; exact h.tail.swap)
  · obtain rfl : k = 200 := by omega
    have e : outs rate f 0 200 = x1 := h1.symm
    obtain ⟨y, hy⟩ : ∃ y, y = outs rate f 0 200 := ⟨_, rfl⟩
    rw [← hy] at e ⊢
    repeat first
      | refine XC_region ?_
      | refine X_nil ?_
      | refine XC_seq ?_
      | refine XT_seq ?_
      | refine XT_block_same rfl ?_
      | refine XT_then_exit ?_
      | refine XC_exit ?_
      | refine XC_ret ?_
      | refine Y_res (r_move rfl) rfl ?_
      | refine Y_res (r_assign rfl) rfl ?_
      | refine Y_says (g := 11) rfl rfl (fun w1 hM => same_any _ _ _ _ _ _ w1 (by first | exact Rds.old (by assumption) hM old_false | exact rds_sl (PkS.has inferInstance hM)) (by first | exact Rds.old (by assumption) hM old_false | exact rds_sl (PkS.has inferInstance hM))) ?_
    exact XT_says (.inl rfl) Tryd.results6 rfl (by rw [decide_eq_true e])
end Go.Proofs.YteogihkpplaioaaDoor.NShake
