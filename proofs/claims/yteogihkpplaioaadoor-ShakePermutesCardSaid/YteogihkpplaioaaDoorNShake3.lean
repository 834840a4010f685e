/- What a sponge tells, walked. -/
import Derived.Test.YteogihkpplaioaaDoorNShake2
namespace Go.Proofs.YteogihkpplaioaaDoor.NShake
open Go Go.RowKit Go.Proofs.YteogihkpplaioaaDoor.MX Go.Proofs.YteogihkpplaioaaDoor.PShake
set_option linter.unusedVariables false
set_option linter.unusedSimpArgs false
/-- What a sponge stands at: it was not read from, or so many bytes were read. -/
def Phase (rate : Nat) (f s : List Int) (a : Nat) (b : Bool) (q r : Nat) : Prop := if b = true then s = permN f q ∧ a = r ∧ r ≤ rate ∧ Lns f else f = fin rate (s, a) ∧ q = 0 ∧ r = 0 ∧ Lns s ∧ a < rate
set_option maxHeartbeats 4000000 in
theorem read_any (g rate : Nat) (f s : List Int) (a q r n : Nat) (b : Bool) (w : World) (hb : (SpA g rate s a b).P w) (hph : Phase rate f s a b q r) (hn : n ≤ 65536) (hrate : Rate rate) (hK : KAt w) (hg : g ≠ 0) :
    Calls Tryd.prog 16 #[.pointer (some ⟨g, 0, none⟩), .int .i64 n] w fun e w' => ∃ A cap q' r', e = .returned (.slice A n cap) ∧ Hp w (fun k => k = g) [Ch.sl A cap 5 .u8 (outs rate f (q * rate + r) n), SpA g rate (permN f q') r' true] w' ∧ q' * rate + r' = q * rate + r + n ∧ r' ≤ rate ∧ Lns f := by
  obtain ⟨hr0, hr2⟩ := hrate.bd
  refine calls_of_X (vs := [_, _]) (M := Hp w (fun k => k = g) [SpA g rate s a b]) Tryd.func16 rfl Tryd.ntmps16 rfl (Hp.one hb (fun k hk => hk)) ?_
  unfold SpA
  repeat first
    | refine XC_region ?_
    | refine X_nil ?_
    | refine XC_seq ?_
    | refine XT_seq ?_
    | refine Y_res (r_move rfl) rfl ?_
    | refine Y_res (r_assign rfl) rfl ?_
    | refine Y_res (r_lss rfl rfl) rfl ?_
    | refine Y_res (r_gtr rfl rfl) rfl ?_
    | refine Y_on rfl rfl ?_
    | refine Y_res (r_pickF rfl rfl) rfl ?_
    | refine Y_splitF rfl rfl (by omega) ?_
  refine XC_condP rfl (fun h => absurd h (by omega)) (fun _ => ?_)
  have hsl : s.length = 25 := by
    unfold Phase at hph
    cases b with
    | true => rw [if_pos rfl] at hph; rw [hph.1]; exact (permN_lns hph.2.2.2 q).1
    | false => rw [if_neg (by decide)] at hph; exact hph.2.2.2.1.1
  repeat first
    | refine XC_region ?_
    | refine X_nil ?_
    | refine XC_seq ?_
    | refine XT_seq ?_
    | refine XC_skip ?_
    | refine Y_res (r_move rfl) rfl ?_
    | refine Y_res (r_notB rfl) rfl ?_
    | refine Y_res (r_field' rfl) rfl ?_
    | refine Y_res (r_nilCheck rfl) rfl ?_
    | refine Y_res (r_loadH rfl 2 (by omega) rfl) rfl ?_
  refine XC_mid (ι := Nat × Nat) (fun p => p.1 * rate + p.2 = q * rate + r ∧ p.2 ≤ rate ∧ Lns f) (fun _ => [(0, .pointer (some ⟨g, 0, none⟩)), (1, .int .i64 n)]) (fun p => Hp w (fun k => k = g) [SpA g rate (permN f p.1) p.2 true]) ?_ ?_
  · cases b with
    | true =>
      unfold Phase at hph
      rw [if_pos rfl] at hph
      obtain ⟨rfl, rfl, h3, h4⟩ := hph
      repeat first
        | refine XC_condF rfl ?_
        | refine XC_skip ?_
      exact XT_mid (q, a) ⟨rfl, h3, h4⟩ ⟨rfl, rfl, trivial⟩ (fun _ h => h)
    | false =>
      unfold Phase at hph
      rw [if_neg (by decide)] at hph
      obtain ⟨hf, rfl, rfl, hls, hat⟩ := hph
      repeat first
        | refine XC_region ?_
        | refine XC_condT rfl ?_
        | refine XC_seq ?_
        | refine Y_res (r_move rfl) rfl ?_
        | refine Y_res (r_field' rfl) rfl ?_
        | refine Y_res (r_nilCheck rfl) rfl ?_
        | refine Y_res (r_loadH rfl 0 (by omega) rfl) rfl ?_
        | refine Y_res (r_loadH rfl 1 (by omega) rfl) rfl ?_
      refine X_call (g := 23) rfl rfl (fun w1 h1 => (put_any g s _ _ a _ w1 h1.head hsl (by omega) (by decide)).mono ?_)
      rintro e w2 ⟨rfl, h2, hc2⟩
      refine ⟨_, rfl, _, h1.turn hc2 h2 (fun k hk => .inl hk), ?_⟩
      clear h1 h2 hc2
      have hxl := xorB_lns hls (k := a) (by omega) 31
      obtain ⟨x, hx⟩ : ∃ x, x = xorB s a 31 := ⟨_, rfl⟩
      rw [← hx] at hxl ⊢
      have hl2 := hxl.1
      have hrm : (rate : Int) - 1 = ((rate - 1 : Nat) : Int) := by omega
      repeat first
        | refine XC_region ?_
        | refine X_nil ?_
        | refine XC_seq ?_
        | refine XT_seq ?_
        | refine Y_res (r_move rfl) rfl ?_
        | refine Y_res (r_sub64 rfl rfl (by omega)) rfl ?_
        | refine Y_res (r_field' rfl) rfl ?_
        | refine Y_res (r_nilCheck rfl) rfl ?_
        | refine Y_res (r_loadH rfl 0 (by omega) rfl) rfl ?_
      refine Y_re (e := 28) (v' := .int .i64 ((rate - 1 : Nat) : Int)) rfl (by rw [hrm]) ?_
      refine X_call (g := 23) rfl rfl (fun w1 h1 => (put_any g x _ _ (rate - 1) _ w1 h1.head hl2 (by omega) (by decide)).mono ?_)
      rintro e w2 ⟨rfl, h2, hc2⟩
      refine ⟨_, rfl, _, h1.turn hc2 h2 (fun k hk => .inl hk), ?_⟩
      clear h1 h2 hc2
      have hyl := xorB_lns hxl (k := rate - 1) (by omega) 128
      obtain ⟨y, hy⟩ : ∃ y, y = xorB x (rate - 1) 128 := ⟨_, rfl⟩
      rw [← hy] at hyl ⊢
      have hl3 := hyl.1
      repeat first
        | refine XC_region ?_
        | refine X_nil ?_
        | refine XC_seq ?_
        | refine XT_seq ?_
        | refine Y_res (r_move rfl) rfl ?_
        | refine Y_res (r_field' rfl) rfl ?_
        | refine Y_res (r_nilCheck rfl) rfl ?_
      refine X_call (g := 24) rfl rfl (fun w1 h1 => (permute_any g y _ _ w1 h1.head hl3 (hK.keep h1.chg (fun h => hg h.symm)) hg).mono ?_)
      rintro e w2 ⟨rfl, h2, hc2⟩
      refine ⟨_, rfl, _, h1.turn hc2 h2 (fun k hk => .inl hk), ?_⟩
      clear h1 h2 hc2
      have hfp : perm y = f := by rw [hf, fin, hy, hx]
      have hl4 := perm_lns y
      rw [hfp] at hl4 ⊢
      have hl5 := hl4.1
      repeat first
        | refine XC_region ?_
        | refine X_nil ?_
        | refine XT_seq ?_
        | refine Y_res (r_move rfl) rfl ?_
        | refine Y_res (r_field' rfl) rfl ?_
        | refine Y_res (r_nilCheck rfl) rfl ?_
        | refine X_storeH rfl rfl rfl 1 (by omega) (by simp) ?_
        | refine X_storeH rfl rfl rfl 2 (by omega) (by simp) ?_
      exact XT_mid (0, 0) ⟨by omega, by dsimp only; omega, hl4⟩ ⟨rfl, rfl, trivial⟩ (fun _ h => h)
  · rintro ⟨q1, r1⟩ ⟨he, hr1, hlf⟩
    dsimp only at he hr1 ⊢
    repeat first
      | refine XC_region ?_
      | refine X_nil ?_
      | refine XC_seq ?_
      | refine XT_seq ?_
      | refine XC_block ?_
      | refine Y_res (r_move rfl) rfl ?_
      | refine Y_res (r_assign rfl) rfl ?_
      | (refine X_make rfl rfl (by omega) (by omega) (by omega) rfl ?_; intro _ _)
      | (refine X_make rfl rfl (by omega) (by omega) (by omega) rfl ?_; intro _ _)
    rename_i go hgo
    refine XC_loop (ι := (Nat × Nat × Nat) × Option Addr × Nat) (fun p => p.1.1 ≤ n ∧ p.1.2.1 * rate + p.1.2.2 = q * rate + r + p.1.1 ∧ p.1.2.2 ≤ rate) (fun p => [(0, .pointer (some ⟨g, 0, none⟩)), (42, .int .i64 n), (43, .int .i64 p.1.1), (5, .slice p.2.1 (outs rate f (q * rate + r) p.1.1).length p.2.2)])
      (fun p => Hp w (fun k => k = g) [Ch.sl p.2.1 p.2.2 5 .u8 (outs rate f (q * rate + r) p.1.1), SpA g rate (permN f p.1.2.1) p.1.2.2 true]) (fun p => n - p.1.1) ((0, q1, r1), some ⟨go, 0, none⟩, n) ⟨Nat.zero_le _, he, hr1⟩ ⟨rfl, rfl, rfl, rfl, trivial⟩ (fun _ h => h) ?_
    rintro ⟨⟨i, q2, r2⟩, Ao, co⟩ ⟨hi, he2, hr3⟩
    dsimp only at hi he2 hr3 ⊢
    repeat first
      | refine XC_region ?_
      | refine X_nil ?_
      | refine XC_seq ?_
      | refine XT_seq ?_
      | refine Y_res (r_lss rfl rfl) rfl ?_
    refine XC_condP rfl (fun hlt => ?_) (fun hge => ?_)
    · have hl6 := (permN_lns hlf q2).1
      unfold SpA
      repeat first
        | refine XC_quietF rfl (by kernel_rfl) (by kernel_rfl) drw_hp ?_
        | refine XQ_nil ?_
        | refine XC_seq ?_
        | refine XT_seq ?_
        | refine XC_block ?_
        | refine XC_skip ?_
        | refine Y_res (r_move rfl) rfl ?_
        | refine Y_res (r_eql rfl rfl) rfl ?_
        | refine Y_res (r_field' rfl) rfl ?_
        | refine Y_res (r_nilCheck rfl) rfl ?_
        | refine Y_res (r_loadH rfl 0 (by omega) rfl) rfl ?_
        | refine Y_res (r_loadH rfl 1 (by omega) rfl) rfl ?_
      refine XC_mid (ι := Nat × Nat) (fun p => p.1 * rate + p.2 = q * rate + r + i ∧ p.2 < rate) (fun p => [(0, .pointer (some ⟨g, 0, none⟩)), (42, .int .i64 n), (43, .int .i64 i), (5, .slice Ao (outs rate f (q * rate + r) i).length co)])
        (fun p => Hp w (fun k => k = g) [Ch.sl Ao co 5 .u8 (outs rate f (q * rate + r) i), SpA g rate (permN f p.1) p.2 true]) ?_ ?_
      · refine XC_condP rfl (fun h3 => ?_) (fun h3 => ?_)
        · repeat first
            | refine XC_region ?_
            | refine XC_seq ?_
            | refine Y_res (r_move rfl) rfl ?_
            | refine Y_res (r_field' rfl) rfl ?_
            | refine Y_res (r_nilCheck rfl) rfl ?_
          refine X_call (g := 24) rfl rfl (fun w1 h1 => (permute_any g (permN f q2) _ _ w1 h1.tail.head hl6 (hK.keep h1.chg (fun h => hg h.symm)) hg).mono ?_)
          rintro e w2 ⟨rfl, h2, hc2⟩
          refine ⟨_, rfl, _, (h1.swap.turn hc2 h2 (fun k hk => .inl hk)).swap, ?_⟩
          clear h1 h2 hc2
          have hl7 := perm_len (permN f q2)
          repeat first
            | refine XC_region ?_
            | refine X_nil ?_
            | refine XT_seq ?_
            | refine Y_res (r_move rfl) rfl ?_
            | refine Y_res (r_field' rfl) rfl ?_
            | refine Y_res (r_nilCheck rfl) rfl ?_
            | refine X_storeH rfl rfl rfl 1 (by omega) (by simp) ?_
          exact XT_mid (q2 + 1, 0) ⟨by dsimp only; rw [Nat.add_mul]; omega, hr0⟩ ⟨rfl, rfl, rfl, rfl, trivial⟩ (fun _ h => h)
        · repeat first
            | refine XC_skip ?_
          exact XT_mid (q2, r2) ⟨he2, by dsimp only; omega⟩ ⟨rfl, rfl, rfl, rfl, trivial⟩ (fun _ h => h)
      · rintro ⟨q3, r3⟩ ⟨he3, hr4⟩
        dsimp only at he3 hr4 ⊢
        have hl8 := (permN_lns hlf q3).1
        have hol := outs_len rate f (q * rate + r) i
        have hsn := outs_snoc f (q * rate + r) i q3 r3 hr4 he3
        unfold SpA
        repeat first
          | refine XC_region ?_
          | refine XC_hoist [0] [1, 2, 3, 4, 5, 6, 7, 8, 9, 10, 11, 12, 13, 14, 15, 16, 17, 18] [] 19 (by kernel_rfl) (by decide +kernel) drw_hp rfl rfl rfl rfl ?_
          | refine X_nil ?_
          | refine XQ_nilX ?_
          | refine XQ_nilH ?_
          | refine XT_only ?_
          | refine XC_seq ?_
          | refine XT_seq ?_
          | refine XT_block_normal ?_
          | refine Y_res (r_move rfl) rfl ?_
          | refine Y_res (r_assign rfl) rfl ?_
          | refine Y_res (r_add64 rfl rfl (by omega)) rfl ?_
          | refine Y_res (r_mul64 rfl rfl (by omega)) rfl ?_
          | refine Y_res (r_rem rfl rfl (by omega)) rfl ?_
          | refine Y_res (r_quo rfl rfl (by omega)) rfl ?_
          | refine Y_res (r_conv8 rfl) rfl ?_
          | refine Y_res (r_indexA0 rfl rfl (by omega)) rfl ?_
          | refine Y_res (r_field' rfl) rfl ?_
          | refine Y_res (r_nilCheck rfl) rfl ?_
          | refine Y_res (r_loadI rfl (by first | omega | (simp only [List.length_set, List.length_replicate]; omega))) rfl ?_
          | (refine X_buildS (by rfl) (by rfl) (by simp) rfl ?_; intro _ _)
          | (refine X_append rfl rfl (fun w_ h_ => rds_ints (Hp.head h_) (by simp) (by decide)) (by rfl) (by rfl) (by rfl) (by first | omega | (simp only [List.length_cons, List.length_nil]; omega)) (by first | omega | (simp only [List.length_cons, List.length_nil]; omega)) rfl ?_; intro _ _)
          | refine Y_res (r_loadH rfl 1 (by omega) rfl) rfl ?_
          | refine Y_res (r_shrV (s := 8 * (r3 % 8)) rfl rfl (by omega) (by simp only [IntKind.bits]; omega)) rfl ?_
          | refine X_storeH rfl rfl rfl 1 (by omega) (by simp) ?_
        rename_i gb hgb A9 c9
        exact XT_round ((i + 1, q3, r3 + 1), A9, c9) ⟨by dsimp only; omega, by dsimp only; omega, by dsimp only; omega⟩ (by dsimp only; omega) ⟨rfl, rfl, rfl, by rw [hsn]; rfl, trivial⟩ (fun _ h => by rw [hsn]; exact h.tail)
    · obtain rfl : i = n := by omega
      repeat first
        | refine XC_region ?_
        | refine X_nil ?_
        | refine XC_seq ?_
        | refine XT_seq ?_
        | refine XT_block_same rfl ?_
        | refine XT_then_exit ?_
        | refine XC_exit ?_
        | refine XC_ret ?_
        | refine Y_res (r_move rfl) rfl ?_
        | refine Y_res (r_assign rfl) rfl ?_
      exact XT_ret1 (.inl rfl) Tryd.results16 rfl (fun w' h => ⟨Ao, co, q2, r2, by rw [outs_len], h, by omega, hr3, hlf⟩)
set_option maxHeartbeats 1000000 in
theorem read_bad (g : Nat) (n : Int) (w : World) (hn : ¬ (0 ≤ n ∧ n ≤ 65536)) : Calls Tryd.prog 16 #[.pointer (some ⟨g, 0, none⟩), .int .i64 n] w (Says w (.slice none 0 0)) := by
  refine calls_of_X (vs := [_, _]) (M := Hp w (fun _ => False) []) Tryd.func16 rfl Tryd.ntmps16 rfl (Hp.nil _ _) ?_
  by_cases h0 : n < 0
  · repeat first
      | refine XC_region ?_
      | refine X_nil ?_
      | refine XC_condT rfl ?_
      | refine XC_seq ?_
      | refine XT_seq ?_
      | refine XT_then_ret ?_
      | refine XC_ret ?_
      | refine Y_res (r_move rfl) rfl ?_
      | refine Y_res (r_assign rfl) rfl ?_
      | refine Y_res (r_lss rfl rfl) rfl ?_
      | refine Y_off rfl rfl rfl ?_
      | refine Y_res (r_pickT rfl rfl) rfl ?_
      | refine Y_splitT rfl rfl h0 ?_
    exact XT_says (.inl rfl) Tryd.results16 rfl rfl
  · repeat first
      | refine XC_region ?_
      | refine X_nil ?_
      | refine XC_seq ?_
      | refine XT_seq ?_
      | refine Y_res (r_move rfl) rfl ?_
      | refine Y_res (r_assign rfl) rfl ?_
      | refine Y_res (r_lss rfl rfl) rfl ?_
      | refine Y_res (r_gtr rfl rfl) rfl ?_
      | refine Y_on rfl rfl ?_
      | refine Y_res (r_pickF rfl rfl) rfl ?_
      | refine Y_splitF rfl rfl h0 ?_
    refine XC_condP rfl (fun _ => ?_) (fun h => absurd (show (65536 : Int) < n by omega) h)
    repeat first
      | refine XC_region ?_
      | refine X_nil ?_
      | refine XC_seq ?_
      | refine XT_seq ?_
      | refine XT_then_ret ?_
      | refine XC_ret ?_
      | refine Y_res (r_assign rfl) rfl ?_
    exact XT_says (.inl rfl) Tryd.results16 rfl rfl
theorem phase_0 {rate : Nat} (h : Rate rate) (m : List Int) : Phase rate (sq rate m) (absb rate m).1 (absb rate m).2 false 0 0 := by
  unfold Phase
  rw [if_neg (by decide)]
  have := absb_ok h.bd m
  exact ⟨rfl, rfl, rfl, this.1, this.2⟩
set_option maxHeartbeats 2000000 in
theorem sum_any (size rate : Nat) (b : List Int) (A : Option Addr) (c : Nat) (n : Nat) (w : World) (hr : Rds w A c .u8 b) (hwf : ∀ n ∈ b, (Lit.int .u8 n).wf = true) (hsz : (size = 128 ∧ rate = 168) ∨ (size = 256 ∧ rate = 136)) (hn : n ≤ 65536) (hK : KAt w) :
    Calls Tryd.prog 22 #[.int .i64 size, .slice A b.length c, .int .i64 n] w (Tells 5 .u8 w (outs rate (sq rate b) 0 n)) := by
  have hrate : Rate rate := by rcases hsz with ⟨_, h⟩ | ⟨_, h⟩; exact .inl h; exact .inr h
  have hpos := hK.pos
  refine calls_of_X (vs := [_, _, _]) (M := Hp w (fun _ => False) []) Tryd.func22 rfl Tryd.ntmps22 rfl (Hp.nil _ _) ?_
  repeat first
    | refine XC_region ?_
    | refine X_nil ?_
    | refine XC_seq ?_
    | refine XT_seq ?_
    | refine Y_res (r_move rfl) rfl ?_
    | refine Y_res (r_assign rfl) rfl ?_
  refine X_call (g := 14) rfl rfl (fun w1 h1 => (new_any _ w1 (by omega)).mono ?_)
  rintro e w2 ⟨g, rfl, hg, h2, hc2⟩
  rw [show (if (size : Int) = 128 then 168 else 136) = rate by rcases hsz with ⟨rfl, rfl⟩ | ⟨rfl, rfl⟩ <;> rfl] at h2
  have hgw : w.heap.size ≤ g := Nat.le_trans h1.chg.size hg
  refine ⟨_, rfl, _, h1.add hc2 h2 (fun k hk => by rw [show k = g from hk]; exact hg), ?_⟩
  clear h1 h2 hc2
  repeat first
    | refine XC_region ?_
    | refine X_nil ?_
    | refine XC_seq ?_
    | refine XT_seq ?_
    | refine Y_res (r_move rfl) rfl ?_
    | refine Y_res (r_assign rfl) rfl ?_
  refine X_call (g := 15) rfl rfl (fun w1 h1 => (write_any g rate [] b A c w1 h1.head (hr.old h1 old_false) hwf (fun hb ad e e2 => absurd (rds_lt hr hb e) (by rw [e2]; omega)) hrate (hK.keep h1.chg (fun h => h)) (by omega)).mono ?_)
  rintro e w2 ⟨rfl, h2, hc2⟩
  rw [List.nil_append] at h2
  refine ⟨_, rfl, _, h1.turn hc2 h2 (fun k hk => .inl hk), ?_⟩
  clear h1 h2 hc2
  repeat first
    | refine XC_region ?_
    | refine X_nil ?_
    | refine XC_seq ?_
    | refine XT_seq ?_
    | refine Y_res (r_move rfl) rfl ?_
  refine X_call (g := 16) rfl rfl (fun w1 h1 => (read_any g rate (sq rate b) _ _ 0 0 n false w1 h1.head (phase_0 hrate b) hn hrate (hK.keep h1.chg (fun h => h)) (by omega)).mono ?_)
  rintro e w2 ⟨A2, c2, q2, r2, rfl, h2, _, _, _⟩
  rw [Nat.zero_mul] at h2
  refine ⟨_, rfl, Hp w (fun _ => False) [Ch.sl A2 c2 5 .u8 (outs rate (sq rate b) 0 n)], ?_, ?_⟩
  · refine ⟨h1.chg.over h2.chg (fun i hi hk => by omega), fun x hx => h2.sat x (List.mem_cons.2 (.inl (List.mem_singleton.1 hx))), fun x hx k hk => ?_, .cons (by simp) .nil⟩
    rcases h2.own x (List.mem_cons.2 (.inl (List.mem_singleton.1 hx))) k hk with hk | hk
    · exact .inr (by omega)
    · exact .inr (Nat.le_trans h1.chg.size hk)
  · have hol := outs_len rate (sq rate b) 0 n
    clear h1 h2
    generalize outs rate (sq rate b) 0 n = z at hol ⊢
    repeat first
      | refine X_nil ?_
      | refine XT_seq ?_
      | refine XC_ret ?_
      | refine Y_res (r_assign rfl) rfl ?_
    exact XT_tells (.inl rfl) Tryd.results22 rfl (by rw [hol])
set_option maxHeartbeats 1000000 in
theorem sum_bad (size : Nat) (b : List Int) (A : Option Addr) (c : Nat) (n : Int) (w : World) (hr : Rds w A c .u8 b) (hwf : ∀ n ∈ b, (Lit.int .u8 n).wf = true) (hsz : size = 128 ∨ size = 256) (hn : ¬ (0 ≤ n ∧ n ≤ 65536)) (hK : KAt w) :
    Calls Tryd.prog 22 #[.int .i64 size, .slice A b.length c, .int .i64 n] w (Says w (.slice none 0 0)) := by
  obtain ⟨rate, hsz⟩ : ∃ rate, (size = 128 ∧ rate = 168) ∨ (size = 256 ∧ rate = 136) := by rcases hsz with h | h; exact ⟨168, .inl ⟨h, rfl⟩⟩; exact ⟨136, .inr ⟨h, rfl⟩⟩
  have hrate : Rate rate := by rcases hsz with ⟨_, h⟩ | ⟨_, h⟩; exact .inl h; exact .inr h
  have hpos := hK.pos
  refine calls_of_X (vs := [_, _, _]) (M := Hp w (fun _ => False) []) Tryd.func22 rfl Tryd.ntmps22 rfl (Hp.nil _ _) ?_
  repeat first
    | refine XC_region ?_
    | refine X_nil ?_
    | refine XC_seq ?_
    | refine XT_seq ?_
    | refine Y_res (r_move rfl) rfl ?_
    | refine Y_res (r_assign rfl) rfl ?_
  refine X_call (g := 14) rfl rfl (fun w1 h1 => (new_any _ w1 (by omega)).mono ?_)
  rintro e w2 ⟨g, rfl, hg, h2, hc2⟩
  rw [show (if (size : Int) = 128 then 168 else 136) = rate by rcases hsz with ⟨rfl, rfl⟩ | ⟨rfl, rfl⟩ <;> rfl] at h2
  have hgw : w.heap.size ≤ g := Nat.le_trans h1.chg.size hg
  refine ⟨_, rfl, _, h1.add hc2 h2 (fun k hk => by rw [show k = g from hk]; exact hg), ?_⟩
  clear h1 h2 hc2
  repeat first
    | refine XC_region ?_
    | refine X_nil ?_
    | refine XC_seq ?_
    | refine XT_seq ?_
    | refine Y_res (r_move rfl) rfl ?_
    | refine Y_res (r_assign rfl) rfl ?_
  refine X_call (g := 15) rfl rfl (fun w1 h1 => (write_any g rate [] b A c w1 h1.head (hr.old h1 old_false) hwf (fun hb ad e e2 => absurd (rds_lt hr hb e) (by rw [e2]; omega)) hrate (hK.keep h1.chg (fun h => h)) (by omega)).mono ?_)
  rintro e w2 ⟨rfl, h2, hc2⟩
  refine ⟨_, rfl, _, h1.turn hc2 h2 (fun k hk => .inl hk), ?_⟩
  clear h1 h2 hc2
  repeat first
    | refine XC_region ?_
    | refine X_nil ?_
    | refine XC_seq ?_
    | refine XT_seq ?_
    | refine XC_ret ?_
    | refine Y_res (r_move rfl) rfl ?_
    | refine Y_res (r_assign rfl) rfl ?_
    | refine Y_says (g := 16) rfl rfl (fun w1 hM => read_bad _ _ w1 hn) ?_
  exact XT_says (.inl rfl) Tryd.results22 rfl rfl
set_option maxHeartbeats 1000000 in
theorem sum128_any (b : List Int) (A : Option Addr) (c : Nat) (n : Nat) (w : World) (hr : Rds w A c .u8 b) (hwf : ∀ n ∈ b, (Lit.int .u8 n).wf = true) (hn : n ≤ 65536) (hK : KAt w) :
    Calls Tryd.prog 9 #[.slice A b.length c, .int .i64 n] w (Tells 5 .u8 w (outs 168 (sq 168 b) 0 n)) := by
  refine calls_of_X (vs := [_, _]) (M := Hp w (fun _ => False) []) Tryd.func9 rfl Tryd.ntmps9 rfl (Hp.nil _ _) ?_
  repeat first
    | refine XC_region ?_
    | refine X_nil ?_
    | refine XC_seq ?_
    | refine XT_seq ?_
    | refine XC_ret ?_
    | refine Y_res (r_move rfl) rfl ?_
    | refine Y_res (r_assign rfl) rfl ?_
    | (refine X_tells (g := 22) rfl rfl (fun w1 hM => sum_any 128 168 b A c n w1 (hr.old hM old_false) hwf (by decide) hn (hK.keep hM.chg (fun h => h))) ?_; intro A1 c1 x1 h1)
  rw [← h1]
  exact XT_tells (.inl rfl) Tryd.results9 rfl rfl
set_option maxHeartbeats 1000000 in
theorem sum128_bad (b : List Int) (A : Option Addr) (c : Nat) (n : Int) (w : World) (hr : Rds w A c .u8 b) (hwf : ∀ n ∈ b, (Lit.int .u8 n).wf = true) (hn : ¬ (0 ≤ n ∧ n ≤ 65536)) (hK : KAt w) :
    Calls Tryd.prog 9 #[.slice A b.length c, .int .i64 n] w (Says w (.slice none 0 0)) := by
  refine calls_of_X (vs := [_, _]) (M := Hp w (fun _ => False) []) Tryd.func9 rfl Tryd.ntmps9 rfl (Hp.nil _ _) ?_
  repeat first
    | refine XC_region ?_
    | refine X_nil ?_
    | refine XC_seq ?_
    | refine XT_seq ?_
    | refine XC_ret ?_
    | refine Y_res (r_move rfl) rfl ?_
    | refine Y_res (r_assign rfl) rfl ?_
    | refine Y_says (g := 22) rfl rfl (fun w1 hM => sum_bad 128 b A c n w1 (hr.old hM old_false) hwf (by decide) hn (hK.keep hM.chg (fun h => h))) ?_
  exact XT_says (.inl rfl) Tryd.results9 rfl rfl
set_option maxHeartbeats 1000000 in
theorem sum256_any (b : List Int) (A : Option Addr) (c : Nat) (n : Nat) (w : World) (hr : Rds w A c .u8 b) (hwf : ∀ n ∈ b, (Lit.int .u8 n).wf = true) (hn : n ≤ 65536) (hK : KAt w) :
    Calls Tryd.prog 10 #[.slice A b.length c, .int .i64 n] w (Tells 5 .u8 w (outs 136 (sq 136 b) 0 n)) := by
  refine calls_of_X (vs := [_, _]) (M := Hp w (fun _ => False) []) Tryd.func10 rfl Tryd.ntmps10 rfl (Hp.nil _ _) ?_
  repeat first
    | refine XC_region ?_
    | refine X_nil ?_
    | refine XC_seq ?_
    | refine XT_seq ?_
    | refine XC_ret ?_
    | refine Y_res (r_move rfl) rfl ?_
    | refine Y_res (r_assign rfl) rfl ?_
    | (refine X_tells (g := 22) rfl rfl (fun w1 hM => sum_any 256 136 b A c n w1 (hr.old hM old_false) hwf (by decide) hn (hK.keep hM.chg (fun h => h))) ?_; intro A1 c1 x1 h1)
  rw [← h1]
  exact XT_tells (.inl rfl) Tryd.results10 rfl rfl
set_option maxHeartbeats 1000000 in
theorem sum256_bad (b : List Int) (A : Option Addr) (c : Nat) (n : Int) (w : World) (hr : Rds w A c .u8 b) (hwf : ∀ n ∈ b, (Lit.int .u8 n).wf = true) (hn : ¬ (0 ≤ n ∧ n ≤ 65536)) (hK : KAt w) :
    Calls Tryd.prog 10 #[.slice A b.length c, .int .i64 n] w (Says w (.slice none 0 0)) := by
  refine calls_of_X (vs := [_, _]) (M := Hp w (fun _ => False) []) Tryd.func10 rfl Tryd.ntmps10 rfl (Hp.nil _ _) ?_
  repeat first
    | refine XC_region ?_
    | refine X_nil ?_
    | refine XC_seq ?_
    | refine XT_seq ?_
    | refine XC_ret ?_
    | refine Y_res (r_move rfl) rfl ?_
    | refine Y_res (r_assign rfl) rfl ?_
    | refine Y_says (g := 22) rfl rfl (fun w1 hM => sum_bad 256 b A c n w1 (hr.old hM old_false) hwf (by decide) hn (hK.keep hM.chg (fun h => h))) ?_
  exact XT_says (.inl rfl) Tryd.results10 rfl rfl
end Go.Proofs.YteogihkpplaioaaDoor.NShake
