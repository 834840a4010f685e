/- PlateSafe, walked: true at every input. -/
import Derived.Test.YtipikjikjjmmiaaNPl6
import Derived.Test.YtipikjikjjmmiaaNSame
namespace Go.Proofs.Ytipikjikjjmmiaa.NPl
open Go Go.RowKit Go.Proofs.Ytipikjikjjmmiaa.MX Go.Proofs.Ytipikjikjjmmiaa.NSame
set_option linter.unusedVariables false
set_option linter.unusedSimpArgs false
set_option linter.unusedVariables false
theorem sync_done {p : Pl} (hd : p.down = false) (hl : p.left < 0) : syncP p = ({ p with safe := revS (fun _ => true) p.loose p.safe p.loose.length, loose := [] }, 0) := by
  rw [syncP, if_neg (by simp [hd]), if_neg (by rw [stepP_done hd hl]; simp), stepP_done hd hl]
def lsL (l : List Int) (j : Nat) : List (Nat × List Int) := (List.range j).map (fun i => (i, rep (l.getD i 0)))
theorem lsL_len (l : List Int) (j : Nat) : (lsL l j).length = j := by simp [lsL]
theorem lsL_at (l : List Int) {i j : Nat} (h : i < j) : (lsL l j)[i]? = some (i, rep (l.getD i 0)) := by simp [lsL, List.getElem?_map, List.getElem?_range h]
theorem rng_rev {k : Nat → Bool} {l : List Int} {s : List (List Int)} {n : Nat} (hs : s.length = 64) (hn : n ≤ 64) : ∀ j, j ≤ n → ∀ i, i < 64 → (revS k (lsL l n) s j)[i]? = if i < j ∧ k i = true then some (rep (l.getD i 0)) else s[i]?
  | 0, _, i, hi => by rw [if_neg (by omega)]; rfl
  | j + 1, hj, i, hi => by
    have ih := rng_rev (k := k) (l := l) hs hn j (by omega) i hi
    cases hk : k j with
    | true =>
      rw [revS_some (lsL_at l (show j < n by omega)) hk, List.getElem?_set]
      by_cases hij : j = i
      · subst hij
        rw [if_pos rfl, if_pos (by rw [revS_len, hs]; exact hi), if_pos ⟨by omega, hk⟩]
      · rw [if_neg hij, ih]
        by_cases h2 : i < j ∧ k i = true
        · rw [if_pos h2, if_pos ⟨by omega, h2.2⟩]
        · rw [if_neg h2, if_neg (fun h3 => h2 ⟨by omega, h3.2⟩)]
    | false =>
      rw [revS_not hk, ih]
      by_cases h2 : i < j ∧ k i = true
      · rw [if_pos h2, if_pos ⟨by omega, h2.2⟩]
      · rw [if_neg h2, if_neg (fun h3 => h2 ⟨by
          have h4 : i ≠ j := fun e => by rw [e, hk] at h3; cases h3.2
          omega, h3.2⟩)]
structure Saf (S : List (List Int)) (l : List Int) (j : Nat) (q : Pl) : Prop where
  ok : PlOk q
  n64 : q.n = 64
  up : q.down = false
  lf : q.left < 0
  sf : q.safe = S
  ls : q.loose = lsL l j
theorem Saf.step {S : List (List Int)} {l : List Int} {j : Nat} {q : Pl} (h : Saf S l j q) (hj : j < 64) : Saf S l (j + 1) (writeP q j (rep (l.getD j 0))).1 ∧ (writeP q j (rep (l.getD j 0))).2 = 0 := by
  have hw := writeP_done (i := j) (b := rep (l.getD j 0)) h.up h.lf (by rw [h.n64]; exact hj) rfl
  have hl : q.loose.length = j := by rw [h.ls, lsL_len]
  have hok := ok_write h.ok (by omega) (j : Int) (rep (l.getD j 0))
  rw [hw] at hok ⊢
  refine ⟨⟨hok, h.n64, h.up, h.lf, h.sf, ?_⟩, rfl⟩
  show q.loose ++ [(j, rep (l.getD j 0))] = _
  rw [h.ls, lsL, lsL, List.range_succ, List.map_append]
  rfl
theorem Saf.sync {S : List (List Int)} {l l' : List Int} {j : Nat} {q : Pl} (h : Saf S l j q) : Saf (revS (fun _ => true) (lsL l j) S j) l' 0 (syncP q).1 ∧ (syncP q).2 = 0 := by
  have hok := ok_sync h.ok
  rw [sync_done h.up h.lf] at hok ⊢
  refine ⟨⟨hok, h.n64, h.up, h.lf, ?_, rfl⟩, rfl⟩
  show revS _ q.loose q.safe q.loose.length = _
  rw [h.ls, h.sf, lsL_len]
theorem Saf.now {S : List (List Int)} {l : List Int} {j : Nat} {q : Pl} (h : Saf S l j q) (ks : List Bool) (hS : S.length = 64) (hj : j ≤ 64) (i : Nat) (hi : i < 64) : (revP q ks).now[i]? = if i < j ∧ ks.getD i false = true then some (rep (l.getD i 0)) else S[i]? := by
  show (revS _ q.loose q.safe q.loose.length)[i]? = _
  rw [h.ls, h.sf, lsL_len]
  exact rng_rev hS hj j (Nat.le_refl _) i hi
theorem get8 {l : List Int} {j : Nat} (hl : ∀ n ∈ l, (Lit.int .u8 n).wf = true) (hj : j < l.length) : 0 ≤ l.getD j 0 ∧ l.getD j 0 < 256 := by
  rw [List.getD_eq_getElem?_getD, List.getElem?_eq_getElem hj]
  exact wf8 (hl _ (List.getElem_mem _))
set_option maxRecDepth 100000 in
set_option maxHeartbeats 8000000 in
theorem safe_any (l1 : List Int) (A1 : Option Addr) (c1 : Nat) (l2 : List Int) (A2 : Option Addr) (c2 : Nat) (sy : Bool) (ks : List Bool) (K : Option Addr) (kc : Nat) (w : World) (hr1 : Rds w A1 c1 .u8 l1) (hwf1 : ∀ n ∈ l1, (Lit.int .u8 n).wf = true) (hr2 : Rds w A2 c2 .u8 l2) (hwf2 : ∀ n ∈ l2, (Lit.int .u8 n).wf = true) (hks : shBs.has w [.slice K ks.length kc] (K, kc, ks)) :
    Calls Try.prog 5 #[.slice A1 l1.length c1, .slice A2 l2.length c2, .bool sy, .slice K ks.length kc] w fun e w' => e = .returned (.bool true) ∧ Chg (fun _ => False) w w' := by
  have hk := bs_rdv hks
  clear hks
  have hle1 := hr1.le
  have hle2 := hr2.le
  have hkl := hk.le
  have hkc := hk.cap
  obtain ⟨N, hN⟩ : ∃ N : Nat, (if (l2.length : Int) < (l1.length : Int) then (l2.length : Int) else (l1.length : Int)) = (N : Int) := ⟨min l1.length l2.length, by split <;> omega⟩
  have hN1 : N ≤ l1.length ∧ N ≤ l2.length := by
    split at hN <;> omega
  refine calls_of_X (Rr := Says w (.bool true)) (vs := [_, _, _, _]) (M := Hp w (fun _ => False) []) Try.func5 rfl Try.ntmps5 rfl (Hp.nil _ _) ?_
  repeat first
    | refine XC_region ?_
    | refine X_nil ?_
    | refine XC_condF rfl ?_
    | refine XC_seq ?_
    | refine XT_seq ?_
    | refine XC_skip ?_
    | refine Y_res (r_move rfl) rfl ?_
    | refine Y_res (r_assign rfl) rfl ?_
    | refine Y_res (r_gtr rfl rfl) rfl ?_
    | refine Y_res (r_notB rfl) rfl ?_
    | refine Y_res (r_len rfl) rfl ?_
    | refine Y_says (g := 8) rfl rfl (fun w1 hM => anchor_any w1) ?_
    | (refine Y_res (r_min2 rfl rfl) rfl ?_; rw [hN])
  refine XC_condP rfl (fun h2 => ?_) (fun h2 => ?_)
  · repeat first
      | refine XC_region ?_
      | refine X_nil ?_
      | refine XC_seq ?_
      | refine XT_seq ?_
      | refine XT_then_ret ?_
      | refine XC_ret ?_
      | refine Y_res (r_assign rfl) rfl ?_
    exact XT_says (.inl rfl) Try.results5 rfl rfl
  have hN60 : N ≤ 60 := by omega
  clear hN
  repeat first
    | refine XC_region ?_
    | refine XC_seq ?_
    | refine XT_seq ?_
    | refine XC_skip ?_
  refine X_call (g := 9) rfl rfl (fun w1 q1 => (new_es 64 q1 (by decide) (by decide)).mono ?_)
  rintro e w2 ⟨g, a, rfl, q2⟩
  refine ⟨_, rfl, _, q2, ?_⟩
  clear q1 q2
  have s0 : Saf (List.replicate 64 (rep 0)) l1 0 (new0 64) := ⟨ok_new (by decide) (by decide), rfl, rfl, by decide, rfl, rfl⟩
  obtain ⟨p0, hp0⟩ : ∃ p0, p0 = new0 64 := ⟨_, rfl⟩
  rw [← hp0] at s0 ⊢
  clear hp0
  repeat first
    | refine XC_region ?_
    | refine X_nil ?_
    | refine XC_condF rfl ?_
    | refine XC_seq ?_
    | refine XT_seq ?_
    | refine XC_block ?_
    | refine XC_skip ?_
    | refine Y_res (r_move rfl) rfl ?_
    | refine Y_res (r_assign rfl) rfl ?_
    | refine Y_res (r_eqlNil rfl rfl) rfl ?_
  refine XC_loop (ι := Nat × Ad × Pl) (fun j => j.1 ≤ N ∧ Saf (List.replicate 64 (rep 0)) l1 j.1 j.2.2) (fun j => [(0, .slice A1 l1.length c1), (1, .slice A2 l2.length c2), (2, .bool sy), (3, .slice K ks.length kc), (9, .int .i64 N), (10, .pointer (some ⟨g, 0, none⟩)), (29, .int .i64 N), (30, .int .i64 j.1)]) (fun j => Hp w (fun _ => False) (PlC g j.2.1 j.2.2 [])) (fun j => N - j.1) (0, a, p0) ⟨Nat.zero_le _, s0⟩ ⟨rfl, rfl, rfl, rfl, rfl, rfl, rfl, rfl, trivial⟩ (fun _ h => h) ?_
  rintro ⟨j, a, p⟩ ⟨hj, hA⟩
  dsimp only at hj hA ⊢
  repeat first
    | refine XC_region ?_
    | refine X_nil ?_
    | refine XC_seq ?_
    | refine XT_seq ?_
    | refine Y_res (r_lss rfl rfl) rfl ?_
  refine XC_condP rfl (fun hlt => ?_) (fun hge => ?_)
  · have hj2 : j < N := by omega
    have hj3 : j < l1.length := by omega
    have hc8 := get8 hwf1 hj3
    obtain ⟨hs1, hz⟩ := hA.step (by omega)
    have hlo : p.loose.length ≤ 10000 := by rw [hA.ls, lsL_len]; omega
    repeat first
      | refine XC_region ?_
      | refine X_nil ?_
      | refine XC_seq ?_
      | refine XT_seq ?_
      | refine XC_block ?_
      | refine XC_skip ?_
      | refine Y_res (r_move rfl) rfl ?_
      | refine Y_res (r_assign rfl) rfl ?_
      | refine Y_res (r_indexR rfl rfl (by assumption) (by omega) (by omega)) rfl ?_
      | refine Y_res (r_loadR rfl (by assumption) (by first | exact old_false | assumption) (by omega)) rfl ?_
    generalize hx : l1.getD j 0 = x at *
    refine X_call (g := 11) rfl rfl (fun w1 q1 => (fill_es x 64 (by decide) hc8 q1).mono ?_)
    rintro e w2 ⟨B, cap, rfl, q2⟩
    refine ⟨_, rfl, _, q2, ?_⟩
    clear q1 q2
    skip
    refine X_call (g := 10) rfl rfl (fun w1 q1 => (write_rep (j : Nat) x 64 _ _ hA.ok hlo q1).mono ?_)
    rintro e w2 ⟨ab, rfl, q2⟩
    rw [show List.replicate 64 x = rep x from rfl] at q2 ⊢
    rw [hz]
    refine ⟨_, rfl, _, q2, ?_⟩
    clear q1 q2
    repeat first
      | refine XC_region ?_
      | refine X_nil ?_
      | refine XC_condF rfl ?_
      | refine XT_seq ?_
      | refine XT_block_normal ?_
      | refine XC_skip ?_
      | refine Y_res (r_move rfl) rfl ?_
      | refine Y_res (r_add64 rfl rfl (by omega)) rfl ?_
      | refine Y_res (r_neq rfl rfl) rfl ?_
    exact XT_round (j + 1, ab, (writeP p j (rep x)).1) ⟨by dsimp only; omega, hs1⟩ (by dsimp only; omega) ⟨rfl, rfl, rfl, rfl, rfl, rfl, rfl, rfl, trivial⟩ (fun _ h => h)
  obtain rfl : j = N := by omega
  obtain ⟨s2, hz⟩ := hA.sync (l' := l2)
  repeat first
    | refine XC_region ?_
    | refine XC_seq ?_
    | refine XT_seq ?_
    | refine XT_block_same rfl ?_
    | refine XT_then_exit ?_
    | refine XC_exit ?_
    | refine Y_res (r_move rfl) rfl ?_
  refine X_call (g := 20) rfl rfl (fun w1 q1 => (sync_any q1 hA.ok).mono ?_)
  rintro e w2 ⟨ab, rfl, q2⟩
  rw [hz]
  refine ⟨_, rfl, _, q2, ?_⟩
  clear q1 q2 hz
  have hS : ∀ i, i < j → (revS (fun _ => true) (lsL l1 j) (List.replicate 64 (rep 0)) j)[i]? = some (rep (l1.getD i 0)) := fun i hi => by
    rw [rng_rev (by simp) (by omega) j (Nat.le_refl _) i (by omega), if_pos ⟨hi, rfl⟩]
  have hSl : (revS (fun _ => true) (lsL l1 j) (List.replicate 64 (rep 0)) j).length = 64 := by rw [revS_len]; simp
  generalize revS (fun _ => true) (lsL l1 j) (List.replicate 64 (rep 0)) j = S1 at *
  generalize (syncP p).1 = p1 at *
  clear hA hge hj
  repeat first
    | refine XC_region ?_
    | refine X_nil ?_
    | refine XC_condF rfl ?_
    | refine XC_seq ?_
    | refine XT_seq ?_
    | refine XC_block ?_
    | refine XC_skip ?_
    | refine Y_res (r_move rfl) rfl ?_
    | refine Y_res (r_neq rfl rfl) rfl ?_
  refine XC_loop (ι := Nat × Ad × Pl) (fun m => m.1 ≤ j ∧ Saf S1 l2 m.1 m.2.2) (fun m => [(0, .slice A1 l1.length c1), (1, .slice A2 l2.length c2), (2, .bool sy), (3, .slice K ks.length kc), (9, .int .i64 j), (10, .pointer (some ⟨g, 0, none⟩)), (46, .int .i64 j), (47, .int .i64 m.1)]) (fun m => Hp w (fun _ => False) (PlC g m.2.1 m.2.2 [])) (fun m => j - m.1) (0, ab, p1) ⟨Nat.zero_le _, s2⟩ ⟨rfl, rfl, rfl, rfl, rfl, rfl, rfl, rfl, trivial⟩ (fun _ h => h) ?_
  rintro ⟨m, a2, p2⟩ ⟨hm, hA⟩
  dsimp only at hm hA ⊢
  repeat first
    | refine XC_region ?_
    | refine X_nil ?_
    | refine XC_seq ?_
    | refine XT_seq ?_
    | refine Y_res (r_lss rfl rfl) rfl ?_
  refine XC_condP rfl (fun hlt => ?_) (fun hge => ?_)
  · have hj2 : m < j := by omega
    have hj3 : m < l2.length := by omega
    have hc8 := get8 hwf2 hj3
    obtain ⟨hs1, hz⟩ := hA.step (by omega)
    have hlo : p2.loose.length ≤ 10000 := by rw [hA.ls, lsL_len]; omega
    repeat first
      | refine XC_region ?_
      | refine X_nil ?_
      | refine XC_seq ?_
      | refine XT_seq ?_
      | refine XC_block ?_
      | refine XC_skip ?_
      | refine Y_res (r_move rfl) rfl ?_
      | refine Y_res (r_assign rfl) rfl ?_
      | refine Y_res (r_indexR rfl rfl (by assumption) (by omega) (by omega)) rfl ?_
      | refine Y_res (r_loadR rfl (by assumption) (by first | exact old_false | assumption) (by omega)) rfl ?_
    generalize hx : l2.getD m 0 = x at *
    refine X_call (g := 11) rfl rfl (fun w1 q1 => (fill_es x 64 (by decide) hc8 q1).mono ?_)
    rintro e w2 ⟨B, cap, rfl, q2⟩
    refine ⟨_, rfl, _, q2, ?_⟩
    clear q1 q2
    skip
    refine X_call (g := 10) rfl rfl (fun w1 q1 => (write_rep (m : Nat) x 64 _ _ hA.ok hlo q1).mono ?_)
    rintro e w2 ⟨ab, rfl, q2⟩
    refine ⟨_, rfl, _, q2, ?_⟩
    clear q1 q2
    repeat first
      | refine XC_region ?_
      | refine X_nil ?_
      | refine XT_seq ?_
      | refine XT_block_normal ?_
      | refine Y_res (r_move rfl) rfl ?_
      | refine Y_res (r_add64 rfl rfl (by omega)) rfl ?_
    exact XT_round (m + 1, ab, (writeP p2 m (rep x)).1) ⟨by dsimp only; omega, hs1⟩ (by dsimp only; omega) ⟨rfl, rfl, rfl, rfl, rfl, rfl, rfl, rfl, trivial⟩ (fun _ h => h)
  obtain rfl : m = j := by omega
  repeat first
    | refine XC_region ?_
    | refine X_nil ?_
    | refine XC_seq ?_
    | refine XT_seq ?_
    | refine XT_block_same rfl ?_
    | refine XT_then_exit ?_
    | refine XC_exit ?_
    | refine Y_res (r_move rfl) rfl ?_
  refine XC_cond rfl (fun h6 => ?_) (fun h6 => ?_)
  · subst h6
    obtain ⟨s3, hz⟩ := hA.sync (l' := l2)
    have hnow : ∀ i, i < m → (revP (syncP p2).1 ks).now[i]? = some (rep (l2.getD i 0)) := fun i hi => by
      rw [s3.now ks (by rw [revS_len]; exact hSl) (by omega) i (by omega), if_neg (by omega), rng_rev hSl (by omega) m (Nat.le_refl _) i (by omega), if_pos ⟨hi, rfl⟩]
    repeat first
      | refine XC_region ?_
      | refine Y_res (r_move rfl) rfl ?_
    refine X_call (g := 20) rfl rfl (fun w1 q1 => (sync_any q1 hA.ok).mono ?_)
    rintro e w2 ⟨ac, rfl, q2⟩
    refine ⟨_, rfl, _, q2, ?_⟩
    clear q1 q2 hz
    have hok3 := s3.ok
    have hnn : (syncP p2).1.n = 64 := s3.n64
    generalize (syncP p2).1 = p3 at *
    clear hA s3
    have hok4 := ok_rev hok3 ks
    repeat first
      | refine XC_region ?_
      | refine X_nil ?_
      | refine XC_seq ?_
      | refine XT_seq ?_
      | refine Y_res (r_move rfl) rfl ?_
    refine X_call (g := 14) rfl rfl (fun w1 q1 => (revive_any ks K kc q1 hok3 (fun cs w1 h1 => hk.old h1 old_false)).mono ?_)
    rintro e w2 ⟨ad, rfl, q2⟩
    refine ⟨_, rfl, _, q2, ?_⟩
    clear q1 q2
    repeat first
      | refine XC_region ?_
      | refine X_nil ?_
      | refine XC_seq ?_
      | refine XT_seq ?_
      | refine XC_block ?_
      | refine Y_res (r_move rfl) rfl ?_
    refine XC_loop (ι := Nat) (fun i => i ≤ m) (fun i => [(0, .slice A1 l1.length c1), (1, .slice A2 l2.length c2), (2, .bool true), (3, .slice K ks.length kc), (10, .pointer (some ⟨g, 0, none⟩)), (65, .int .i64 m), (66, .int .i64 i)]) (fun i => Hp w (fun _ => False) (PlC g ad (revP p3 ks) [])) (fun i => m - i) 0 (Nat.zero_le _) ⟨rfl, rfl, rfl, rfl, rfl, rfl, rfl, trivial⟩ (fun _ h => h) ?_
    intro i hi
    repeat first
      | refine XC_region ?_
      | refine X_nil ?_
      | refine XC_seq ?_
      | refine XT_seq ?_
      | refine Y_res (r_lss rfl rfl) rfl ?_
    refine XC_condP rfl (fun hlt2 => ?_) (fun hge2 => ?_)
    · have hi2 : i < m := by omega
      have hi31 : i < l1.length := by omega
      have hi32 : i < l2.length := by omega
      repeat first
        | refine XC_region ?_
        | refine X_nil ?_
        | refine XC_condT rfl ?_
        | refine XC_seq ?_
        | refine XT_seq ?_
        | refine XC_block ?_
        | refine XC_skip ?_
        | refine Y_res (r_move rfl) rfl ?_
        | refine Y_res (r_assign rfl) rfl ?_
        | refine Y_off rfl rfl rfl ?_
        | refine Y_offU rfl rfl rfl ?_
        | refine Y_res (r_indexR rfl rfl (by assumption) (by omega) (by omega)) rfl ?_
        | refine Y_res (r_loadR rfl (by assumption) (by first | exact old_false | assumption) (by omega)) rfl ?_
        | refine Y_res (r_pickT rfl rfl) rfl ?_
      have hc8 := get8 hwf2 hi32
      have hnx := hnow i hi2
      generalize hx : l2.getD i 0 = x at *
      skip
      refine X_call (g := 12) rfl rfl (fun w1 q1 => (read_es i _ hok4 rfl hnx q1).mono ?_)
      rintro e w2 ⟨b, rfl, q2⟩
      refine ⟨_, rfl, _, q2, ?_⟩
      clear q1 q2
      repeat first
        | refine XC_region ?_
        | refine X_nil ?_
        | refine XC_seq ?_
        | refine XT_seq ?_
        | refine Y_res (r_move rfl) rfl ?_
        | refine Y_res (r_assign rfl) rfl ?_
        | refine Y_res (r_neq rfl rfl) rfl ?_
        | refine Y_on rfl rfl ?_
        | refine Y_res (r_extract rfl rfl) rfl ?_
        | refine Y_splitF rfl rfl (by decide) ?_
      refine X_tells (g := 11) rfl rfl (fun w1 hM => fill_any x 64 w1 (by decide) hc8) ?_
      intro B cap y hy
      repeat first
        | refine X_nil ?_
        | refine XT_seq ?_
        | refine Y_on rfl rfl ?_
        | refine Y_res (r_notB rfl) rfl ?_
        | refine Y_res (r_pickF rfl rfl) rfl ?_
        | refine Y_says (g := 21) rfl rfl (fun w1 hM => same_any (rep x) y _ _ _ _ w1 (rds_ints hM.tail.head (Nat.le_refl _) (by decide)) (rds_sl hM.head)) ?_
      rw [decide_eq_true (show rep x = y from hy.symm)]
      repeat first
        | refine XC_region ?_
        | refine X_nil ?_
        | refine XC_condF rfl ?_
        | refine XT_seq ?_
        | refine XT_block_normal ?_
        | refine XC_skip ?_
        | refine Y_res (r_move rfl) rfl ?_
        | refine Y_res (r_add64 rfl rfl (by omega)) rfl ?_
      exact XT_round (i + 1) (by omega) (by omega) ⟨rfl, rfl, rfl, rfl, rfl, rfl, rfl, trivial⟩ (fun _ h => h.tail.tail)
    repeat first
      | refine XC_region ?_
      | refine XC_seq ?_
      | refine XT_seq ?_
      | refine XT_block_same rfl ?_
      | refine XT_then_exit ?_
      | refine XC_exit ?_
      | refine Y_res (r_move rfl) rfl ?_
    refine X_call (g := 13) rfl rfl (fun w1 q1 => (loose_any q1).mono ?_)
    rintro e w2 ⟨rfl, q2⟩
    refine ⟨_, rfl, _, q2, ?_⟩
    clear q1 q2
    repeat first
      | refine Y_res (r_move rfl) rfl ?_
      | refine Y_res (r_eql rfl rfl) rfl ?_
      | refine Y_on rfl rfl ?_
      | refine Y_splitT rfl rfl (by decide) ?_
    refine X_call (g := 19) rfl rfl (fun w1 q1 => (down_any q1).mono ?_)
    rintro e w2 ⟨rfl, q2⟩
    refine ⟨_, rfl, _, q2, ?_⟩
    clear q1 q2
    repeat first
      | refine X_nil ?_
      | refine XT_seq ?_
      | refine XC_ret ?_
      | refine Y_res (r_assign rfl) rfl ?_
      | refine Y_on rfl rfl ?_
      | refine Y_res (r_notB rfl) rfl ?_
      | refine Y_res (r_pickT rfl rfl) rfl ?_
    exact XT_says (.inl rfl) Try.results5 rfl rfl
  · have hsy : sy = false := by simpa using h6
    subst hsy
    have hok3 := hA.ok
    have hnow : ∀ i, i < m → (revP p2 ks).now[i]? = some (rep (if ks.getD i false = true then l2.getD i 0 else l1.getD i 0)) := fun i hi => by
      rw [hA.now ks hSl (by omega) i (by omega)]
      by_cases h7 : ks.getD i false = true
      · rw [if_pos ⟨hi, h7⟩, if_pos h7]
      · rw [if_neg (fun h8 => h7 h8.2), if_neg h7, hS i hi]
    have hnn : p2.n = 64 := hA.n64
    generalize p2 = p3 at *
    clear hA
    have hok4 := ok_rev hok3 ks
    repeat first
      | refine XC_region ?_
      | refine XC_seq ?_
      | refine XT_seq ?_
      | refine XC_skip ?_
      | refine Y_res (r_move rfl) rfl ?_
    refine X_call (g := 14) rfl rfl (fun w1 q1 => (revive_any ks K kc q1 hok3 (fun cs w1 h1 => hk.old h1 old_false)).mono ?_)
    rintro e w2 ⟨ad, rfl, q2⟩
    refine ⟨_, rfl, _, q2, ?_⟩
    clear q1 q2
    repeat first
      | refine XC_region ?_
      | refine X_nil ?_
      | refine XC_seq ?_
      | refine XT_seq ?_
      | refine XC_block ?_
      | refine Y_res (r_move rfl) rfl ?_
    refine XC_loop (ι := Nat) (fun i => i ≤ m) (fun i => [(0, .slice A1 l1.length c1), (1, .slice A2 l2.length c2), (2, .bool false), (3, .slice K ks.length kc), (10, .pointer (some ⟨g, 0, none⟩)), (65, .int .i64 m), (66, .int .i64 i)]) (fun i => Hp w (fun _ => False) (PlC g ad (revP p3 ks) [])) (fun i => m - i) 0 (Nat.zero_le _) ⟨rfl, rfl, rfl, rfl, rfl, rfl, rfl, trivial⟩ (fun _ h => h) ?_
    intro i hi
    repeat first
      | refine XC_region ?_
      | refine X_nil ?_
      | refine XC_seq ?_
      | refine XT_seq ?_
      | refine Y_res (r_lss rfl rfl) rfl ?_
    refine XC_condP rfl (fun hlt2 => ?_) (fun hge2 => ?_)
    · have hi2 : i < m := by omega
      have hi31 : i < l1.length := by omega
      have hi32 : i < l2.length := by omega
      repeat first
        | refine XC_region ?_
        | refine X_nil ?_
        | refine XC_seq ?_
        | refine XT_seq ?_
        | refine XC_block ?_
        | refine XC_skip ?_
        | refine Y_res (r_move rfl) rfl ?_
        | refine Y_res (r_assign rfl) rfl ?_
        | refine Y_res (r_lss rfl rfl) rfl ?_
        | refine Y_on rfl rfl ?_
        | refine Y_res (r_len rfl) rfl ?_
        | refine Y_res (r_indexR rfl rfl (by assumption) (by omega) (by omega)) rfl ?_
        | refine Y_res (r_loadR rfl (by assumption) (by first | exact old_false | assumption) (by omega)) rfl ?_
      refine Y_split rfl rfl (fun h4 => ?_) (fun h4 => ?_)
      · have h5 : i < ks.length := by omega
        obtain ⟨kb, hkb⟩ : ∃ kb, ks[i]? = some kb := ⟨ks[i]'h5, List.getElem?_eq_getElem h5⟩
        have hkv : ks.getD i false = kb := by simp [List.getD, hkb]
        repeat first
          | refine X_nil ?_
          | refine XT_seq ?_
          | refine Y_res (r_move rfl) rfl ?_
          | refine Y_on rfl rfl ?_
          | refine Y_res (r_pickT rfl rfl) rfl ?_
          | refine Y_res (r_pickF rfl rfl) rfl ?_
          | refine Y_res (r_indexRv rfl rfl hk h5 (by omega)) rfl ?_
          | refine Y_res (r_loadRv (v := .bool kb) rfl hk old_false (by rw [List.getElem?_map, hkb]; rfl)) rfl ?_
        refine XC_cond rfl (fun h7 => ?_) (fun h7 => ?_)
        · repeat first
            | refine XC_region ?_
            | refine X_nil ?_
            | refine XC_seq ?_
            | refine XT_seq ?_
            | refine Y_res (r_move rfl) rfl ?_
            | refine Y_res (r_assign rfl) rfl ?_
            | refine Y_res (r_indexR rfl rfl (by assumption) (by omega) (by omega)) rfl ?_
            | refine Y_res (r_loadR rfl (by assumption) (by first | exact old_false | assumption) (by omega)) rfl ?_
          have hc8 := get8 hwf2 hi32
          have hnx := hnow i hi2
          rw [if_pos (hkv.trans h7)] at hnx
          generalize hx : l2.getD i 0 = x at *
          skip
          refine X_call (g := 12) rfl rfl (fun w1 q1 => (read_es i _ hok4 rfl hnx q1).mono ?_)
          rintro e w2 ⟨b, rfl, q2⟩
          refine ⟨_, rfl, _, q2, ?_⟩
          clear q1 q2
          repeat first
            | refine XC_region ?_
            | refine X_nil ?_
            | refine XC_seq ?_
            | refine XT_seq ?_
            | refine Y_res (r_move rfl) rfl ?_
            | refine Y_res (r_assign rfl) rfl ?_
            | refine Y_res (r_neq rfl rfl) rfl ?_
            | refine Y_on rfl rfl ?_
            | refine Y_res (r_extract rfl rfl) rfl ?_
            | refine Y_splitF rfl rfl (by decide) ?_
          refine X_tells (g := 11) rfl rfl (fun w1 hM => fill_any x 64 w1 (by decide) hc8) ?_
          intro B cap y hy
          repeat first
            | refine X_nil ?_
            | refine XT_seq ?_
            | refine Y_on rfl rfl ?_
            | refine Y_res (r_notB rfl) rfl ?_
            | refine Y_res (r_pickF rfl rfl) rfl ?_
            | refine Y_says (g := 21) rfl rfl (fun w1 hM => same_any (rep x) y _ _ _ _ w1 (rds_ints hM.tail.head (Nat.le_refl _) (by decide)) (rds_sl hM.head)) ?_
          rw [decide_eq_true (show rep x = y from hy.symm)]
          repeat first
            | refine XC_region ?_
            | refine X_nil ?_
            | refine XC_condF rfl ?_
            | refine XT_seq ?_
            | refine XT_block_normal ?_
            | refine XC_skip ?_
            | refine Y_res (r_move rfl) rfl ?_
            | refine Y_res (r_add64 rfl rfl (by omega)) rfl ?_
          exact XT_round (i + 1) (by omega) (by omega) ⟨rfl, rfl, rfl, rfl, rfl, rfl, rfl, trivial⟩ (fun _ h => h.tail.tail)
        · repeat first
            | refine XC_region ?_
            | refine XC_seq ?_
            | refine XT_seq ?_
            | refine XC_skip ?_
            | refine Y_res (r_move rfl) rfl ?_
          have hc8 := get8 hwf1 hi31
          have hnx := hnow i hi2
          rw [if_neg (by rw [hkv, h7]; decide)] at hnx
          generalize hx : l1.getD i 0 = x at *
          skip
          refine X_call (g := 12) rfl rfl (fun w1 q1 => (read_es i _ hok4 rfl hnx q1).mono ?_)
          rintro e w2 ⟨b, rfl, q2⟩
          refine ⟨_, rfl, _, q2, ?_⟩
          clear q1 q2
          repeat first
            | refine XC_region ?_
            | refine X_nil ?_
            | refine XC_seq ?_
            | refine XT_seq ?_
            | refine Y_res (r_move rfl) rfl ?_
            | refine Y_res (r_assign rfl) rfl ?_
            | refine Y_res (r_neq rfl rfl) rfl ?_
            | refine Y_on rfl rfl ?_
            | refine Y_res (r_extract rfl rfl) rfl ?_
            | refine Y_splitF rfl rfl (by decide) ?_
          refine X_tells (g := 11) rfl rfl (fun w1 hM => fill_any x 64 w1 (by decide) hc8) ?_
          intro B cap y hy
          repeat first
            | refine X_nil ?_
            | refine XT_seq ?_
            | refine Y_on rfl rfl ?_
            | refine Y_res (r_notB rfl) rfl ?_
            | refine Y_res (r_pickF rfl rfl) rfl ?_
            | refine Y_says (g := 21) rfl rfl (fun w1 hM => same_any (rep x) y _ _ _ _ w1 (rds_ints hM.tail.head (Nat.le_refl _) (by decide)) (rds_sl hM.head)) ?_
          rw [decide_eq_true (show rep x = y from hy.symm)]
          repeat first
            | refine XC_region ?_
            | refine X_nil ?_
            | refine XC_condF rfl ?_
            | refine XT_seq ?_
            | refine XT_block_normal ?_
            | refine XC_skip ?_
            | refine Y_res (r_move rfl) rfl ?_
            | refine Y_res (r_add64 rfl rfl (by omega)) rfl ?_
          exact XT_round (i + 1) (by omega) (by omega) ⟨rfl, rfl, rfl, rfl, rfl, rfl, rfl, trivial⟩ (fun _ h => h.tail.tail)
      · repeat first
          | refine XC_region ?_
          | refine X_nil ?_
          | refine XC_condF rfl ?_
          | refine XC_seq ?_
          | refine XT_seq ?_
          | refine XC_skip ?_
          | refine Y_res (r_move rfl) rfl ?_
          | refine Y_on rfl rfl ?_
          | refine Y_off rfl rfl rfl ?_
          | refine Y_res (r_pickF rfl rfl) rfl ?_
        have hc8 := get8 hwf1 hi31
        have hnx := hnow i hi2
        rw [if_neg (by simp [List.getD, List.getElem?_eq_none (show ks.length ≤ i by omega)])] at hnx
        generalize hx : l1.getD i 0 = x at *
        skip
        refine X_call (g := 12) rfl rfl (fun w1 q1 => (read_es i _ hok4 rfl hnx q1).mono ?_)
        rintro e w2 ⟨b, rfl, q2⟩
        refine ⟨_, rfl, _, q2, ?_⟩
        clear q1 q2
        repeat first
          | refine XC_region ?_
          | refine X_nil ?_
          | refine XC_seq ?_
          | refine XT_seq ?_
          | refine Y_res (r_move rfl) rfl ?_
          | refine Y_res (r_assign rfl) rfl ?_
          | refine Y_res (r_neq rfl rfl) rfl ?_
          | refine Y_on rfl rfl ?_
          | refine Y_res (r_extract rfl rfl) rfl ?_
          | refine Y_splitF rfl rfl (by decide) ?_
        refine X_tells (g := 11) rfl rfl (fun w1 hM => fill_any x 64 w1 (by decide) hc8) ?_
        intro B cap y hy
        repeat first
          | refine X_nil ?_
          | refine XT_seq ?_
          | refine Y_on rfl rfl ?_
          | refine Y_res (r_notB rfl) rfl ?_
          | refine Y_res (r_pickF rfl rfl) rfl ?_
          | refine Y_says (g := 21) rfl rfl (fun w1 hM => same_any (rep x) y _ _ _ _ w1 (rds_ints hM.tail.head (Nat.le_refl _) (by decide)) (rds_sl hM.head)) ?_
        rw [decide_eq_true (show rep x = y from hy.symm)]
        repeat first
          | refine XC_region ?_
          | refine X_nil ?_
          | refine XC_condF rfl ?_
          | refine XT_seq ?_
          | refine XT_block_normal ?_
          | refine XC_skip ?_
          | refine Y_res (r_move rfl) rfl ?_
          | refine Y_res (r_add64 rfl rfl (by omega)) rfl ?_
        exact XT_round (i + 1) (by omega) (by omega) ⟨rfl, rfl, rfl, rfl, rfl, rfl, rfl, trivial⟩ (fun _ h => h.tail.tail)
    repeat first
      | refine XC_region ?_
      | refine XC_seq ?_
      | refine XT_seq ?_
      | refine XT_block_same rfl ?_
      | refine XT_then_exit ?_
      | refine XC_exit ?_
      | refine Y_res (r_move rfl) rfl ?_
    refine X_call (g := 13) rfl rfl (fun w1 q1 => (loose_any q1).mono ?_)
    rintro e w2 ⟨rfl, q2⟩
    refine ⟨_, rfl, _, q2, ?_⟩
    clear q1 q2
    repeat first
      | refine Y_res (r_move rfl) rfl ?_
      | refine Y_res (r_eql rfl rfl) rfl ?_
      | refine Y_on rfl rfl ?_
      | refine Y_splitT rfl rfl (by decide) ?_
    refine X_call (g := 19) rfl rfl (fun w1 q1 => (down_any q1).mono ?_)
    rintro e w2 ⟨rfl, q2⟩
    refine ⟨_, rfl, _, q2, ?_⟩
    clear q1 q2
    repeat first
      | refine X_nil ?_
      | refine XT_seq ?_
      | refine XC_ret ?_
      | refine Y_res (r_assign rfl) rfl ?_
      | refine Y_on rfl rfl ?_
      | refine Y_res (r_notB rfl) rfl ?_
      | refine Y_res (r_pickT rfl rfl) rfl ?_
    exact XT_says (.inl rfl) Try.results5 rfl rfl
end Go.Proofs.Ytipikjikjjmmiaa.NPl
