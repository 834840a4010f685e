/- PlateArms, walked: true at every input. -/
import Derived.Test.YtipikjikjjmmiaaNPl6
namespace Go.Proofs.Ytipikjikjjmmiaa.NPl
open Go Go.RowKit Go.Proofs.Ytipikjikjjmmiaa.MX
set_option linter.unusedVariables false
set_option linter.unusedSimpArgs false
set_option linter.unusedVariables false
theorem syncP_done {p : Pl} (hd : p.down = false) (hl : p.left < 0) : syncP p = ({ p with safe := revS (fun _ => true) p.loose p.safe p.loose.length, loose := [] }, 0) := by
  rw [syncP, if_neg (by simp [hd]), if_neg (by rw [stepP_done hd hl]; simp), stepP_done hd hl]
theorem there_in {p : Pl} {i : Int} (hd : p.down = false) (hi : 0 ≤ i ∧ i < p.n) : thereP p i = 0 := by rw [thereP, if_neg (by simp [hd]), if_neg (by omega)]
/-- What one write or sync does to a disk that is armed. -/
theorem op_go {p : Pl} {i : Int} {b : List Int} (hb : b.length = 64) (hi : 0 ≤ i ∧ i < p.n) (hd : p.down = false) (hl : 0 < p.left) :
    ((writeP p i b).2 = 0 ∧ (writeP p i b).1.down = false ∧ (writeP p i b).1.left = p.left - 1) ∧ ((syncP p).2 = 0 ∧ (syncP p).1.down = false ∧ (syncP p).1.left = p.left - 1) := by
  have h1 : stepP p = ({ p with left := p.left - 1 }, true) := by rw [stepP, if_pos hl, hd]; rfl
  constructor
  · rw [writeP, if_neg (by simp [there_in hd hi]), if_neg (by simp [hb]), if_neg (by rw [h1]; simp), h1]
    exact ⟨rfl, hd, rfl⟩
  · rw [syncP, if_neg (by simp [hd]), if_neg (by rw [h1]; simp), h1]
    exact ⟨rfl, hd, rfl⟩
theorem op_stop {p : Pl} {i : Int} {b : List Int} (hb : b.length = 64) (hi : 0 ≤ i ∧ i < p.n) (hd : p.down = false) (hl : p.left = 0) :
    ((writeP p i b).2 = 50 ∧ (writeP p i b).1.down = true) ∧ ((syncP p).2 = 50 ∧ (syncP p).1.down = true) := by
  have h1 : stepP p = ({ p with down := true }, false) := by rw [stepP, if_neg (by omega), if_pos hl]
  constructor
  · rw [writeP, if_neg (by simp [there_in hd hi]), if_neg (by simp [hb]), if_pos (by rw [h1]), h1]
    exact ⟨rfl, rfl⟩
  · rw [syncP, if_neg (by simp [hd]), if_pos (by rw [h1]), h1]
    exact ⟨rfl, rfl⟩
theorem op_down {p : Pl} {i : Int} {b : List Int} (hd : p.down = true) : ((writeP p i b).2 = 50 ∧ (writeP p i b).1.down = true) ∧ ((syncP p).2 = 50 ∧ (syncP p).1.down = true) := by
  have h1 : thereP p i = 50 := by rw [thereP, if_pos hd]
  constructor
  · rw [writeP, if_pos (by rw [h1]; decide), h1]
    exact ⟨rfl, hd⟩
  · rw [syncP, if_pos hd]
    exact ⟨rfl, hd⟩
theorem n_write (p : Pl) (i : Int) (b : List Int) : (writeP p i b).1.n = p.n := by
  have h := (stepP_same p).1
  unfold writeP
  split
  · rfl
  · split
    · rfl
    · split <;> exact h
theorem n_sync (p : Pl) : (syncP p).1.n = p.n ∧ (syncP p).1.loose.length ≤ p.loose.length := by
  obtain ⟨h1, _, _, h4⟩ := stepP_same p
  unfold syncP
  split
  · exact ⟨rfl, Nat.le_refl _⟩
  · split
    · exact ⟨h1, by rw [h4]; exact Nat.le_refl _⟩
    · exact ⟨h1, Nat.zero_le _⟩
/-- How a disk stands that was armed with n, behind j writes and syncs. -/
structure Armed (n : Int) (j : Nat) (p : Pl) : Prop where
  ok : PlOk p
  n8 : p.n = 8
  lo : p.loose.length ≤ j
  up : (j : Int) ≤ n → p.down = false ∧ p.left = n - j
  dn : n < (j : Int) → p.down = true
theorem Armed.op {n : Int} {j : Nat} {p : Pl} {i : Int} {b : List Int} (h : Armed n j p) (hj : j < 1000) (hb : b.length = 64) (hi : 0 ≤ i ∧ i < 8) :
    (Armed n (j + 1) (writeP p i b).1 ∧ Armed n (j + 1) (syncP p).1) ∧ ((j : Int) < n → (writeP p i b).2 = 0 ∧ (syncP p).2 = 0 ∧ (writeP p i b).1.down = false ∧ (syncP p).1.down = false) ∧ (n ≤ (j : Int) → (writeP p i b).2 = 50 ∧ (syncP p).2 = 50 ∧ (writeP p i b).1.down = true ∧ (syncP p).1.down = true) := by
  have hlo := h.lo
  have hi' : 0 ≤ i ∧ i < p.n := by rw [h.n8]; exact hi
  have w1 : PlOk (writeP p i b).1 := ok_write h.ok (by omega) i b
  have w2 : (writeP p i b).1.n = 8 := (n_write p i b).trans h.n8
  have w3 := loose_write p i b
  have s1 := ok_sync h.ok
  have s2 := (n_sync p).1.trans h.n8
  have s3 := (n_sync p).2
  by_cases h1 : (j : Int) < n
  · obtain ⟨hd, hl⟩ := h.up (by omega)
    obtain ⟨⟨a1, a2, a3⟩, b1, b2, b3⟩ := op_go hb hi' hd (by omega)
    exact ⟨⟨⟨w1, w2, by omega, fun _ => ⟨a2, by omega⟩, fun h2 => by omega⟩, ⟨s1, s2, by omega, fun _ => ⟨b2, by omega⟩, fun h2 => by omega⟩⟩, fun _ => ⟨a1, b1, a2, b2⟩, fun h2 => by omega⟩
  · have key : ((writeP p i b).2 = 50 ∧ (writeP p i b).1.down = true) ∧ ((syncP p).2 = 50 ∧ (syncP p).1.down = true) := by
      by_cases h2 : (j : Int) = n
      · obtain ⟨hd, hl⟩ := h.up (by omega)
        exact op_stop hb hi' hd (by omega)
      · exact op_down (h.dn (by omega))
    obtain ⟨⟨a1, a2⟩, b1, b2⟩ := key
    exact ⟨⟨⟨w1, w2, by omega, fun h2 => by omega, fun _ => a2⟩, ⟨s1, s2, by omega, fun h2 => by omega, fun _ => b2⟩⟩, fun h2 => by omega, fun _ => ⟨a1, b1, a2, b2⟩⟩
set_option maxRecDepth 100000 in
set_option maxHeartbeats 8000000 in
theorem arms_any (n : Int) (ks : List Bool) (K : Option Addr) (kc : Nat) (w : World) (hn : (Lit.int .i64 n).wf = true) (hks : shBs.has w [.slice K ks.length kc] (K, kc, ks)) :
    Calls Try.prog 6 #[.int .i64 n, .slice K ks.length kc] w fun e w' => e = .returned (.bool true) ∧ Chg (fun _ => False) w w' := by
  have hk := bs_rdv hks
  clear hks
  have hkl := hk.le
  have hkc := hk.cap
  have hn64 := wf64 hn
  refine calls_of_X (Rr := Says w (.bool true)) (vs := [_, _]) (M := Hp w (fun _ => False) []) Try.func6 rfl Try.ntmps6 rfl (Hp.nil _ _) ?_
  repeat first
    | refine XC_region ?_
    | refine X_nil ?_
    | refine XC_condF rfl ?_
    | refine XC_seq ?_
    | refine XT_seq ?_
    | refine XC_skip ?_
    | refine Y_res (r_move rfl) rfl ?_
    | refine Y_res (r_assign rfl) rfl ?_
    | refine Y_res (r_lss rfl rfl) rfl ?_
    | refine Y_res (r_notB rfl) rfl ?_
    | refine Y_says (g := 8) rfl rfl (fun w1 hM => anchor_any w1) ?_
  refine Y_split rfl rfl (fun h1 => ?_) (fun h1 => ?_)
  · repeat first
      | refine XC_region ?_
      | refine X_nil ?_
      | refine XC_condT rfl ?_
      | refine XC_seq ?_
      | refine XT_seq ?_
      | refine XT_then_ret ?_
      | refine XC_ret ?_
      | refine Y_res (r_assign rfl) rfl ?_
      | refine Y_off rfl rfl rfl ?_
      | refine Y_res (r_pickT rfl rfl) rfl ?_
    exact XT_says (.inl rfl) Try.results6 rfl rfl
  repeat first
    | refine X_nil ?_
    | refine XT_seq ?_
    | refine Y_res (r_move rfl) rfl ?_
    | refine Y_res (r_gtr rfl rfl) rfl ?_
    | refine Y_on rfl rfl ?_
    | refine Y_res (r_len rfl) rfl ?_
    | refine Y_res (r_pickF rfl rfl) rfl ?_
  refine XC_condP rfl (fun h2 => ?_) (fun h2 => ?_)
  · repeat first
      | refine XC_region ?_
      | refine X_nil ?_
      | refine XC_seq ?_
      | refine XT_seq ?_
      | refine XT_then_ret ?_
      | refine XC_ret ?_
      | refine Y_res (r_assign rfl) rfl ?_
    exact XT_says (.inl rfl) Try.results6 rfl rfl
  have hl100 : ks.length ≤ 100 := by omega
  repeat first
    | refine XC_region ?_
    | refine XC_seq ?_
    | refine XT_seq ?_
    | refine XC_skip ?_
  refine X_call (g := 9) rfl rfl (fun w1 q1 => (new_es 8 q1 (by decide) (by decide)).mono ?_)
  rintro e w2 ⟨g, a, rfl, q2⟩
  refine ⟨_, rfl, _, q2, ?_⟩
  clear q1 q2
  repeat first
    | refine XC_region ?_
    | refine X_nil ?_
    | refine XC_condF rfl ?_
    | refine XC_seq ?_
    | refine XT_seq ?_
    | refine XC_skip ?_
    | refine Y_res (r_move rfl) rfl ?_
    | refine Y_res (r_assign rfl) rfl ?_
    | refine Y_res (r_eqlNil rfl rfl) rfl ?_
  refine X_call (g := 22) rfl rfl (fun w1 q1 => (arm_any n q1).mono ?_)
  rintro e w2 ⟨rfl, q2⟩
  refine ⟨_, rfl, _, q2, ?_⟩
  clear q1 q2
  have h0 : Armed n 0 (armP (new0 8) n) := ⟨ok_arm (ok_new (by decide) (by decide)) n (by omega), rfl, Nat.le_refl 0, fun _ => ⟨rfl, by show max n (-1) = n - (0 : Nat); omega⟩, fun h => by omega⟩
  repeat first
    | refine XC_region ?_
    | refine X_nil ?_
    | refine XC_seq ?_
    | refine XT_seq ?_
    | refine XC_block ?_
    | refine Y_res (r_move rfl) rfl ?_
    | refine Y_res (r_len rfl) rfl ?_
  refine XC_loop (ι := Nat × Ad × Pl) (fun j => j.1 ≤ ks.length ∧ Armed n j.1 j.2.2) (fun j => [(0, .int .i64 n), (1, .slice K ks.length kc), (5, .pointer (some ⟨g, 0, none⟩)), (26, .slice K ks.length kc), (27, .int .i64 ks.length), (28, .int .i64 j.1)]) (fun j => Hp w (fun _ => False) (PlC g j.2.1 j.2.2 [])) (fun j => ks.length - j.1) (0, a, armP (new0 8) n) ⟨Nat.zero_le _, h0⟩ ⟨rfl, rfl, rfl, rfl, rfl, rfl, trivial⟩ (fun _ h => h) ?_
  rintro ⟨j, a, p⟩ ⟨hj, hA⟩
  dsimp only at hj hA ⊢
  repeat first
    | refine XC_region ?_
    | refine X_nil ?_
    | refine XC_seq ?_
    | refine XT_seq ?_
    | refine Y_res (r_lss rfl rfl) rfl ?_
  refine XC_condP rfl (fun hlt => ?_) (fun hge => ?_)
  · have hj2 : j < ks.length := by omega
    obtain ⟨kb, hkb⟩ : ∃ kb, ks[j]? = some kb := ⟨ks[j]'hj2, List.getElem?_eq_getElem hj2⟩
    have hlo := hA.lo
    have hA1 := hA.op (i := (j : Int) % 8) (b := List.replicate 64 1) (by omega) (by simp) (by omega)
    obtain ⟨⟨hw1, hs1⟩, hgo, hno⟩ := hA1
    repeat first
      | refine XC_region ?_
      | refine X_nil ?_
      | refine XC_seq ?_
      | refine XT_seq ?_
      | refine XC_block ?_
      | refine XC_skip ?_
      | refine Y_res (r_move rfl) rfl ?_
      | refine Y_res (r_assign rfl) rfl ?_
      | refine Y_res (r_indexRv rfl rfl hk hj2 (by omega)) rfl ?_
      | refine Y_res (r_loadRv (v := .bool kb) rfl hk old_false (by rw [List.getElem?_map, hkb]; rfl)) rfl ?_
    refine XC_cond rfl (fun h6 => ?_) (fun h6 => ?_)
    · repeat first
        | refine XC_region ?_
        | refine Y_res (r_move rfl) rfl ?_
      refine X_call (g := 20) rfl rfl (fun w1 q1 => (sync_any q1 hA.ok).mono ?_)
      rintro e w2 ⟨ab, rfl, q2⟩
      refine ⟨_, rfl, _, q2, ?_⟩
      clear q1 q2
      by_cases hjn : (j : Int) < n
      · obtain ⟨e1, e2, e3, e4⟩ := hgo hjn
        rw [e2]
        repeat first
          | refine XC_region ?_
          | refine X_nil ?_
          | refine XC_seq ?_
          | refine XT_seq ?_
          | refine Y_res (r_move rfl) rfl ?_
          | refine Y_res (r_assign rfl) rfl ?_
          | refine Y_res (r_lss rfl rfl) rfl ?_
          | refine Y_res (r_eql rfl rfl) rfl ?_
          | refine Y_res (r_neqB rfl rfl) rfl ?_
          | refine Y_splitT rfl rfl (by omega) ?_
          | refine Y_splitF rfl rfl (by decide) ?_
        rw [decide_eq_true hjn]
        repeat first
          | refine Y_res (r_move rfl) rfl ?_
          | refine Y_res (r_neq rfl rfl) rfl ?_
          | refine Y_on rfl rfl ?_
          | refine Y_off rfl rfl rfl ?_
          | refine Y_res (r_pickF rfl rfl) rfl ?_
          | refine Y_splitF rfl rfl (by decide) ?_
        refine X_call (g := 19) rfl rfl (fun w1 q1 => (down_any q1).mono ?_)
        rintro e w2 ⟨rfl, q2⟩
        rw [e4]
        refine ⟨_, rfl, _, q2, ?_⟩
        clear q1 q2
        repeat first
          | refine X_nil ?_
          | refine XT_seq ?_
          | refine Y_res (r_move rfl) rfl ?_
          | refine Y_res (r_geq rfl rfl) rfl ?_
          | refine Y_res (r_neqB rfl rfl) rfl ?_
          | refine Y_on rfl rfl ?_
          | refine Y_res (r_pickF rfl rfl) rfl ?_
        rw [decide_eq_false (show ¬ n ≤ (j : Int) by omega)]
        repeat first
          | refine XC_region ?_
          | refine X_nil ?_
          | refine XC_condF rfl ?_
          | refine XT_seq ?_
          | refine XT_block_normal ?_
          | refine XC_skip ?_
          | refine Y_res (r_move rfl) rfl ?_
          | refine Y_res (r_add64 rfl rfl (by omega)) rfl ?_
        exact XT_round (j + 1, ab, (syncP p).1) ⟨by dsimp only; omega, hs1⟩ (by dsimp only; omega) ⟨rfl, rfl, rfl, rfl, rfl, rfl, trivial⟩ (fun _ h => h)
      · obtain ⟨e1, e2, e3, e4⟩ := hno (by omega)
        rw [e2]
        repeat first
          | refine XC_region ?_
          | refine X_nil ?_
          | refine XC_seq ?_
          | refine XT_seq ?_
          | refine Y_res (r_move rfl) rfl ?_
          | refine Y_res (r_assign rfl) rfl ?_
          | refine Y_res (r_lss rfl rfl) rfl ?_
          | refine Y_res (r_eql rfl rfl) rfl ?_
          | refine Y_res (r_neqB rfl rfl) rfl ?_
        rw [decide_eq_false hjn]
        repeat first
          | refine Y_res (r_move rfl) rfl ?_
          | refine Y_res (r_neq rfl rfl) rfl ?_
          | refine Y_on rfl rfl ?_
          | refine Y_res (r_pickT rfl rfl) rfl ?_
          | refine Y_res (r_pickF rfl rfl) rfl ?_
        refine X_call (g := 19) rfl rfl (fun w1 q1 => (down_any q1).mono ?_)
        rintro e w2 ⟨rfl, q2⟩
        rw [e4]
        refine ⟨_, rfl, _, q2, ?_⟩
        clear q1 q2
        repeat first
          | refine X_nil ?_
          | refine XT_seq ?_
          | refine Y_res (r_move rfl) rfl ?_
          | refine Y_res (r_geq rfl rfl) rfl ?_
          | refine Y_res (r_neqB rfl rfl) rfl ?_
          | refine Y_on rfl rfl ?_
          | refine Y_res (r_pickF rfl rfl) rfl ?_
        rw [decide_eq_true (show n ≤ (j : Int) by omega)]
        repeat first
          | refine XC_region ?_
          | refine X_nil ?_
          | refine XC_condF rfl ?_
          | refine XT_seq ?_
          | refine XT_block_normal ?_
          | refine XC_skip ?_
          | refine Y_res (r_move rfl) rfl ?_
          | refine Y_res (r_add64 rfl rfl (by omega)) rfl ?_
        exact XT_round (j + 1, ab, (syncP p).1) ⟨by dsimp only; omega, hs1⟩ (by dsimp only; omega) ⟨rfl, rfl, rfl, rfl, rfl, rfl, trivial⟩ (fun _ h => h)
    · repeat first
        | refine XC_region ?_
        | refine Y_res (r_move rfl) rfl ?_
        | refine Y_res (r_rem rfl rfl (by omega)) rfl ?_
      refine X_call (g := 11) rfl rfl (fun w1 q1 => (fill_es 1 64 (by decide) (by decide) q1).mono ?_)
      rintro e w2 ⟨B, cap, rfl, q2⟩
      refine ⟨_, rfl, _, q2, ?_⟩
      clear q1 q2
      skip
      refine X_call (g := 10) rfl rfl (fun w1 q1 => (write_rep ((j : Int) % 8) 1 64 _ _ hA.ok (by omega) q1).mono ?_)
      rintro e w2 ⟨ab, rfl, q2⟩
      refine ⟨_, rfl, _, q2, ?_⟩
      clear q1 q2
      by_cases hjn : (j : Int) < n
      · obtain ⟨e1, e2, e3, e4⟩ := hgo hjn
        rw [e1]
        repeat first
          | refine XC_region ?_
          | refine X_nil ?_
          | refine XC_seq ?_
          | refine XT_seq ?_
          | refine Y_res (r_move rfl) rfl ?_
          | refine Y_res (r_assign rfl) rfl ?_
          | refine Y_res (r_lss rfl rfl) rfl ?_
          | refine Y_res (r_eql rfl rfl) rfl ?_
          | refine Y_res (r_neqB rfl rfl) rfl ?_
          | refine Y_splitT rfl rfl (by omega) ?_
          | refine Y_splitF rfl rfl (by decide) ?_
        rw [decide_eq_true hjn]
        repeat first
          | refine Y_res (r_move rfl) rfl ?_
          | refine Y_res (r_neq rfl rfl) rfl ?_
          | refine Y_on rfl rfl ?_
          | refine Y_off rfl rfl rfl ?_
          | refine Y_res (r_pickF rfl rfl) rfl ?_
          | refine Y_splitF rfl rfl (by decide) ?_
        refine X_call (g := 19) rfl rfl (fun w1 q1 => (down_any q1).mono ?_)
        rintro e w2 ⟨rfl, q2⟩
        rw [e3]
        refine ⟨_, rfl, _, q2, ?_⟩
        clear q1 q2
        repeat first
          | refine X_nil ?_
          | refine XT_seq ?_
          | refine Y_res (r_move rfl) rfl ?_
          | refine Y_res (r_geq rfl rfl) rfl ?_
          | refine Y_res (r_neqB rfl rfl) rfl ?_
          | refine Y_on rfl rfl ?_
          | refine Y_res (r_pickF rfl rfl) rfl ?_
        rw [decide_eq_false (show ¬ n ≤ (j : Int) by omega)]
        repeat first
          | refine XC_region ?_
          | refine X_nil ?_
          | refine XC_condF rfl ?_
          | refine XT_seq ?_
          | refine XT_block_normal ?_
          | refine XC_skip ?_
          | refine Y_res (r_move rfl) rfl ?_
          | refine Y_res (r_add64 rfl rfl (by omega)) rfl ?_
        exact XT_round (j + 1, ab, (writeP p ((j : Int) % 8) (List.replicate 64 1)).1) ⟨by dsimp only; omega, hw1⟩ (by dsimp only; omega) ⟨rfl, rfl, rfl, rfl, rfl, rfl, trivial⟩ (fun _ h => h)
      · obtain ⟨e1, e2, e3, e4⟩ := hno (by omega)
        rw [e1]
        repeat first
          | refine XC_region ?_
          | refine X_nil ?_
          | refine XC_seq ?_
          | refine XT_seq ?_
          | refine Y_res (r_move rfl) rfl ?_
          | refine Y_res (r_assign rfl) rfl ?_
          | refine Y_res (r_lss rfl rfl) rfl ?_
          | refine Y_res (r_eql rfl rfl) rfl ?_
          | refine Y_res (r_neqB rfl rfl) rfl ?_
        rw [decide_eq_false hjn]
        repeat first
          | refine Y_res (r_move rfl) rfl ?_
          | refine Y_res (r_neq rfl rfl) rfl ?_
          | refine Y_on rfl rfl ?_
          | refine Y_res (r_pickT rfl rfl) rfl ?_
          | refine Y_res (r_pickF rfl rfl) rfl ?_
        refine X_call (g := 19) rfl rfl (fun w1 q1 => (down_any q1).mono ?_)
        rintro e w2 ⟨rfl, q2⟩
        rw [e3]
        refine ⟨_, rfl, _, q2, ?_⟩
        clear q1 q2
        repeat first
          | refine X_nil ?_
          | refine XT_seq ?_
          | refine Y_res (r_move rfl) rfl ?_
          | refine Y_res (r_geq rfl rfl) rfl ?_
          | refine Y_res (r_neqB rfl rfl) rfl ?_
          | refine Y_on rfl rfl ?_
          | refine Y_res (r_pickF rfl rfl) rfl ?_
        rw [decide_eq_true (show n ≤ (j : Int) by omega)]
        repeat first
          | refine XC_region ?_
          | refine X_nil ?_
          | refine XC_condF rfl ?_
          | refine XT_seq ?_
          | refine XT_block_normal ?_
          | refine XC_skip ?_
          | refine Y_res (r_move rfl) rfl ?_
          | refine Y_res (r_add64 rfl rfl (by omega)) rfl ?_
        exact XT_round (j + 1, ab, (writeP p ((j : Int) % 8) (List.replicate 64 1)).1) ⟨by dsimp only; omega, hw1⟩ (by dsimp only; omega) ⟨rfl, rfl, rfl, rfl, rfl, rfl, trivial⟩ (fun _ h => h)
  · obtain rfl : j = ks.length := by omega
    have hok := ok_rev hA.ok []
    by_cases hln : n < (ks.length : Int)
    · have hd := hA.dn hln
      have ht : thereP p 0 = 50 := by rw [thereP, if_pos hd]
      repeat first
        | refine XC_region ?_
        | refine XC_seq ?_
        | refine XT_seq ?_
        | refine XT_block_same rfl ?_
        | refine XT_then_exit ?_
        | refine XC_exit ?_
        | refine Y_res (r_move rfl) rfl ?_
      refine X_call (g := 12) rfl rfl (fun w1 q1 => (read_no 0 q1 (by rw [ht]; decide)).mono ?_)
      rintro e w2 ⟨rfl, q2⟩
      rw [ht]
      refine ⟨_, rfl, _, q2, ?_⟩
      clear q1 q2
      repeat first
        | refine XC_region ?_
        | refine X_nil ?_
        | refine XC_condF rfl ?_
        | refine XC_seq ?_
        | refine XT_seq ?_
        | refine XC_skip ?_
        | refine Y_res (r_move rfl) rfl ?_
        | refine Y_res (r_assign rfl) rfl ?_
        | refine Y_res (r_gtr rfl rfl) rfl ?_
        | refine Y_res (r_neq rfl rfl) rfl ?_
        | refine Y_on rfl rfl ?_
        | refine Y_res (r_len rfl) rfl ?_
        | refine Y_res (r_extract rfl rfl) rfl ?_
        | refine Y_res (r_pickT rfl rfl) rfl ?_
        | refine Y_splitT rfl rfl (by omega) ?_
      refine X_call (g := 14) rfl rfl (fun w1 q1 => (revive_any [] none 0 q1 hA.ok (fun cs w1 h1 => ⟨by decide, by decide, fun _ => rfl, rfl, fun j v h => by simp at h⟩)).mono ?_)
      rintro e w2 ⟨ac, rfl, q2⟩
      refine ⟨_, rfl, _, q2, ?_⟩
      clear q1 q2
      have hwr : writeP (revP p []) (0 : Nat) (List.replicate 64 2) = _ := writeP_done rfl (by show (-1 : Int) < 0; omega) (by show 0 < p.n; rw [hA.n8]; omega) (by simp)
      have kw := ok_write hok (by show 0 ≤ 10000; omega) (0 : Nat) (List.replicate 64 2)
      have hlw : (writeP (revP p []) (0 : Nat) (List.replicate 64 2)).2 = 0 := by rw [hwr]
      have hdw : (writeP (revP p []) (0 : Nat) (List.replicate 64 2)).1.down = false := by rw [hwr]; rfl
      have hfw : (writeP (revP p []) (0 : Nat) (List.replicate 64 2)).1.left < 0 := by rw [hwr]; show (-1 : Int) < 0; omega
      clear hwr
      repeat first
        | refine XC_region ?_
        | refine X_nil ?_
        | refine XC_seq ?_
        | refine XT_seq ?_
        | refine Y_res (r_move rfl) rfl ?_
      refine X_call (g := 11) rfl rfl (fun w1 q1 => (fill_es 2 64 (by decide) (by decide) q1).mono ?_)
      rintro e w2 ⟨B, cap, rfl, q2⟩
      refine ⟨_, rfl, _, q2, ?_⟩
      clear q1 q2
      skip
      refine X_call (g := 10) rfl rfl (fun w1 q1 => (write_rep (0 : Nat) 2 64 _ _ hok (by show 0 ≤ 10000; omega) q1).mono ?_)
      rintro e w2 ⟨ad, rfl, q2⟩
      rw [hlw]
      refine ⟨_, rfl, _, q2, ?_⟩
      clear q1 q2
      repeat first
        | refine Y_res (r_move rfl) rfl ?_
        | refine Y_res (r_eql rfl rfl) rfl ?_
        | refine Y_on rfl rfl ?_
        | refine Y_splitT rfl rfl (by decide) ?_
      refine X_call (g := 20) rfl rfl (fun w1 q1 => (sync_any q1 kw).mono ?_)
      rintro e w2 ⟨ae, rfl, q2⟩
      rw [syncP_done hdw hfw] at q2 ⊢
      refine ⟨_, rfl, _, q2, ?_⟩
      clear q1 q2
      repeat first
        | refine Y_res (r_move rfl) rfl ?_
        | refine Y_res (r_eql rfl rfl) rfl ?_
        | refine Y_on rfl rfl ?_
        | refine Y_res (r_pickT rfl rfl) rfl ?_
        | refine Y_splitT rfl rfl (by decide) ?_
      refine X_call (g := 13) rfl rfl (fun w1 q1 => (loose_any q1).mono ?_)
      rintro e w2 ⟨rfl, q2⟩
      refine ⟨_, rfl, _, q2, ?_⟩
      clear q1 q2
      repeat first
        | refine X_nil ?_
        | refine XT_seq ?_
        | refine XC_ret ?_
        | refine Y_res (r_assign rfl) rfl ?_
        | refine Y_res (r_eql rfl rfl) rfl ?_
        | refine Y_on rfl rfl ?_
        | refine Y_res (r_pickT rfl rfl) rfl ?_
      exact XT_says (.inl rfl) Try.results6 rfl rfl
    · obtain ⟨hd, hl⟩ := hA.up (by omega)
      have hnl := hA.ok.nl
      have hn8 := hA.n8
      obtain ⟨s0, hs0⟩ : ∃ s0, p.now[0]? = some s0 := ⟨p.now[0]'(by omega), List.getElem?_eq_getElem (by omega)⟩
      repeat first
        | refine XC_region ?_
        | refine XC_seq ?_
        | refine XT_seq ?_
        | refine XT_block_same rfl ?_
        | refine XT_then_exit ?_
        | refine XC_exit ?_
        | refine Y_res (r_move rfl) rfl ?_
      refine X_call (g := 12) rfl rfl (fun w1 q1 => (read_es 0 _ hA.ok hd hs0 q1).mono ?_)
      rintro e w2 ⟨b, rfl, q2⟩
      refine ⟨_, rfl, _, q2.tail, ?_⟩
      clear q1 q2
      repeat first
        | refine XC_region ?_
        | refine X_nil ?_
        | refine XC_condF rfl ?_
        | refine XC_seq ?_
        | refine XT_seq ?_
        | refine XC_skip ?_
        | refine Y_res (r_move rfl) rfl ?_
        | refine Y_res (r_assign rfl) rfl ?_
        | refine Y_res (r_gtr rfl rfl) rfl ?_
        | refine Y_off rfl rfl rfl ?_
        | refine Y_res (r_len rfl) rfl ?_
        | refine Y_res (r_extract rfl rfl) rfl ?_
        | refine Y_res (r_pickF rfl rfl) rfl ?_
        | refine Y_splitF rfl rfl (by omega) ?_
      skip
      refine X_call (g := 14) rfl rfl (fun w1 q1 => (revive_any [] none 0 q1 hA.ok (fun cs w1 h1 => ⟨by decide, by decide, fun _ => rfl, rfl, fun j v h => by simp at h⟩)).mono ?_)
      rintro e w2 ⟨ac, rfl, q2⟩
      refine ⟨_, rfl, _, q2, ?_⟩
      clear q1 q2
      have hwr : writeP (revP p []) (0 : Nat) (List.replicate 64 2) = _ := writeP_done rfl (by show (-1 : Int) < 0; omega) (by show 0 < p.n; rw [hA.n8]; omega) (by simp)
      have kw := ok_write hok (by show 0 ≤ 10000; omega) (0 : Nat) (List.replicate 64 2)
      have hlw : (writeP (revP p []) (0 : Nat) (List.replicate 64 2)).2 = 0 := by rw [hwr]
      have hdw : (writeP (revP p []) (0 : Nat) (List.replicate 64 2)).1.down = false := by rw [hwr]; rfl
      have hfw : (writeP (revP p []) (0 : Nat) (List.replicate 64 2)).1.left < 0 := by rw [hwr]; show (-1 : Int) < 0; omega
      clear hwr
      repeat first
        | refine XC_region ?_
        | refine X_nil ?_
        | refine XC_seq ?_
        | refine XT_seq ?_
        | refine Y_res (r_move rfl) rfl ?_
      refine X_call (g := 11) rfl rfl (fun w1 q1 => (fill_es 2 64 (by decide) (by decide) q1).mono ?_)
      rintro e w2 ⟨B, cap, rfl, q2⟩
      refine ⟨_, rfl, _, q2, ?_⟩
      clear q1 q2
      skip
      refine X_call (g := 10) rfl rfl (fun w1 q1 => (write_rep (0 : Nat) 2 64 _ _ hok (by show 0 ≤ 10000; omega) q1).mono ?_)
      rintro e w2 ⟨ad, rfl, q2⟩
      rw [hlw]
      refine ⟨_, rfl, _, q2, ?_⟩
      clear q1 q2
      repeat first
        | refine Y_res (r_move rfl) rfl ?_
        | refine Y_res (r_eql rfl rfl) rfl ?_
        | refine Y_on rfl rfl ?_
        | refine Y_splitT rfl rfl (by decide) ?_
      refine X_call (g := 20) rfl rfl (fun w1 q1 => (sync_any q1 kw).mono ?_)
      rintro e w2 ⟨ae, rfl, q2⟩
      rw [syncP_done hdw hfw] at q2 ⊢
      refine ⟨_, rfl, _, q2, ?_⟩
      clear q1 q2
      repeat first
        | refine Y_res (r_move rfl) rfl ?_
        | refine Y_res (r_eql rfl rfl) rfl ?_
        | refine Y_on rfl rfl ?_
        | refine Y_res (r_pickT rfl rfl) rfl ?_
        | refine Y_splitT rfl rfl (by decide) ?_
      refine X_call (g := 13) rfl rfl (fun w1 q1 => (loose_any q1).mono ?_)
      rintro e w2 ⟨rfl, q2⟩
      refine ⟨_, rfl, _, q2, ?_⟩
      clear q1 q2
      repeat first
        | refine X_nil ?_
        | refine XT_seq ?_
        | refine XC_ret ?_
        | refine Y_res (r_assign rfl) rfl ?_
        | refine Y_res (r_eql rfl rfl) rfl ?_
        | refine Y_on rfl rfl ?_
        | refine Y_res (r_pickT rfl rfl) rfl ?_
      exact XT_says (.inl rfl) Try.results6 rfl rfl
end Go.Proofs.Ytipikjikjjmmiaa.NPl
