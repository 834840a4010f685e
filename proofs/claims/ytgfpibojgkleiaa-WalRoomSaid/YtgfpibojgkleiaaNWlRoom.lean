/- WalRoom, walked: true at every input. -/
import Derived.Test.YtgfpibojgkleiaaNWlA
namespace Go.Proofs.Ytgfpibojgkleiaa.NWl
open Go Go.RowKit Go.Proofs.Ytgfpibojgkleiaa.MX Go.Proofs.Ytgfpibojgkleiaa.PWal Go.Proofs.Ytgfpibojgkleiaa.NPl
set_option linter.unusedVariables false
set_option linter.unusedSimpArgs false
set_option linter.unusedVariables false
set_option maxRecDepth 100000 in
set_option maxHeartbeats 8000000 in
theorem room_law (m f : Int) (w : World) (hm : (Lit.int .i64 m).wf = true) (hf : (Lit.int .i64 f).wf = true) :
    Calls Try.prog 3 #[.int .i64 m, .int .i64 f] w fun e w' => e = .returned (.bool true) ∧ Chg (fun _ => False) w w' := by
  have hm64 := wf64 hm
  have hf64 := wf64 hf
  refine calls_of_X (Rr := Says w (.bool true)) (vs := [_, _]) (M := Hp w (fun _ => False) []) Try.func3 rfl Try.ntmps3 rfl (Hp.nil _ _) ?_
  repeat first
    | refine XC_region ?_
    | refine X_nil ?_
    | refine XC_condF rfl ?_
    | refine XC_seq ?_
    | refine XT_seq ?_
    | refine XC_skip ?_
    | refine Y_res (r_move rfl) rfl ?_
    | refine Y_res (r_assign rfl) rfl ?_
    | refine Y_res (r_lss rfl rfl) rfl ?_
    | refine Y_res (r_notB rfl) rfl ?_
    | refine Y_says (g := 9) rfl rfl (fun w1 hM => anchor_any w1) ?_
  refine Y_split rfl rfl (fun h1 => ?_) (fun h1 => ?_)
  · repeat first
      | refine XC_region ?_
      | refine X_nil ?_
      | refine XC_condT rfl ?_
      | refine XC_seq ?_
      | refine XT_seq ?_
      | refine XT_then_ret ?_
      | refine XC_ret ?_
      | refine Y_res (r_move rfl) rfl ?_
      | refine Y_res (r_assign rfl) rfl ?_
      | refine Y_off rfl rfl rfl ?_
      | refine Y_res (r_pickT rfl rfl) rfl ?_
    exact XT_says (.inl rfl) Try.results3 rfl rfl
  repeat first
    | refine Y_res (r_move rfl) rfl ?_
    | refine Y_res (r_gtr rfl rfl) rfl ?_
    | refine Y_on rfl rfl ?_
    | refine Y_res (r_pickF rfl rfl) rfl ?_
  refine Y_split rfl rfl (fun h2 => ?_) (fun h2 => ?_)
  · repeat first
      | refine XC_region ?_
      | refine X_nil ?_
      | refine XC_condT rfl ?_
      | refine XC_seq ?_
      | refine XT_seq ?_
      | refine XT_then_ret ?_
      | refine XC_ret ?_
      | refine Y_res (r_move rfl) rfl ?_
      | refine Y_res (r_assign rfl) rfl ?_
      | refine Y_off rfl rfl rfl ?_
      | refine Y_res (r_pickT rfl rfl) rfl ?_
    exact XT_says (.inl rfl) Try.results3 rfl rfl
  repeat first
    | refine Y_res (r_move rfl) rfl ?_
    | refine Y_res (r_lss rfl rfl) rfl ?_
    | refine Y_on rfl rfl ?_
    | refine Y_res (r_pickF rfl rfl) rfl ?_
  refine Y_split rfl rfl (fun h3 => ?_) (fun h3 => ?_)
  · repeat first
      | refine XC_region ?_
      | refine X_nil ?_
      | refine XC_condT rfl ?_
      | refine XC_seq ?_
      | refine XT_seq ?_
      | refine XT_then_ret ?_
      | refine XC_ret ?_
      | refine Y_res (r_assign rfl) rfl ?_
      | refine Y_off rfl rfl rfl ?_
      | refine Y_res (r_pickT rfl rfl) rfl ?_
    exact XT_says (.inl rfl) Try.results3 rfl rfl
  repeat first
    | refine X_nil ?_
    | refine XT_seq ?_
    | refine Y_res (r_move rfl) rfl ?_
    | refine Y_res (r_gtr rfl rfl) rfl ?_
    | refine Y_on rfl rfl ?_
    | refine Y_res (r_pickF rfl rfl) rfl ?_
  refine XC_condP rfl (fun h4 => ?_) (fun h4 => ?_)
  · repeat first
      | refine XC_region ?_
      | refine X_nil ?_
      | refine XC_seq ?_
      | refine XT_seq ?_
      | refine XT_then_ret ?_
      | refine XC_ret ?_
      | refine Y_res (r_assign rfl) rfl ?_
    exact XT_says (.inl rfl) Try.results3 rfl rfl
  obtain ⟨size, rfl⟩ : ∃ q : Nat, m = q := ⟨m.toNat, by omega⟩
  obtain ⟨first, rfl⟩ : ∃ q : Nat, f = q := ⟨f.toNat, by omega⟩
  repeat first
    | refine XC_region ?_
    | refine XC_seq ?_
    | refine XT_seq ?_
    | refine XC_skip ?_
  refine X_call (g := 10) rfl rfl (fun w1 q1 => (new_es 128 q1 (by decide) (by decide)).mono ?_)
  rintro e w2 ⟨g, pa, rfl, q2⟩
  refine ⟨_, rfl, _, q2, ?_⟩
  clear q1 q2
  have hu := upp_new (n := 128) (by decide) (by decide)
  have hg : ∀ i, (rdS (nowAt (new0 128) i)).gen ≠ 1 := fun i => new_gen (by decide)
  have hn8 : (new0 128).n = 128 := rfl
  generalize new0 128 = p at *
  repeat first
    | refine XC_region ?_
    | refine X_nil ?_
    | refine XC_condF rfl ?_
    | refine XC_seq ?_
    | refine XT_seq ?_
    | refine XC_skip ?_
    | refine Y_res (r_move rfl) rfl ?_
    | refine Y_res (r_assign rfl) rfl ?_
    | refine Y_res (r_eqlNil rfl rfl) rfl ?_
  refine X_call (g := 11) rfl rfl (fun w1 q1 => (open_any 0 size 1 q1 hu.ok hu.dn hu.wf (by omega) (by omega) (by decide)).mono ?_)
  rintro e w2 ⟨gl, a, rfl, q2, hj⟩
  have eo : openP (nowAt p) 0 size 1 = ⟨0, size, 1, 1, 1, [], false⟩ := open_none (fun i _ _ => hg i) (by omega)
  rw [eo] at q2 hj
  refine ⟨_, rfl, _, q2, ?_⟩
  clear q1 q2 eo hg
  have h0 : Go1 p ⟨0, size, 1, 1, 1, [], false⟩ a := ⟨hu, ⟨Nat.zero_le _, by dsimp only; omega, (show (1 : Nat) ≤ 1 ∧ 1 < 2147483648 by decide), (show (1 : Nat) ≤ 4294967296 by decide), (show (1 : Nat) ≤ 100000 by decide), (show (0 : Nat) ≤ 100000 by decide)⟩, (show (1 : Nat) < 4294967296 by decide), rfl, by dsimp only; omega, hj⟩
  have hnf : ((first : Int) + 4 + 47) / 48 = ((needs first : Nat) : Int) := by unfold needs; omega
  have hnd := needs_bd first
  repeat first
    | refine XC_region ?_
    | refine X_nil ?_
    | refine XC_condF rfl ?_
    | refine XC_seq ?_
    | refine XT_seq ?_
    | refine XC_skip ?_
    | refine Y_res (r_move rfl) rfl ?_
    | refine Y_res (r_assign rfl) rfl ?_
    | refine Y_res (r_add64 rfl rfl (by omega)) rfl ?_
    | refine Y_res (r_quo rfl rfl (by omega)) rfl ?_
    | refine Y_res (r_neq rfl rfl) rfl ?_
    | refine Y_res (r_eqlNil rfl rfl) rfl ?_
    | refine Y_on rfl rfl ?_
    | refine Y_res (r_extract rfl rfl) rfl ?_
    | refine Y_res (r_pickF rfl rfl) rfl ?_
    | (refine X_make rfl rfl (by omega) (by omega) (by omega) rfl ?_; intro _ _)
    | (refine Y_res (r_quo rfl rfl (by omega)) rfl ?_; rw [hnf])
  rename_i g1 hg1
  by_cases hfit : needs first ≤ size
  · obtain ⟨q, k1, k2, k3, k4⟩ := h0.next (b := List.replicate first 0) (a' := a) (zs_wf first) (by rw [List.length_replicate]; omega) (by rw [List.length_replicate]; dsimp only; omega) (show (1 : Nat) ≤ 50000 by decide) (show (0 : Nat) ≤ 50000 by decide)
    refine X_call (g := 12) rfl rfl (fun w1 q1 => (append_zs first g1 q1 h0 (by omega)).mono ?_)
    rintro e w2 ⟨a1, pa1, rfl, q2, hj1⟩
    rw [k1] at q2 hj1 ⊢
    refine ⟨_, rfl, _, q2, ?_⟩
    clear q1 q2
    have h1' := k4 a1 hj1
    obtain ⟨l1, hl1⟩ : ∃ l1 : Lg, l1 = { at_ := 0 + needs (List.replicate first (0 : Int)).length, to := size, gen := 1, op := 1, nx := 1 + 1, list := [] ++ [List.replicate first 0], broken := false } := ⟨_, rfl⟩
    have f1 : l1.at_ = needs first ∧ l1.to = size ∧ l1.nx = 2 ∧ l1.list.length = 1 := by rw [hl1]; simp
    have hG : Go1 q l1 a1 := by rw [hl1]; exact h1'
    refine X_mem (M' := Hp w (fun _ => False) (WlC gl g l1 a1 (PlC g pa1 q []))) (fun _ h => by rw [hl1]; exact h) ?_
    clear k1 k4 h0 hl1 h1'
    have hu1 : ((first : Int) + 4 + 47) / 48 ≤ (size : Int) := by omega
    repeat first
      | refine XC_region ?_
      | refine X_nil ?_
      | refine XC_condF rfl ?_
      | refine XC_seq ?_
      | refine XT_seq ?_
      | refine XC_skip ?_
      | refine Y_res (r_move rfl) rfl ?_
      | refine Y_res (r_assign rfl) rfl ?_
      | refine Y_res (r_leq rfl rfl) rfl ?_
      | refine Y_res (r_eql rfl rfl) rfl ?_
      | refine Y_res (r_neq rfl rfl) rfl ?_
      | refine Y_res (r_neqB rfl rfl) rfl ?_
      | refine Y_on rfl rfl ?_
      | refine Y_off rfl rfl rfl ?_
      | refine Y_res (r_pickF rfl rfl) rfl ?_
      | refine Y_splitB rfl rfl (fun h => absurd h (by simp [hu1])) (fun _ => ?_)
    obtain ⟨f2, f3, f4, f5⟩ := f1
    refine X_call (g := 13) rfl rfl (fun w1 q1 => (room_any q1 hG.ok).mono ?_)
    rintro e w2 ⟨rfl, q2⟩
    refine ⟨_, rfl, _, q2, ?_⟩
    clear q1 q2
    have hrm : roomL l1 = if l1.at_ = l1.to then -1 else 48 * ((l1.to : Int) - l1.at_) - 4 := by
      unfold roomL
      split
      · rfl
      · rw [if_neg (by omega)]; omega
    rw [hrm]
    by_cases hful : l1.at_ = l1.to
    · rw [if_pos hful]
      have hz := append_full (p := q) (l := l1) (b := []) hG.br (by decide) (by rw [hful, Nat.sub_self]; decide)
      repeat first
        | refine XC_region ?_
        | refine X_nil ?_
        | refine XC_seq ?_
        | refine XT_seq ?_
        | refine Y_res (r_move rfl) rfl ?_
        | refine Y_res (r_assign rfl) rfl ?_
        | refine Y_res (r_eql rfl rfl) rfl ?_
      refine XC_condP rfl (fun _ => ?_) (fun hx => absurd (by omega) hx)
      repeat first
        | refine XC_region ?_
        | refine XC_seq ?_
        | refine Y_res (r_move rfl) rfl ?_
        | refine Y_res (r_eql rfl rfl) rfl ?_
        | refine Y_on rfl rfl ?_
      refine X_call (g := 12) rfl rfl (fun w1 q1 => (append_nil q1 hG).mono ?_)
      rintro e w2 ⟨a3, pa3, rfl, q2, hj3⟩
      rw [hz] at q2 hj3 ⊢
      refine ⟨_, rfl, _, q2, ?_⟩
      clear q1 q2
      repeat first
        | refine X_nil ?_
        | refine XT_seq ?_
        | refine XT_then_ret ?_
        | refine XC_ret ?_
        | refine Y_res (r_assign rfl) rfl ?_
        | refine Y_res (r_eql rfl rfl) rfl ?_
        | refine Y_on rfl rfl ?_
        | refine Y_res (r_pickT rfl rfl) rfl ?_
      exact XT_says (.inl rfl) Try.results3 rfl rfl
    · rw [if_neg hful]
      have hle := hG.ok.le
      obtain ⟨rm, hrm2⟩ : ∃ rm : Nat, rm = 48 * (l1.to - l1.at_) - 4 := ⟨_, rfl⟩
      have hrmi : (48 * ((l1.to : Int) - l1.at_) - 4) = (rm : Int) := by omega
      rw [hrmi]
      have hn1 : needs (rm + 1) = l1.to - l1.at_ + 1 := by unfold needs; omega
      have hn2 : needs rm = l1.to - l1.at_ := by unfold needs; omega
      have hz1 := append_full (p := q) (l := l1) (b := List.replicate (rm + 1) 0) hG.br (by rw [List.length_replicate]; omega) (by rw [List.length_replicate, hn1]; omega)
      repeat first
        | refine XC_region ?_
        | refine X_nil ?_
        | refine XC_seq ?_
        | refine XT_seq ?_
        | refine Y_res (r_move rfl) rfl ?_
        | refine Y_res (r_assign rfl) rfl ?_
        | refine Y_res (r_eql rfl rfl) rfl ?_
      refine XC_condP rfl (fun hx => absurd (by omega) hful) (fun _ => ?_)
      repeat first
        | refine XC_region ?_
        | refine XC_seq ?_
        | refine XT_seq ?_
        | refine XC_skip ?_
        | refine Y_res (r_move rfl) rfl ?_
        | refine Y_res (r_add64 rfl rfl (by omega)) rfl ?_
        | refine Y_res (r_sub64 rfl rfl (by omega)) rfl ?_
        | refine Y_res (r_mul64 rfl rfl (by omega)) rfl ?_
        | refine Y_res (r_eql rfl rfl) rfl ?_
        | refine Y_on rfl rfl ?_
        | (refine X_make rfl rfl (by omega) (by omega) (by omega) rfl ?_; intro _ _)
        | refine Y_splitT rfl rfl (by omega) ?_
      refine Y_re (e := 88) (v' := .int .i64 ((rm + 1 : Nat) : Int)) rfl (by congr 1) ?_
      skip
      rename_i g3 hg3
      refine X_call (g := 12) rfl rfl (fun w1 q1 => (append_zs (rm + 1) g3 q1 hG (by omega)).mono ?_)
      rintro e w2 ⟨a3, pa3, rfl, q2, hj3⟩
      rw [hz1] at q2 hj3 ⊢
      refine ⟨_, rfl, _, q2, ?_⟩
      clear q1 q2
      have hG3 : Go1 q l1 a3 := ⟨hG.up, hG.ok, hG.op, hG.br, hG.tn, hj3⟩
      obtain ⟨q', m1, m2, m3, m4⟩ := hG3.next (b := List.replicate rm 0) (a' := a) (zs_wf rm) (by rw [List.length_replicate]; omega) (by rw [List.length_replicate, hn2]; omega) (by omega) (by omega)
      repeat first
        | refine Y_res (r_move rfl) rfl ?_
        | refine Y_res (r_eql rfl rfl) rfl ?_
        | refine Y_on rfl rfl ?_
        | refine Y_res (r_pickT rfl rfl) rfl ?_
        | (refine X_make rfl rfl (by omega) (by omega) (by omega) rfl ?_; intro _ _)
      rename_i g4 hg4
      refine X_call (g := 12) rfl rfl (fun w1 q1 => (append_zs rm g4 q1 hG3 (by omega)).mono ?_)
      rintro e w2 ⟨a4, pa4, rfl, q2, hj4⟩
      rw [m1] at q2 hj4 ⊢
      refine ⟨_, rfl, _, q2, ?_⟩
      clear q1 q2
      have hG4 := m4 a4 hj4
      have hrl : roomL { l1 with at_ := l1.at_ + needs (List.replicate rm (0 : Int)).length, nx := l1.nx + 1, list := l1.list ++ [List.replicate rm 0] } = -1 := by
        rw [roomL, if_pos (by rw [List.length_replicate, hn2]; dsimp only; omega)]
      have hz2 := append_full (p := q') (b := []) hG4.br (by decide) (by rw [List.length_replicate, hn2]; dsimp only; rw [show l1.to - (l1.at_ + (l1.to - l1.at_)) = 0 by omega]; decide)
      repeat first
        | refine Y_res (r_move rfl) rfl ?_
        | refine Y_res (r_eql rfl rfl) rfl ?_
        | refine Y_on rfl rfl ?_
        | refine Y_res (r_pickT rfl rfl) rfl ?_
      refine X_call (g := 13) rfl rfl (fun w1 q1 => (room_any q1 hG4.ok).mono ?_)
      rintro e w2 ⟨rfl, q2⟩
      rw [hrl]
      refine ⟨_, rfl, _, q2, ?_⟩
      clear q1 q2
      repeat first
        | refine Y_res (r_move rfl) rfl ?_
        | refine Y_res (r_eql rfl rfl) rfl ?_
        | refine Y_on rfl rfl ?_
        | refine Y_res (r_pickT rfl rfl) rfl ?_
      refine X_call (g := 12) rfl rfl (fun w1 q1 => (append_nil q1 hG4).mono ?_)
      rintro e w2 ⟨a5, pa5, rfl, q2, hj5⟩
      rw [hz2] at q2 hj5 ⊢
      refine ⟨_, rfl, _, q2, ?_⟩
      clear q1 q2
      repeat first
        | refine X_nil ?_
        | refine XT_seq ?_
        | refine XC_ret ?_
        | refine Y_res (r_assign rfl) rfl ?_
        | refine Y_res (r_eql rfl rfl) rfl ?_
        | refine Y_on rfl rfl ?_
        | refine Y_res (r_pickT rfl rfl) rfl ?_
      exact XT_says (.inl rfl) Try.results3 rfl rfl
  · have hff := append_full (p := p) (l := ⟨0, size, 1, 1, 1, [], false⟩) (b := List.replicate first 0) rfl (by rw [List.length_replicate]; omega) (by rw [List.length_replicate]; dsimp only; omega)
    refine X_call (g := 12) rfl rfl (fun w1 q1 => (append_zs first g1 q1 h0 (by omega)).mono ?_)
    rintro e w2 ⟨a1, pa1, rfl, q2, hj1⟩
    rw [hff] at q2 hj1 ⊢
    refine ⟨_, rfl, _, q2, ?_⟩
    clear q1 q2
    have hG : Go1 p ⟨0, size, 1, 1, 1, [], false⟩ a1 := ⟨h0.up, h0.ok, h0.op, h0.br, h0.tn, hj1⟩
    obtain ⟨l1, hl1⟩ : ∃ l1 : Lg, l1 = ⟨0, size, 1, 1, 1, [], false⟩ := ⟨_, rfl⟩
    rw [← hl1] at hG
    have f1 : l1.at_ = 0 ∧ l1.to = size ∧ l1.nx = 1 ∧ l1.list.length = 0 := by rw [hl1]; simp
    refine X_mem (M' := Hp w (fun _ => False) (WlC gl g l1 a1 (PlC g pa1 p []))) (fun _ h => by rw [hl1]; exact h) ?_
    clear h0 hl1 hff
    have hu1 : (size : Int) < ((first : Int) + 4 + 47) / 48 := by omega
    obtain ⟨q, hq⟩ : ∃ q, q = p := ⟨_, rfl⟩
    rw [← hq] at hG ⊢
    repeat first
      | refine XC_region ?_
      | refine X_nil ?_
      | refine XC_condT rfl ?_
      | refine XC_condF rfl ?_
      | refine XC_seq ?_
      | refine XT_seq ?_
      | refine Y_res (r_move rfl) rfl ?_
      | refine Y_res (r_assign rfl) rfl ?_
      | refine Y_res (r_leq rfl rfl) rfl ?_
      | refine Y_res (r_eql rfl rfl) rfl ?_
      | refine Y_res (r_neq rfl rfl) rfl ?_
      | refine Y_res (r_neqB rfl rfl) rfl ?_
      | refine Y_on rfl rfl ?_
      | refine Y_res (r_pickT rfl rfl) rfl ?_
      | refine Y_res (r_pickF rfl rfl) rfl ?_
      | refine Y_splitB rfl rfl (fun h => absurd h (by simp [hu1])) (fun _ => ?_)
    obtain ⟨f2, f3, f4, f5⟩ := f1
    refine X_call (g := 13) rfl rfl (fun w1 q1 => (room_any q1 hG.ok).mono ?_)
    rintro e w2 ⟨rfl, q2⟩
    refine ⟨_, rfl, _, q2, ?_⟩
    clear q1 q2
    have hrm : roomL l1 = if l1.at_ = l1.to then -1 else 48 * ((l1.to : Int) - l1.at_) - 4 := by
      unfold roomL
      split
      · rfl
      · rw [if_neg (by omega)]; omega
    rw [hrm]
    by_cases hful : l1.at_ = l1.to
    · rw [if_pos hful]
      have hz := append_full (p := q) (l := l1) (b := []) hG.br (by decide) (by rw [hful, Nat.sub_self]; decide)
      repeat first
        | refine XC_region ?_
        | refine X_nil ?_
        | refine XC_seq ?_
        | refine XT_seq ?_
        | refine Y_res (r_move rfl) rfl ?_
        | refine Y_res (r_assign rfl) rfl ?_
        | refine Y_res (r_eql rfl rfl) rfl ?_
      refine XC_condP rfl (fun _ => ?_) (fun hx => absurd (by omega) hx)
      repeat first
        | refine XC_region ?_
        | refine XC_seq ?_
        | refine Y_res (r_move rfl) rfl ?_
        | refine Y_res (r_eql rfl rfl) rfl ?_
        | refine Y_on rfl rfl ?_
      refine X_call (g := 12) rfl rfl (fun w1 q1 => (append_nil q1 hG).mono ?_)
      rintro e w2 ⟨a3, pa3, rfl, q2, hj3⟩
      rw [hz] at q2 hj3 ⊢
      refine ⟨_, rfl, _, q2, ?_⟩
      clear q1 q2
      repeat first
        | refine X_nil ?_
        | refine XT_seq ?_
        | refine XT_then_ret ?_
        | refine XC_ret ?_
        | refine Y_res (r_assign rfl) rfl ?_
        | refine Y_res (r_eql rfl rfl) rfl ?_
        | refine Y_on rfl rfl ?_
        | refine Y_res (r_pickT rfl rfl) rfl ?_
      exact XT_says (.inl rfl) Try.results3 rfl rfl
    · rw [if_neg hful]
      have hle := hG.ok.le
      obtain ⟨rm, hrm2⟩ : ∃ rm : Nat, rm = 48 * (l1.to - l1.at_) - 4 := ⟨_, rfl⟩
      have hrmi : (48 * ((l1.to : Int) - l1.at_) - 4) = (rm : Int) := by omega
      rw [hrmi]
      have hn1 : needs (rm + 1) = l1.to - l1.at_ + 1 := by unfold needs; omega
      have hn2 : needs rm = l1.to - l1.at_ := by unfold needs; omega
      have hz1 := append_full (p := q) (l := l1) (b := List.replicate (rm + 1) 0) hG.br (by rw [List.length_replicate]; omega) (by rw [List.length_replicate, hn1]; omega)
      repeat first
        | refine XC_region ?_
        | refine X_nil ?_
        | refine XC_seq ?_
        | refine XT_seq ?_
        | refine Y_res (r_move rfl) rfl ?_
        | refine Y_res (r_assign rfl) rfl ?_
        | refine Y_res (r_eql rfl rfl) rfl ?_
      refine XC_condP rfl (fun hx => absurd (by omega) hful) (fun _ => ?_)
      repeat first
        | refine XC_region ?_
        | refine XC_seq ?_
        | refine XT_seq ?_
        | refine XC_skip ?_
        | refine Y_res (r_move rfl) rfl ?_
        | refine Y_res (r_add64 rfl rfl (by omega)) rfl ?_
        | refine Y_res (r_sub64 rfl rfl (by omega)) rfl ?_
        | refine Y_res (r_mul64 rfl rfl (by omega)) rfl ?_
        | refine Y_res (r_eql rfl rfl) rfl ?_
        | refine Y_on rfl rfl ?_
        | (refine X_make rfl rfl (by omega) (by omega) (by omega) rfl ?_; intro _ _)
        | refine Y_splitT rfl rfl (by omega) ?_
      refine Y_re (e := 88) (v' := .int .i64 ((rm + 1 : Nat) : Int)) rfl (by congr 1) ?_
      skip
      rename_i g3 hg3
      refine X_call (g := 12) rfl rfl (fun w1 q1 => (append_zs (rm + 1) g3 q1 hG (by omega)).mono ?_)
      rintro e w2 ⟨a3, pa3, rfl, q2, hj3⟩
      rw [hz1] at q2 hj3 ⊢
      refine ⟨_, rfl, _, q2, ?_⟩
      clear q1 q2
      have hG3 : Go1 q l1 a3 := ⟨hG.up, hG.ok, hG.op, hG.br, hG.tn, hj3⟩
      obtain ⟨q', m1, m2, m3, m4⟩ := hG3.next (b := List.replicate rm 0) (a' := a) (zs_wf rm) (by rw [List.length_replicate]; omega) (by rw [List.length_replicate, hn2]; omega) (by omega) (by omega)
      repeat first
        | refine Y_res (r_move rfl) rfl ?_
        | refine Y_res (r_eql rfl rfl) rfl ?_
        | refine Y_on rfl rfl ?_
        | refine Y_res (r_pickT rfl rfl) rfl ?_
        | (refine X_make rfl rfl (by omega) (by omega) (by omega) rfl ?_; intro _ _)
      rename_i g4 hg4
      refine X_call (g := 12) rfl rfl (fun w1 q1 => (append_zs rm g4 q1 hG3 (by omega)).mono ?_)
      rintro e w2 ⟨a4, pa4, rfl, q2, hj4⟩
      rw [m1] at q2 hj4 ⊢
      refine ⟨_, rfl, _, q2, ?_⟩
      clear q1 q2
      have hG4 := m4 a4 hj4
      have hrl : roomL { l1 with at_ := l1.at_ + needs (List.replicate rm (0 : Int)).length, nx := l1.nx + 1, list := l1.list ++ [List.replicate rm 0] } = -1 := by
        rw [roomL, if_pos (by rw [List.length_replicate, hn2]; dsimp only; omega)]
      have hz2 := append_full (p := q') (b := []) hG4.br (by decide) (by rw [List.length_replicate, hn2]; dsimp only; rw [show l1.to - (l1.at_ + (l1.to - l1.at_)) = 0 by omega]; decide)
      repeat first
        | refine Y_res (r_move rfl) rfl ?_
        | refine Y_res (r_eql rfl rfl) rfl ?_
        | refine Y_on rfl rfl ?_
        | refine Y_res (r_pickT rfl rfl) rfl ?_
      refine X_call (g := 13) rfl rfl (fun w1 q1 => (room_any q1 hG4.ok).mono ?_)
      rintro e w2 ⟨rfl, q2⟩
      rw [hrl]
      refine ⟨_, rfl, _, q2, ?_⟩
      clear q1 q2
      repeat first
        | refine Y_res (r_move rfl) rfl ?_
        | refine Y_res (r_eql rfl rfl) rfl ?_
        | refine Y_on rfl rfl ?_
        | refine Y_res (r_pickT rfl rfl) rfl ?_
      refine X_call (g := 12) rfl rfl (fun w1 q1 => (append_nil q1 hG4).mono ?_)
      rintro e w2 ⟨a5, pa5, rfl, q2, hj5⟩
      rw [hz2] at q2 hj5 ⊢
      refine ⟨_, rfl, _, q2, ?_⟩
      clear q1 q2
      repeat first
        | refine X_nil ?_
        | refine XT_seq ?_
        | refine XC_ret ?_
        | refine Y_res (r_assign rfl) rfl ?_
        | refine Y_res (r_eql rfl rfl) rfl ?_
        | refine Y_on rfl rfl ?_
        | refine Y_res (r_pickT rfl rfl) rfl ?_
      exact XT_says (.inl rfl) Try.results3 rfl rfl
end Go.Proofs.Ytgfpibojgkleiaa.NWl
