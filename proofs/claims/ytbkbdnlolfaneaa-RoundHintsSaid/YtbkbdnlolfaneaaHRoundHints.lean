/- The walks of the hints' functions and of the statement on them: what each call does, by contract of what it calls. -/
import Derived.Test.YtbkbdnlolfaneaaPRoundCutsx1
import Derived.Test.YtbkbdnlolfaneaaPureRoundHintsOwn
namespace Go.Proofs.Ytbkbdnlolfaneaa.HRoundHints
open Go.RowKit Go.Proofs.Ytbkbdnlolfaneaa.PRoundCuts Go.Proofs.YtbkbdnlolfaneaaW.PrintWords Go.Proofs.YtbkbdnlolfaneaaW.PrintLast Go.Proofs.YtbkbdnlolfaneaaW.PrintMore
open Go.Proofs.Ytbkbdnlolfaneaa.MBase Go.Proofs.Ytbkbdnlolfaneaa.RoundHintsOwn

theorem ret_int {k : IntKind} {a b : Int} (h : a = b) : Ending.returned (.int k a) = .returned (.int k b) := by rw [h]
theorem ret_bool {a b : Bool} (h : a = b) : Ending.returned (.bool a) = .returned (.bool b) := by rw [h]

/-- The program's cut, in numbers. -/
theorem dec_any (r g : Int) (h0 : 0 ≤ r) (h1 : r < 8380417) (hg : g = 95232 ∨ g = 261888) (w : World) :
    Calls Try.prog 15 #[.int .i64 r, .int .i64 g] w fun e w' => e = .returned (.tuple #[.int .i64 (dec r g).1, .int .i64 (dec r g).2]) ∧ Drawn0 w w' :=
  round_Decompose.calls r g _ _ w (dec_eq h0 h1 hg)
theorem refdec_any (r g : Int) (h0 : 0 ≤ r) (h1 : r < 8380417) (hg : g = 95232 ∨ g = 261888) (w : World) :
    Calls Try.prog 16 #[.int .i64 r, .int .i64 g] w fun e w' => e = .returned (.tuple #[.int .i64 (dec r g).1, .int .i64 (dec r g).2]) ∧ Drawn0 w w' :=
  chanceryref04_Decompose.calls r g _ _ w (refdec_eq h0 h1 hg)

set_option maxHeartbeats 1000000 in
theorem hint_any (z r g : Int) (h0 : 0 ≤ r) (h1 : r < 8380417) (k0 : 0 ≤ z) (k1 : z < 8380417) (hg : g = 95232 ∨ g = 261888) (w : World) :
    Calls Try.prog 24 #[.int .i64 z, .int .i64 r, .int .i64 g] w fun e w' => e = .returned (.bool (hin z r g)) ∧ Drawn0 w w' := by
  have hs := sm_bd r z
  have Hg := Box.mk hg
  have Hs : Box ((r + z) % 8380417 = sm r z) := ⟨rfl⟩
  have q0 : 0 ≤ r + z := by omega
  clear hg
  go_enter Try.func24, Try.ntmps24
  go_wp2_with fail
  refine (dec_any r g h0 h1 Hg.out _).mono ?_
  rintro e w' ⟨rfl, ⟨n1, rfl⟩⟩
  go_wp2_with fail
  rw [Hs.out]
  refine (dec_any (sm r z) g hs.1 hs.2 Hg.out _).mono ?_
  rintro e w' ⟨rfl, ⟨n2, rfl⟩⟩
  go_wp2
  go_ret
  exact ⟨ret_bool rfl, by repeat (first | exact Drawn0.refl _ | apply Drawn0.step)⟩

set_option maxHeartbeats 1000000 in
theorem refhint_any (z r g : Int) (h0 : 0 ≤ r) (h1 : r < 8380417) (k0 : 0 ≤ z) (k1 : z < 8380417) (hg : g = 95232 ∨ g = 261888) (w : World) :
    Calls Try.prog 25 #[.int .i64 z, .int .i64 r, .int .i64 g] w fun e w' => e = .returned (.bool (hin z r g)) ∧ Drawn0 w w' := by
  have hs := sm_bd r z
  have Hg := Box.mk hg
  have Hs : Box ((r + z) % 8380417 = sm r z) := ⟨rfl⟩
  have q0 : 0 ≤ r + z := by omega
  clear hg
  go_enter Try.func25, Try.ntmps25
  go_wp2_with fail
  refine (refdec_any r g h0 h1 Hg.out _).mono ?_
  rintro e w' ⟨rfl, ⟨n1, rfl⟩⟩
  go_wp2_with fail
  rw [Hs.out]
  refine (refdec_any (sm r z) g hs.1 hs.2 Hg.out _).mono ?_
  rintro e w' ⟨rfl, ⟨n2, rfl⟩⟩
  go_wp2
  go_ret
  exact ⟨ret_bool rfl, by repeat (first | exact Drawn0.refl _ | apply Drawn0.step)⟩

theorem use_yes {r g : Int} (h : 0 < (dec r g).2) : use true r g = ((dec r g).1 + 1) % (8380416 / (2 * g)) := by unfold use; rw [if_pos rfl, if_pos h]
theorem use_no {r g : Int} (h : ¬ 0 < (dec r g).2) : use true r g = ((dec r g).1 + 8380416 / (2 * g) - 1) % (8380416 / (2 * g)) := by unfold use; rw [if_pos rfl, if_neg h]

set_option maxHeartbeats 1000000 in
theorem use_any (h : Bool) (r g : Int) (h0 : 0 ≤ r) (h1 : r < 8380417) (hg : g = 95232 ∨ g = 261888) (w : World) :
    Calls Try.prog 26 #[.bool h, .int .i64 r, .int .i64 g] w fun e w' => e = .returned (.int .i64 (use h r g)) ∧ Drawn0 w w' := by
  have hd := dec_small h0 h1 hg
  have HD := Box.mk (fun w => dec_any r g h0 h1 hg w)
  have Y := Box.mk (use_yes (r := r) (g := g))
  have N := Box.mk (use_no (r := r) (g := g))
  have F : Box (use false r g = (dec r g).1) := ⟨by unfold use; rw [if_neg (by decide)]⟩
  generalize dec r g = d at *
  obtain ⟨a, b⟩ := d
  simp only [] at hd
  obtain ⟨ha, ha'⟩ := hd
  have e0 : 0 ≤ a - 1 + 44 := by omega
  have e1 : 0 ≤ a - 1 + 16 := by omega
  by_cases c : 0 < b
  all_goals cases h
  all_goals rcases hg with rfl | rfl
  all_goals
    go_enter Try.func26, Try.ntmps26
    go_wp2_with fail
    refine (HD.out _).mono ?_
    rintro e w' ⟨rfl, ⟨n1, rfl⟩⟩
    go_wp2
    go_ret
    refine ⟨ret_int ?_, by repeat (first | exact Drawn0.refl _ | apply Drawn0.step)⟩
    first | exact F.out.symm | (rw [Y.out c]; rfl) | (rw [N.out c]; simp only [show (8380416 : Int) / (2 * 95232) = 44 by decide, show (8380416 : Int) / (2 * 261888) = 16 by decide]; omega)

set_option maxHeartbeats 1000000 in
theorem refuse_any (h : Bool) (r g : Int) (h0 : 0 ≤ r) (h1 : r < 8380417) (hg : g = 95232 ∨ g = 261888) (w : World) :
    Calls Try.prog 27 #[.bool h, .int .i64 r, .int .i64 g] w fun e w' => e = .returned (.int .i64 (use h r g)) ∧ Drawn0 w w' := by
  have hd := dec_small h0 h1 hg
  have HD := Box.mk (fun w => refdec_any r g h0 h1 hg w)
  have Y := Box.mk (use_yes (r := r) (g := g))
  have N := Box.mk (use_no (r := r) (g := g))
  have F : Box (use false r g = (dec r g).1) := ⟨by unfold use; rw [if_neg (by decide)]⟩
  generalize dec r g = d at *
  obtain ⟨a, b⟩ := d
  simp only [] at hd
  obtain ⟨ha, ha'⟩ := hd
  have e0 : 0 ≤ a + 44 - 1 := by omega
  have e1 : 0 ≤ a + 16 - 1 := by omega
  by_cases c : 0 < b
  all_goals cases h
  all_goals rcases hg with rfl | rfl
  all_goals
    go_enter Try.func27, Try.ntmps27
    go_wp2_with fail
    refine (HD.out _).mono ?_
    rintro e w' ⟨rfl, ⟨n1, rfl⟩⟩
    go_wp2
    go_ret
    refine ⟨ret_int ?_, by repeat (first | exact Drawn0.refl _ | apply Drawn0.step)⟩
    first | exact F.out.symm | (rw [Y.out c]; rfl) | (rw [N.out c]; rfl) | (rw [N.out c]; simp only [show (8380416 : Int) / (2 * 95232) = 44 by decide, show (8380416 : Int) / (2 * 261888) = 16 by decide]; omega)

set_option maxHeartbeats 1000000 in
theorem cen_any (z : Int) (k0 : 0 ≤ z) (k1 : z < 8380417) (w : World) :
    Calls Try.prog 28 #[.int .i64 z] w fun e w' => e = .returned (.int .i64 (cen z)) ∧ Drawn0 w w' := by
  have hz : z % 8380417 = z := Int.emod_eq_of_lt k0 k1
  have Y : Box (4190208 < z → cen z = z - 8380417) := ⟨fun h => by unfold cen; rw [if_pos h]⟩
  have N : Box (¬ 4190208 < z → cen z = z) := ⟨fun h => by unfold cen; rw [if_neg h]⟩
  by_cases c : 4190208 < z
  · have c2 : ¬ z - 8380417 < -4190208 := by omega
    go_enter Try.func28, Try.ntmps28
    go_wp2
    go_ret
    exact ⟨ret_int (Y.out c).symm, by repeat (first | exact Drawn0.refl _ | apply Drawn0.step)⟩
  · have c2 : ¬ z < -4190208 := by omega
    go_enter Try.func28, Try.ntmps28
    go_wp2
    go_ret
    exact ⟨ret_int (N.out c).symm, by repeat (first | exact Drawn0.refl _ | apply Drawn0.step)⟩

theorem anchor_any (w : World) : Calls Try.prog 11 #[] w fun e w' => e = .returned (.bool true) ∧ Below w.heap.size w w' :=
  chancerylaw04_anchor.calls 40 true w anchor_at
theorem cut_any (s : Bool) (w : World) : Calls Try.prog 12 #[.bool s] w fun e w' => e = .returned (.int .i64 (if s = true then 95232 else 261888)) ∧ Drawn0 w w' :=
  chancerylaw04_cut.calls s _ w (by unfold chancerylaw04_cut.f; split <;> rfl)

theorem bel {w w' w'' : World} (h : Below w.heap.size w w') (n : Nat) (hw : w'' = w'.drewN n) : Below w.heap.size w w'' := by
  subst hw
  exact h.trans ((Drawn0.below ⟨n, rfl⟩).mono h.size)

set_option maxHeartbeats 1000000 in
theorem law_out (r z : Int) (s h : Bool) (c : r < 0 ∨ 8380417 ≤ r ∨ z < 0 ∨ 8380417 ≤ z) (w : World) :
    Calls Try.prog 7 #[.int .i64 r, .int .i64 z, .bool s, .bool h] w fun e w' => e = .returned (.bool true) ∧ Below w.heap.size w w' := by
  by_cases c0 : r < 0
  all_goals by_cases c1 : 8380417 ≤ r
  all_goals by_cases c2 : z < 0
  all_goals by_cases c3 : 8380417 ≤ z
  all_goals first | omega | skip
  all_goals
    clear c
    go_enter Try.func7, Try.ntmps7
    go_wp2_with fail
    refine (anchor_any _).mono ?_
    rintro e w1 ⟨rfl, hb⟩
    go_wp2
    go_ret
    exact ⟨rfl, hb⟩

set_option maxHeartbeats 2000000 in
theorem law_in (r z : Int) (s h : Bool) (h0 : 0 ≤ r) (h1 : r < 8380417) (k0 : 0 ≤ z) (k1 : z < 8380417) (w : World) :
    Calls Try.prog 7 #[.int .i64 r, .int .i64 z, .bool s, .bool h] w fun e w' => e = .returned (.bool true) ∧ Below w.heap.size w w' := by
  obtain ⟨g, hgs, hg⟩ : ∃ g : Int, (if s = true then 95232 else 261888) = g ∧ (g = 95232 ∨ g = 261888) := by
    cases s
    · exact ⟨_, rfl, .inr rfl⟩
    · exact ⟨_, rfl, .inl rfl⟩
  have hc := cut_any s
  rw [hgs] at hc
  have HC := Box.mk hc
  clear hc hgs
  have c0 : ¬ r < 0 := by omega
  have c1 : ¬ 8380417 ≤ r := by omega
  have c2 : ¬ z < 0 := by omega
  have c3 : ¬ 8380417 ≤ z := by omega
  have hs := sm_bd r z
  have Hg := Box.mk hg
  have Hs : Box ((r + z) % 8380417 = sm r z) := ⟨rfl⟩
  have hcen : -4190208 ≤ cen z ∧ cen z ≤ 4190208 := by unfold cen; split <;> omega
  have HH := Box.mk (use_hin h0 h1 k0 k1 hg)
  have g0 : 0 ≤ g := by omega
  have g1 : g ≤ 1000000 := by omega
  have q0 : 0 ≤ r + z := by omega
  obtain ⟨n0, n1⟩ := hcen
  clear hg
  by_cases c4 : g < cen z
  case pos =>
    go_enter Try.func7, Try.ntmps7
    go_wp2_with fail
    refine (anchor_any _).mono ?_
    rintro e w1 ⟨rfl, hb⟩
    have hb := Box.mk hb
    go_wp2_with fail
    refine (HC.out _).mono ?_
    rintro e w' ⟨rfl, ⟨m1, rfl⟩⟩
    go_wp2_with fail
    refine (hint_any z r g h0 h1 k0 k1 Hg.out _).mono ?_
    rintro e w' ⟨rfl, ⟨m2, rfl⟩⟩
    go_wp2_with fail
    refine (refhint_any z r g h0 h1 k0 k1 Hg.out _).mono ?_
    rintro e w' ⟨rfl, ⟨m3, rfl⟩⟩
    go_wp2_with fail
    refine (use_any h r g h0 h1 Hg.out _).mono ?_
    rintro e w' ⟨rfl, ⟨m4, rfl⟩⟩
    go_wp2_with fail
    refine (refuse_any h r g h0 h1 Hg.out _).mono ?_
    rintro e w' ⟨rfl, ⟨m5, rfl⟩⟩
    go_wp2_with fail
    refine (cen_any z k0 k1 _).mono ?_
    rintro e w' ⟨rfl, ⟨m6, rfl⟩⟩
    go_wp2
    go_ret
    exact ⟨rfl, by repeat (first | exact hb.out | apply pw_below_drewN | apply below_drew1)⟩
  case neg =>
    by_cases c5 : cen z < -g
    case pos =>
      go_enter Try.func7, Try.ntmps7
      go_wp2_with fail
      refine (anchor_any _).mono ?_
      rintro e w1 ⟨rfl, hb⟩
      have hb := Box.mk hb
      go_wp2_with fail
      refine (HC.out _).mono ?_
      rintro e w' ⟨rfl, ⟨m1, rfl⟩⟩
      go_wp2_with fail
      refine (hint_any z r g h0 h1 k0 k1 Hg.out _).mono ?_
      rintro e w' ⟨rfl, ⟨m2, rfl⟩⟩
      go_wp2_with fail
      refine (refhint_any z r g h0 h1 k0 k1 Hg.out _).mono ?_
      rintro e w' ⟨rfl, ⟨m3, rfl⟩⟩
      go_wp2_with fail
      refine (use_any h r g h0 h1 Hg.out _).mono ?_
      rintro e w' ⟨rfl, ⟨m4, rfl⟩⟩
      go_wp2_with fail
      refine (refuse_any h r g h0 h1 Hg.out _).mono ?_
      rintro e w' ⟨rfl, ⟨m5, rfl⟩⟩
      go_wp2_with fail
      refine (cen_any z k0 k1 _).mono ?_
      rintro e w' ⟨rfl, ⟨m6, rfl⟩⟩
      go_wp2
      go_ret
      exact ⟨rfl, by repeat (first | exact hb.out | apply pw_below_drewN | apply below_drew1)⟩
    case neg =>
      replace HH := Box.mk (HH.out (by omega) (by omega))
      go_enter Try.func7, Try.ntmps7
      go_wp2_with fail
      refine (anchor_any _).mono ?_
      rintro e w1 ⟨rfl, hb⟩
      have hb := Box.mk hb
      go_wp2_with fail
      refine (HC.out _).mono ?_
      rintro e w' ⟨rfl, ⟨m1, rfl⟩⟩
      go_wp2_with fail
      refine (hint_any z r g h0 h1 k0 k1 Hg.out _).mono ?_
      rintro e w' ⟨rfl, ⟨m2, rfl⟩⟩
      go_wp2_with fail
      refine (refhint_any z r g h0 h1 k0 k1 Hg.out _).mono ?_
      rintro e w' ⟨rfl, ⟨m3, rfl⟩⟩
      go_wp2_with fail
      refine (use_any h r g h0 h1 Hg.out _).mono ?_
      rintro e w' ⟨rfl, ⟨m4, rfl⟩⟩
      go_wp2_with fail
      refine (refuse_any h r g h0 h1 Hg.out _).mono ?_
      rintro e w' ⟨rfl, ⟨m5, rfl⟩⟩
      go_wp2_with fail
      refine (cen_any z k0 k1 _).mono ?_
      rintro e w' ⟨rfl, ⟨m6, rfl⟩⟩
      go_wp2_with fail
      rw [Hs.out]
      refine (dec_any (sm r z) g hs.1 hs.2 Hg.out _).mono ?_
      rintro e w' ⟨rfl, ⟨m7, rfl⟩⟩
      go_wp2_with fail
      refine (hint_any z r g h0 h1 k0 k1 Hg.out _).mono ?_
      rintro e w' ⟨rfl, ⟨m8, rfl⟩⟩
      go_wp2_with fail
      refine (use_any (hin z r g) r g h0 h1 Hg.out _).mono ?_
      rintro e w' ⟨rfl, ⟨m9, rfl⟩⟩
      rw [HH.out]
      go_wp2
      go_ret
      exact ⟨ret_bool (by simp), by repeat (first | exact hb.out | apply pw_below_drewN | apply below_drew1)⟩


theorem walk (r z : Int) (s h : Bool) (w : World) :
    Calls Try.prog 7 #[.int .i64 r, .int .i64 z, .bool s, .bool h] w fun e w' => e = .returned (.bool true) ∧ Below w.heap.size w w' := by
  by_cases c : r < 0 ∨ 8380417 ≤ r ∨ z < 0 ∨ 8380417 ≤ z
  · exact law_out r z s h c w
  · exact law_in r z s h (by omega) (by omega) (by omega) (by omega) w

end Go.Proofs.Ytbkbdnlolfaneaa.HRoundHints
