/- Every number modulo q is cut by the program as the document says, and put together it is the number again: for every number and both cuts. -/
import Derived.Test.YtbkbdnlolfaneaaPRoundCutsx2
import Derived.Test.YtbkbdnlolfaneaaMBase
namespace Go.Proofs.Ytbkbdnlolfaneaa.Pure
open Go.RowKit Go.Proofs.Ytbkbdnlolfaneaa.PRoundCuts Go.Proofs.YtbkbdnlolfaneaaW.PrintWords Go.Proofs.YtbkbdnlolfaneaaW.PrintLast
open Go.Proofs.Ytbkbdnlolfaneaa.MBase
namespace RoundCutsAid

theorem anchor_at : chancerylaw04_anchor.f 40 = some true := by decide +kernel
theorem anchor_ev : Ev (fun k => chancerylaw04_anchor.f k) true := Ev.of chancerylaw04_anchor.mono anchor_at
def ar (r g : Int) : Int := if r % (2 * g) > g then r % (2 * g) - 2 * g else r % (2 * g)
def dec (r g : Int) : Int × Int := if r - ar r g = 8380416 then (0, ar r g - 1) else ((r - ar r g) / (2 * g), ar r g)

theorem ar_bd {r g : Int} (h0 : 0 ≤ r) (hg : 0 < g) : -g < ar r g ∧ ar r g ≤ g ∧ 0 ≤ r - ar r g := by
  have hb : 0 ≤ r % (2 * g) := Int.emod_nonneg _ (by omega)
  have hb' : r % (2 * g) < 2 * g := Int.emod_lt_of_pos _ (by omega)
  have hb'' : r % (2 * g) ≤ r := emod_le h0 (by omega)
  unfold ar
  split <;> omega

theorem around_eq {r g : Int} (h0 : 0 ≤ r) (hg : 0 < g) (hg' : g ≤ 1000000) : round_around.f r g = some (ar r g) := by
  have hb : 0 ≤ r % (2 * g) := Int.emod_nonneg _ (by omega)
  have hb' : r % (2 * g) < 2 * g := Int.emod_lt_of_pos _ (by omega)
  unfold round_around.f ar
  rw [w64 (x := 2 * g) (by omega) (by omega), tm h0, if_neg (by omega)]
  by_cases c : r % (2 * g) > g
  · rw [if_pos c, if_pos c, w64 (by omega) (by omega)]
  · rw [if_neg c, if_neg c]

theorem dec_eq {r g : Int} (h0 : 0 ≤ r) (h1 : r < 8380417) (hg : g = 95232 ∨ g = 261888) : round_Decompose.f r g = some (dec r g) := by
  have ha := ar_bd h0 (g := g) (by omega)
  unfold round_Decompose.f dec
  rw [around_eq h0 (by omega) (by omega), Option.bind_some, w64 (x := r - ar r g) (by omega) (by omega)]
  by_cases c : r - ar r g = 8380416
  · rw [if_pos c, if_pos c, w64 (by omega) (by omega)]
  · rw [if_neg c, if_neg c, w64 (x := 2 * g) (by omega) (by omega), if_neg (by omega), td (by omega), w64]
    · have := Int.ediv_nonneg (a := r - ar r g) (b := 2 * g) (by omega) (by omega)
      omega
    · have := Int.ediv_le_self (a := r - ar r g) (2 * g) (by omega)
      omega

theorem refdec_eq {r g : Int} (h0 : 0 ≤ r) (h1 : r < 8380417) (hg : g = 95232 ∨ g = 261888) : chanceryref04_Decompose.f r g = some (dec r g) := by
  have ha := ar_bd h0 (g := g) (by omega)
  have hq : ∀ x : Int, 0 ≤ x → x < 10000000 → 0 ≤ x / (2 * g) ∧ x / (2 * g) ≤ x := fun x hx _ => ⟨Int.ediv_nonneg hx (by omega), Int.ediv_le_self _ hx⟩
  unfold chanceryref04_Decompose.f dec
  rw [w64 (x := 2 * g) (by omega) (by omega), if_neg (by omega), tm h0]
  unfold ar at *
  by_cases c : r % (2 * g) > g
  · rw [if_pos c] at ha
    rw [if_pos c, if_pos c, w64 (x := r % (2 * g) - 2 * g) (by omega) (by omega), w64 (x := r - (r % (2 * g) - 2 * g)) (by omega) (by omega)]
    have hq1 := hq (r - (r % (2 * g) - 2 * g)) (by omega) (by omega)
    by_cases c' : r - (r % (2 * g) - 2 * g) = 8380416
    · rw [if_pos c', if_pos c', w64 (by omega) (by omega)]
    · rw [if_neg c', if_neg c', td (by omega), w64 (by omega) (by omega)]
  · rw [if_neg c] at ha
    rw [if_neg c, if_neg c, w64 (x := r - r % (2 * g)) (by omega) (by omega)]
    have hq1 := hq (r - r % (2 * g)) (by omega) (by omega)
    by_cases c' : r - r % (2 * g) = 8380416
    · rw [if_pos c', if_pos c', w64 (by omega) (by omega)]
    · rw [if_neg c', if_neg c', td (by omega), w64 (by omega) (by omega)]

theorem pow_eq {r : Int} (h0 : 0 ≤ r) (h1 : r < 8380417) : round_Power.f r = some ((r - ar r 4096) / 8192, ar r 4096) := by
  have ha := ar_bd h0 (g := 4096) (by omega)
  unfold round_Power.f
  rw [around_eq h0 (by omega) (by omega), Option.bind_some, w64 (x := r - ar r 4096) (by omega) (by omega), td (by unfold ar; split <;> omega), w64 (by omega) (by omega)]

theorem refpow_eq {r : Int} (h0 : 0 ≤ r) (h1 : r < 8380417) : chanceryref04_Power.f r = some ((r - ar r 4096) / 8192, ar r 4096) := by
  unfold chanceryref04_Power.f ar
  rw [tm h0]
  by_cases c : r % 8192 > 4096
  · rw [if_pos c, if_pos (by omega), w64 (x := r % 8192 - 8192) (by omega) (by omega), w64 (x := r - (r % 8192 - 8192)) (by omega) (by omega), td (by omega), w64 (by omega) (by omega)]
    rfl
  · rw [if_neg c, if_neg (by omega), w64 (x := r - r % 8192) (by omega) (by omega), td (by omega), w64 (by omega) (by omega)]
    rfl

theorem fin {r g : Int} (h0 : 0 ≤ r) (h1 : r < 8380417) (hg : g = 95232 ∨ g = 261888) (k : Nat) :
    chancerylaw04_RoundCuts.j0 (k + 1) r (decide (g = 95232)) false = some true := by
  have hc : chancerylaw04_cut.f (decide (g = 95232)) = some g := by
    unfold chancerylaw04_cut.f
    rcases hg with rfl | rfl <;> rfl
  have hp : 0 ≤ (r - ar r 4096) / 8192 ∧ (r - ar r 4096) / 8192 < 2000 ∧ ((r - ar r 4096) / 8192) * 8192 + ar r 4096 = r ∧ -4096 < ar r 4096 ∧ ar r 4096 ≤ 4096 := by
    unfold ar; split <;> omega
  have hd : 0 ≤ (dec r g).1 ∧ (dec r g).1 < 100 ∧ -g ≤ (dec r g).2 ∧ (dec r g).2 ≤ g ∧ (((dec r g).1 * 2 * g + (dec r g).2 = r) ∨ ((dec r g).1 * 2 * g + (dec r g).2 = r - 8380417)) := by
    unfold dec ar
    rcases hg with rfl | rfl <;> (split <;> split <;> simp only [] <;> omega)
  rw [chancerylaw04_RoundCuts.j0, if_neg (by decide), hc, Option.bind_some, pow_eq h0 h1, Option.bind_some, refpow_eq h0 h1, Option.bind_some, dec_eq h0 h1 hg, Option.bind_some, refdec_eq h0 h1 hg, Option.bind_some]
  rw [if_pos rfl, if_pos rfl, if_pos rfl, if_pos rfl]
  generalize (r - ar r 4096) / 8192 = a at *
  generalize ar r 4096 = b at *
  generalize dec r g = d at *
  obtain ⟨e, f⟩ := d
  simp only [] at *
  have e1 : wrap64 (a * 8192) = a * 8192 := w64 (by omega) (by omega)
  have e2 : wrap64 (a * 8192 + b) = r := by rw [w64] <;> omega
  have e3 : wrap64 (e * 2) = e * 2 := w64 (by omega) (by omega)
  have e4 : wrap64 (e * 2 * g) = e * 2 * g := by rcases hg with rfl | rfl <;> exact w64 (by omega) (by omega)
  have e5 : wrap64 (e * 2 * g + f) = e * 2 * g + f := by rcases hg with rfl | rfl <;> exact w64 (by omega) (by omega)
  have e6 : wrap64 (e * 2 * g + f - r) = e * 2 * g + f - r := by rcases hg with rfl | rfl <;> exact w64 (by omega) (by omega)
  have e7 : Int.tmod (e * 2 * g + f - r) 8380417 = 0 := by
    rcases hd.2.2.2.2 with h | h
    · rw [h, Int.sub_self]; rfl
    · rw [h, show r - 8380417 - r = -8380417 by omega]; rfl
  have e8 : wrap64 (-g) = -g := w64 (by omega) (by omega)
  rw [e1, e2, if_pos rfl, e3, e4, e5, e6, e7, if_pos rfl, if_pos (by omega), if_pos (by omega), e8, if_pos (by omega), decide_eq_true (by omega)]

end RoundCutsAid
open RoundCutsAid

theorem RoundCuts : chancerylaw04_RoundCuts.Pure := by
  intro r small hw
  refine Ev.rounds ?_
  unfold chancerylaw04_RoundCuts.f
  refine Ev.bind anchor_ev ?_
  refine Ev.pos rfl ?_
  by_cases h0 : r < 0
  · refine Ev.pos h0 ?_
    exact Ev.step (f := fun _ => some true) (fun k => by rw [chancerylaw04_RoundCuts.j0, if_pos rfl]) (Ev.now _)
  refine Ev.neg h0 ?_
  by_cases h1 : r ≥ 8380417
  · rw [decide_eq_true h1]
    exact Ev.step (f := fun _ => some true) (fun k => by rw [chancerylaw04_RoundCuts.j0, if_pos rfl]) (Ev.now _)
  · rw [decide_eq_false h1]
    cases small with
    | true => exact ⟨1, fun k hk => by
        obtain ⟨k, rfl⟩ : ∃ m, k = m + 1 := ⟨k - 1, by omega⟩
        exact fin (g := 95232) (by omega) (by omega) (.inl rfl) k⟩
    | false => exact ⟨1, fun k hk => by
        obtain ⟨k, rfl⟩ : ∃ m, k = m + 1 := ⟨k - 1, by omega⟩
        exact fin (g := 261888) (by omega) (by omega) (.inr rfl) k⟩

end Go.Proofs.Ytbkbdnlolfaneaa.Pure
