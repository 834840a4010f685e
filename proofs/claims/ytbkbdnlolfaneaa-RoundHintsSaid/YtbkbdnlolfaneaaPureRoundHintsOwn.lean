/- The cut's hints as plain mathematics: what they are, and that with its hint the high part of r + z is had from r alone, if z is small. -/
import Derived.Test.YtbkbdnlolfaneaaPRoundCutsx1
import Derived.Test.YtbkbdnlolfaneaaMBase
namespace Go.Proofs.Ytbkbdnlolfaneaa.RoundHintsOwn
open Go.RowKit Go.Proofs.Ytbkbdnlolfaneaa.PRoundCuts Go.Proofs.YtbkbdnlolfaneaaW.PrintWords Go.Proofs.YtbkbdnlolfaneaaW.PrintLast
open Go.Proofs.Ytbkbdnlolfaneaa.MBase

theorem anchor_at : chancerylaw04_anchor.f 40 = some true := by decide +kernel
theorem anchor_ev : Ev (fun k => chancerylaw04_anchor.f k) true := Ev.of chancerylaw04_anchor.mono anchor_at
def ar (r g : Int) : Int := if r % (2 * g) > g then r % (2 * g) - 2 * g else r % (2 * g)
def dec (r g : Int) : Int × Int := if r - ar r g = 8380416 then (0, ar r g - 1) else ((r - ar r g) / (2 * g), ar r g)

theorem ar_bd {r g : Int} (h0 : 0 ≤ r) (hg : 0 < g) : -g < ar r g ∧ ar r g ≤ g ∧ 0 ≤ r - ar r g := by
  have hb : 0 ≤ r % (2 * g) := Int.emod_nonneg _ (by omega)
  have hb' : r % (2 * g) < 2 * g := Int.emod_lt_of_pos _ (by omega)
  have hb'' : r % (2 * g) ≤ r := emod_le h0 (by omega)
  unfold ar
  split <;> omega

theorem around_eq {r g : Int} (h0 : 0 ≤ r) (hg : 0 < g) (hg' : g ≤ 1000000) : round_around.f r g = some (ar r g) := by
  have hb : 0 ≤ r % (2 * g) := Int.emod_nonneg _ (by omega)
  have hb' : r % (2 * g) < 2 * g := Int.emod_lt_of_pos _ (by omega)
  unfold round_around.f ar
  rw [w64 (x := 2 * g) (by omega) (by omega), tm h0, if_neg (by omega)]
  by_cases c : r % (2 * g) > g
  · rw [if_pos c, if_pos c, w64 (by omega) (by omega)]
  · rw [if_neg c, if_neg c]

theorem dec_eq {r g : Int} (h0 : 0 ≤ r) (h1 : r < 8380417) (hg : g = 95232 ∨ g = 261888) : round_Decompose.f r g = some (dec r g) := by
  have ha := ar_bd h0 (g := g) (by omega)
  unfold round_Decompose.f dec
  rw [around_eq h0 (by omega) (by omega), Option.bind_some, w64 (x := r - ar r g) (by omega) (by omega)]
  by_cases c : r - ar r g = 8380416
  · rw [if_pos c, if_pos c, w64 (by omega) (by omega)]
  · rw [if_neg c, if_neg c, w64 (x := 2 * g) (by omega) (by omega), if_neg (by omega), td (by omega), w64]
    · have := Int.ediv_nonneg (a := r - ar r g) (b := 2 * g) (by omega) (by omega)
      omega
    · have := Int.ediv_le_self (a := r - ar r g) (2 * g) (by omega)
      omega

theorem refdec_eq {r g : Int} (h0 : 0 ≤ r) (h1 : r < 8380417) (hg : g = 95232 ∨ g = 261888) : chanceryref04_Decompose.f r g = some (dec r g) := by
  have ha := ar_bd h0 (g := g) (by omega)
  have hq : ∀ x : Int, 0 ≤ x → x < 10000000 → 0 ≤ x / (2 * g) ∧ x / (2 * g) ≤ x := fun x hx _ => ⟨Int.ediv_nonneg hx (by omega), Int.ediv_le_self _ hx⟩
  unfold chanceryref04_Decompose.f dec
  rw [w64 (x := 2 * g) (by omega) (by omega), if_neg (by omega), tm h0]
  unfold ar at *
  by_cases c : r % (2 * g) > g
  · rw [if_pos c] at ha
    rw [if_pos c, if_pos c, w64 (x := r % (2 * g) - 2 * g) (by omega) (by omega), w64 (x := r - (r % (2 * g) - 2 * g)) (by omega) (by omega)]
    have hq1 := hq (r - (r % (2 * g) - 2 * g)) (by omega) (by omega)
    by_cases c' : r - (r % (2 * g) - 2 * g) = 8380416
    · rw [if_pos c', if_pos c', w64 (by omega) (by omega)]
    · rw [if_neg c', if_neg c', td (by omega), w64 (by omega) (by omega)]
  · rw [if_neg c] at ha
    rw [if_neg c, if_neg c, w64 (x := r - r % (2 * g)) (by omega) (by omega)]
    have hq1 := hq (r - r % (2 * g)) (by omega) (by omega)
    by_cases c' : r - r % (2 * g) = 8380416
    · rw [if_pos c', if_pos c', w64 (by omega) (by omega)]
    · rw [if_neg c', if_neg c', td (by omega), w64 (by omega) (by omega)]

def sm (r z : Int) : Int := (r + z) % 8380417
def hin (z r g : Int) : Bool := (dec r g).1 != (dec (sm r z) g).1
def use (h : Bool) (r g : Int) : Int := if h = true then (if (dec r g).2 > 0 then ((dec r g).1 + 1) % (8380416 / (2 * g)) else ((dec r g).1 + 8380416 / (2 * g) - 1) % (8380416 / (2 * g))) else (dec r g).1
def cen (z : Int) : Int := if z > 4190208 then z - 8380417 else z

theorem sm_eq {r z : Int} (h0 : 0 ≤ r) (h1 : r < 8380417) (k0 : 0 ≤ z) (k1 : z < 8380417) : Int.tmod (wrap64 (r + z)) 8380417 = sm r z := by
  rw [w64 (by omega) (by omega), tm (by omega), sm]

theorem sm_bd (r z : Int) : 0 ≤ sm r z ∧ sm r z < 8380417 := by unfold sm; omega

theorem dec_char {r g : Int} (h0 : 0 ≤ r) (h1 : r < 8380417) (hg : g = 95232 ∨ g = 261888) :
    (0 ≤ (dec r g).1 ∧ (dec r g).1 < 8380416 / (2 * g) ∧ -g < (dec r g).2 ∧ (dec r g).2 ≤ g ∧ (dec r g).1 * (2 * g) + (dec r g).2 = r) ∨
    ((dec r g).1 = 0 ∧ -g ≤ (dec r g).2 ∧ (dec r g).2 < 0 ∧ (dec r g).2 = r - 8380417) := by
  have har : (ar r g = r % (2 * g) - 2 * g ∧ r % (2 * g) > g) ∨ (ar r g = r % (2 * g) ∧ r % (2 * g) ≤ g) := by
    unfold ar
    split
    · exact .inl ⟨rfl, by omega⟩
    · exact .inr ⟨rfl, by omega⟩
  unfold dec
  generalize ar r g = a at *
  by_cases c : r - a = 8380416
  · rw [if_pos c]
    refine .inr ⟨rfl, ?_, ?_, ?_⟩
    all_goals
      show _
      simp only []
      rcases hg with rfl | rfl <;> omega
  · rw [if_neg c]
    refine .inl ⟨?_, ?_, ?_, ?_, ?_⟩
    all_goals
      simp only []
      rcases hg with rfl | rfl <;> omega

theorem dec_small {r g : Int} (h0 : 0 ≤ r) (h1 : r < 8380417) (hg : g = 95232 ∨ g = 261888) : 0 ≤ (dec r g).1 ∧ (dec r g).1 < 44 := by
  have h := dec_char h0 h1 hg
  rcases hg with rfl | rfl <;> omega

theorem use_hin {r z g : Int} (h0 : 0 ≤ r) (h1 : r < 8380417) (k0 : 0 ≤ z) (k1 : z < 8380417) (hg : g = 95232 ∨ g = 261888) (hc : cen z ≤ g) (hc' : -g ≤ cen z) :
    use (hin z r g) r g = (dec (sm r z) g).1 := by
  have hs := sm_bd r z
  have ha := dec_char h0 h1 hg
  have hb := dec_char hs.1 hs.2 hg
  have hr : sm r z = r + cen z ∨ sm r z = r + cen z - 8380417 ∨ sm r z = r + cen z + 8380417 := by unfold sm cen; split <;> omega
  unfold hin use
  generalize cen z = c at *
  generalize sm r z = s at *
  generalize dec r g = a at *
  generalize dec s g = b at *
  obtain ⟨a1, a2⟩ := a
  obtain ⟨b1, b2⟩ := b
  simp only [] at *
  by_cases e : a1 = b1
  · subst e
    simp
  · have e' : (a1 != b1) = true := bne_iff_ne.mpr e
    rw [if_pos e']
    rcases hg with rfl | rfl
    · simp only [show (2 : Int) * 95232 = 190464 by decide] at *
      split <;> rcases ha with ha | ha <;> rcases hb with hb | hb <;> rcases hr with hr | hr | hr <;> omega
    · simp only [show (2 : Int) * 261888 = 523776 by decide] at *
      split <;> rcases ha with ha | ha <;> rcases hb with hb | hb <;> rcases hr with hr | hr | hr <;> omega


end Go.Proofs.Ytbkbdnlolfaneaa.RoundHintsOwn
