/- What is now is what is safe with all writes over it: this stays. -/
import Derived.Test.YtipikjikjjmmiaaNPlA
namespace Go.Proofs.Ytipikjikjjmmiaa.NPl
open Go Go.RowKit Go.Proofs.Ytipikjikjjmmiaa.MX
set_option linter.unusedVariables false
set_option linter.unusedSimpArgs false
set_option linter.unusedVariables false
theorem revS_app {k : Nat → Bool} {L : List (Nat × List Int)} {x : Nat × List Int} {s : List (List Int)} : ∀ j, j ≤ L.length → revS k (L ++ [x]) s j = revS k L s j
  | 0, _ => rfl
  | j + 1, h => by
    have e : (L ++ [x])[j]? = L[j]? := List.getElem?_append_left (by omega)
    show (match (L ++ [x])[j]? with | some y => _ | none => _) = (match L[j]? with | some y => _ | none => _)
    rw [e, revS_app j (by omega)]
theorem pnow_new (n : Nat) : PNow (new0 n) := rfl
theorem pnow_arm {p : Pl} (h : PNow p) (m : Int) : PNow (armP p m) := h
theorem pnow_rev (p : Pl) (ks : List Bool) : PNow (revP p ks) := rfl
theorem pnow_step {p : Pl} (h : PNow p) : PNow (stepP p).1 := by
  obtain ⟨f1, f2, f3, f4⟩ := stepP_same p
  unfold PNow at h ⊢
  rw [f2, f3, f4]
  exact h
theorem pnow_write {p : Pl} (h : PNow p) (i : Int) (b : List Int) : PNow (writeP p i b).1 := by
  obtain ⟨f1, f2, f3, f4⟩ := stepP_same p
  unfold writeP
  split
  · exact h
  · split
    · exact h
    · split
      · exact pnow_step h
      · have e : (p.loose ++ [(i.toNat, b)])[p.loose.length]? = some (i.toNat, b) := by simp
        unfold PNow at h ⊢
        show p.now.set i.toNat b = revS (fun _ => true) (p.loose ++ [(i.toNat, b)]) (stepP p).1.safe (p.loose ++ [(i.toNat, b)]).length
        rw [f2, List.length_append, List.length_singleton, revS_some e rfl, revS_app _ (Nat.le_refl _), ← h]
theorem pnow_sync {p : Pl} (h : PNow p) : PNow (syncP p).1 := by
  obtain ⟨f1, f2, f3, f4⟩ := stepP_same p
  unfold syncP
  split
  · exact h
  · split
    · exact pnow_step h
    · show (stepP p).1.now = revS (fun _ => true) p.loose p.safe p.loose.length
      rw [f3]
      exact h
end Go.Proofs.Ytipikjikjjmmiaa.NPl
