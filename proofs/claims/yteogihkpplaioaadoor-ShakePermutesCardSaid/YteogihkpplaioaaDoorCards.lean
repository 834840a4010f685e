/-
  DERIVED. GIVEN WITH THE SEED: THE CARDS: each row of YteogihkpplaioaaDoorRows.lean that lists a variable, with what it lists TIED to the program's text (the seventh form; the later family's looks); each row that meets fmt, with fmt's text TOLD by the authors' own Lean function (tested against real Go, not proved from fmt's source: count such statements apart). THE CARD IS WHAT COUNTS. Prove the row's statement (the work); the ties are given (YteogihkpplaioaaDoorTie.lean); close each card by the builder's one call (the guide's Derived/Test/ToyasCard.lean, 'card_holds'). Laid BY PROGRAM, IN A SANDBOX (cutbox-door.mjs). By AI agents, Wed Nov 11 2026. No macro, syntax, notation, axiom, sorry.
-/
import Derived.Test.YteogihkpplaioaaDoorRows
import GoSem.ClaimSeven
namespace Go.Proofs.YteogihkpplaioaaDoor
namespace Rows

/-- THE TIED CARD OF 'chancerylaw02.ShakeSums'. -/
def shakeSumsCard : Claim7 := { stood := { row := shakeSumsRow, standIns := [], harness := (true, "68ec4cc25218d0f8011887ee4eff463c1f6960c10e587334df73b7fa0c801db9"), looks := false }, kinds := [], alts := [], laidByText := true, laidKinds := [.data], laidTests := true, laidLooks := .later }
def ShakeSumsCardSaid : Prop := Claim7.holds Tryd.pinned (.plain (OpenSpec.ofChange shakeSumsSpec)) shakeSumsCard

/-- THE TIED CARD OF 'chancerylaw02.ShakePlays'. -/
def shakePlaysCard : Claim7 := { stood := { row := shakePlaysRow, standIns := [], harness := (true, "68ec4cc25218d0f8011887ee4eff463c1f6960c10e587334df73b7fa0c801db9"), looks := false }, kinds := [], alts := [], laidByText := true, laidKinds := [.data], laidTests := true, laidLooks := .later }
def ShakePlaysCardSaid : Prop := Claim7.holds Tryd.pinned (.plain (OpenSpec.ofChange shakePlaysSpec)) shakePlaysCard

/-- THE TIED CARD OF 'chancerylaw02.ShakeMore'. -/
def shakeMoreCard : Claim7 := { stood := { row := shakeMoreRow, standIns := [], harness := (true, "68ec4cc25218d0f8011887ee4eff463c1f6960c10e587334df73b7fa0c801db9"), looks := false }, kinds := [], alts := [], laidByText := true, laidKinds := [.data], laidTests := true, laidLooks := .later }
def ShakeMoreCardSaid : Prop := Claim7.holds Tryd.pinned (.plain (OpenSpec.ofChange shakeMoreSpec)) shakeMoreCard

/-- THE TIED CARD OF 'chancerylaw02.ShakeRates'. -/
def shakeRatesCard : Claim7 := { stood := { row := shakeRatesRow, standIns := [], harness := (true, "68ec4cc25218d0f8011887ee4eff463c1f6960c10e587334df73b7fa0c801db9"), looks := false }, kinds := [], alts := [], laidByText := true, laidKinds := [.data], laidTests := true, laidLooks := .later }
def ShakeRatesCardSaid : Prop := Claim7.holds Tryd.pinned (.plain (OpenSpec.ofChange shakeRatesSpec)) shakeRatesCard

/-- THE TIED CARD OF 'chancerylaw02.ShakePermutes'. -/
def shakePermutesCard : Claim7 := { stood := { row := shakePermutesRow, standIns := [], harness := (true, "68ec4cc25218d0f8011887ee4eff463c1f6960c10e587334df73b7fa0c801db9"), looks := false }, kinds := [], alts := [], laidByText := true, laidKinds := [.data], laidTests := true, laidLooks := .later }
def ShakePermutesCardSaid : Prop := Claim7.holds Tryd.pinned (.plain (OpenSpec.ofChange shakePermutesSpec)) shakePermutesCard

/-- THE SECOND FORM's CARD OF 'chancerylaw02.ShakeSums'. -/
def shakeSumsUptoCard : Claim7 := { stood := { row := shakeSumsUptoRow, standIns := [], harness := (true, "68ec4cc25218d0f8011887ee4eff463c1f6960c10e587334df73b7fa0c801db9"), looks := false }, kinds := [], alts := [], laidByText := true, laidKinds := [.data], laidTests := true, laidLooks := .later }
def ShakeSumsUptoCardSaid : Prop := Claim7.holds Tryd.pinned (.plain (OpenSpec.upto shakeSumsSpec)) shakeSumsUptoCard

/-- THE SECOND FORM's CARD OF 'chancerylaw02.ShakePlays'. -/
def shakePlaysUptoCard : Claim7 := { stood := { row := shakePlaysUptoRow, standIns := [], harness := (true, "68ec4cc25218d0f8011887ee4eff463c1f6960c10e587334df73b7fa0c801db9"), looks := false }, kinds := [], alts := [], laidByText := true, laidKinds := [.data], laidTests := true, laidLooks := .later }
def ShakePlaysUptoCardSaid : Prop := Claim7.holds Tryd.pinned (.plain (OpenSpec.upto shakePlaysSpec)) shakePlaysUptoCard

/-- THE SECOND FORM's CARD OF 'chancerylaw02.ShakeMore'. -/
def shakeMoreUptoCard : Claim7 := { stood := { row := shakeMoreUptoRow, standIns := [], harness := (true, "68ec4cc25218d0f8011887ee4eff463c1f6960c10e587334df73b7fa0c801db9"), looks := false }, kinds := [], alts := [], laidByText := true, laidKinds := [.data], laidTests := true, laidLooks := .later }
def ShakeMoreUptoCardSaid : Prop := Claim7.holds Tryd.pinned (.plain (OpenSpec.upto shakeMoreSpec)) shakeMoreUptoCard

/-- THE SECOND FORM's CARD OF 'chancerylaw02.ShakeRates'. -/
def shakeRatesUptoCard : Claim7 := { stood := { row := shakeRatesUptoRow, standIns := [], harness := (true, "68ec4cc25218d0f8011887ee4eff463c1f6960c10e587334df73b7fa0c801db9"), looks := false }, kinds := [], alts := [], laidByText := true, laidKinds := [.data], laidTests := true, laidLooks := .later }
def ShakeRatesUptoCardSaid : Prop := Claim7.holds Tryd.pinned (.plain (OpenSpec.upto shakeRatesSpec)) shakeRatesUptoCard

/-- THE SECOND FORM's CARD OF 'chancerylaw02.ShakePermutes'. -/
def shakePermutesUptoCard : Claim7 := { stood := { row := shakePermutesUptoRow, standIns := [], harness := (true, "68ec4cc25218d0f8011887ee4eff463c1f6960c10e587334df73b7fa0c801db9"), looks := false }, kinds := [], alts := [], laidByText := true, laidKinds := [.data], laidTests := true, laidLooks := .later }
def ShakePermutesUptoCardSaid : Prop := Claim7.holds Tryd.pinned (.plain (OpenSpec.upto shakePermutesSpec)) shakePermutesUptoCard
end Rows
end Go.Proofs.YteogihkpplaioaaDoor
