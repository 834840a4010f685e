/-
  DERIVED. GIVEN WITH THE SEED: THE CARDS: each row of YtjdplgjabbeejaaDoorRows.lean that lists a variable, with what it lists TIED to the program's text (the seventh form; the later family's looks); each row that meets fmt, with fmt's text TOLD by the authors' own Lean function (tested against real Go, not proved from fmt's source: count such statements apart). THE CARD IS WHAT COUNTS. Prove the row's statement (the work); the ties are given (YtjdplgjabbeejaaDoorTie.lean); close each card by the builder's one call (the guide's Derived/Test/ToyasCard.lean, 'card_holds'). Laid BY PROGRAM, IN A SANDBOX (cutbox-door.mjs). By AI agents, Wed Nov 11 2026. No macro, syntax, notation, axiom, sorry.
-/
import Derived.Test.YtjdplgjabbeejaaDoorRows
import GoSem.ClaimSeven
namespace Go.Proofs.YtjdplgjabbeejaaDoor
namespace Rows

/-- THE TIED CARD OF 'chancerylaw01.ShaLong'. -/
def shaLongCard : Claim7 := { stood := { row := shaLongRow, standIns := [], harness := (true, "e3ab6a319f7ad1f187955ebed347d57addc56b1d79479ad935b3989b1c49cff9"), looks := false }, kinds := [], alts := [], laidByText := true, laidKinds := [.data], laidTests := true, laidLooks := .later }
def ShaLongCardSaid : Prop := Claim7.holds Tryd.pinned (.plain (OpenSpec.ofChange shaLongSpec)) shaLongCard

/-- THE TIED CARD OF 'chancerylaw01.ShaPieces'. -/
def shaPiecesCard : Claim7 := { stood := { row := shaPiecesRow, standIns := [], harness := (true, "e3ab6a319f7ad1f187955ebed347d57addc56b1d79479ad935b3989b1c49cff9"), looks := false }, kinds := [], alts := [], laidByText := true, laidKinds := [.data], laidTests := true, laidLooks := .later }
def ShaPiecesCardSaid : Prop := Claim7.holds Tryd.pinned (.plain (OpenSpec.ofChange shaPiecesSpec)) shaPiecesCard

/-- THE TIED CARD OF 'chancerylaw01.ShaSplits'. -/
def shaSplitsCard : Claim7 := { stood := { row := shaSplitsRow, standIns := [], harness := (true, "e3ab6a319f7ad1f187955ebed347d57addc56b1d79479ad935b3989b1c49cff9"), looks := false }, kinds := [], alts := [], laidByText := true, laidKinds := [.data], laidTests := true, laidLooks := .later }
def ShaSplitsCardSaid : Prop := Claim7.holds Tryd.pinned (.plain (OpenSpec.ofChange shaSplitsSpec)) shaSplitsCard

/-- THE TIED CARD OF 'chancerylaw01.ShaSums'. -/
def shaSumsCard : Claim7 := { stood := { row := shaSumsRow, standIns := [], harness := (true, "e3ab6a319f7ad1f187955ebed347d57addc56b1d79479ad935b3989b1c49cff9"), looks := false }, kinds := [], alts := [], laidByText := true, laidKinds := [.data], laidTests := true, laidLooks := .later }
def ShaSumsCardSaid : Prop := Claim7.holds Tryd.pinned (.plain (OpenSpec.ofChange shaSumsSpec)) shaSumsCard

/-- THE TIED CARD OF 'chancerylaw01.ShaCodes'. -/
def shaCodesCard : Claim7 := { stood := { row := shaCodesRow, standIns := [], harness := (true, "e3ab6a319f7ad1f187955ebed347d57addc56b1d79479ad935b3989b1c49cff9"), looks := false }, kinds := [], alts := [], laidByText := true, laidKinds := [.data], laidTests := true, laidLooks := .later }
def ShaCodesCardSaid : Prop := Claim7.holds Tryd.pinned (.plain (OpenSpec.ofChange shaCodesSpec)) shaCodesCard

/-- THE SECOND FORM's CARD OF 'chancerylaw01.ShaLong'. -/
def shaLongUptoCard : Claim7 := { stood := { row := shaLongUptoRow, standIns := [], harness := (true, "e3ab6a319f7ad1f187955ebed347d57addc56b1d79479ad935b3989b1c49cff9"), looks := false }, kinds := [], alts := [], laidByText := true, laidKinds := [.data], laidTests := true, laidLooks := .later }
def ShaLongUptoCardSaid : Prop := Claim7.holds Tryd.pinned (.plain (OpenSpec.upto shaLongSpec)) shaLongUptoCard

/-- THE SECOND FORM's CARD OF 'chancerylaw01.ShaPieces'. -/
def shaPiecesUptoCard : Claim7 := { stood := { row := shaPiecesUptoRow, standIns := [], harness := (true, "e3ab6a319f7ad1f187955ebed347d57addc56b1d79479ad935b3989b1c49cff9"), looks := false }, kinds := [], alts := [], laidByText := true, laidKinds := [.data], laidTests := true, laidLooks := .later }
def ShaPiecesUptoCardSaid : Prop := Claim7.holds Tryd.pinned (.plain (OpenSpec.upto shaPiecesSpec)) shaPiecesUptoCard

/-- THE SECOND FORM's CARD OF 'chancerylaw01.ShaSplits'. -/
def shaSplitsUptoCard : Claim7 := { stood := { row := shaSplitsUptoRow, standIns := [], harness := (true, "e3ab6a319f7ad1f187955ebed347d57addc56b1d79479ad935b3989b1c49cff9"), looks := false }, kinds := [], alts := [], laidByText := true, laidKinds := [.data], laidTests := true, laidLooks := .later }
def ShaSplitsUptoCardSaid : Prop := Claim7.holds Tryd.pinned (.plain (OpenSpec.upto shaSplitsSpec)) shaSplitsUptoCard

/-- THE SECOND FORM's CARD OF 'chancerylaw01.ShaSums'. -/
def shaSumsUptoCard : Claim7 := { stood := { row := shaSumsUptoRow, standIns := [], harness := (true, "e3ab6a319f7ad1f187955ebed347d57addc56b1d79479ad935b3989b1c49cff9"), looks := false }, kinds := [], alts := [], laidByText := true, laidKinds := [.data], laidTests := true, laidLooks := .later }
def ShaSumsUptoCardSaid : Prop := Claim7.holds Tryd.pinned (.plain (OpenSpec.upto shaSumsSpec)) shaSumsUptoCard

/-- THE SECOND FORM's CARD OF 'chancerylaw01.ShaCodes'. -/
def shaCodesUptoCard : Claim7 := { stood := { row := shaCodesUptoRow, standIns := [], harness := (true, "e3ab6a319f7ad1f187955ebed347d57addc56b1d79479ad935b3989b1c49cff9"), looks := false }, kinds := [], alts := [], laidByText := true, laidKinds := [.data], laidTests := true, laidLooks := .later }
def ShaCodesUptoCardSaid : Prop := Claim7.holds Tryd.pinned (.plain (OpenSpec.upto shaCodesSpec)) shaCodesUptoCard
end Rows
end Go.Proofs.YtjdplgjabbeejaaDoor
