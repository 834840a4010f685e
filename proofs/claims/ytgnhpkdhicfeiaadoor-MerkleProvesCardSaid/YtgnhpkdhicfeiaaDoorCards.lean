/-
  DERIVED. GIVEN WITH THE SEED: THE CARDS: each row of YtgnhpkdhicfeiaaDoorRows.lean that lists a variable, with what it lists TIED to the program's text (the seventh form; the later family's looks); each row that meets fmt, with fmt's text TOLD by the authors' own Lean function (tested against real Go, not proved from fmt's source: count such statements apart). THE CARD IS WHAT COUNTS. Prove the row's statement (the work); the ties are given (YtgnhpkdhicfeiaaDoorTie.lean); close each card by the builder's one call (the guide's Derived/Test/ToyasCard.lean, 'card_holds'). Laid BY PROGRAM, IN A SANDBOX (cutbox-door.mjs). By AI agents, Wed Nov 11 2026. No macro, syntax, notation, axiom, sorry.
-/
import Derived.Test.YtgnhpkdhicfeiaaDoorRows
import GoSem.ClaimSeven
namespace Go.Proofs.YtgnhpkdhicfeiaaDoor
namespace Rows

/-- THE TIED CARD OF 'chancerylaw16.MerklePaths'. -/
def merklePathsCard : Claim7 := { stood := { row := merklePathsRow, standIns := [], harness := (true, "c6d170372140391b9b9b0d6b10739802272a84a45415c49302bf5cc18c574ed1"), looks := false }, kinds := [], alts := [], laidByText := true, laidKinds := [.data, .data, .data], laidTests := true, laidLooks := .later }
def MerklePathsCardSaid : Prop := Claim7.holds Tryd.pinned (.plain (OpenSpec.ofChange merklePathsSpec)) merklePathsCard

/-- THE TIED CARD OF 'chancerylaw16.MerkleBridges'. -/
def merkleBridgesCard : Claim7 := { stood := { row := merkleBridgesRow, standIns := [], harness := (true, "c6d170372140391b9b9b0d6b10739802272a84a45415c49302bf5cc18c574ed1"), looks := false }, kinds := [], alts := [], laidByText := true, laidKinds := [.data, .data, .data], laidTests := true, laidLooks := .later }
def MerkleBridgesCardSaid : Prop := Claim7.holds Tryd.pinned (.plain (OpenSpec.ofChange merkleBridgesSpec)) merkleBridgesCard

/-- THE TIED CARD OF 'chancerylaw16.MerkleRoots'. -/
def merkleRootsCard : Claim7 := { stood := { row := merkleRootsRow, standIns := [], harness := (true, "c6d170372140391b9b9b0d6b10739802272a84a45415c49302bf5cc18c574ed1"), looks := false }, kinds := [], alts := [], laidByText := true, laidKinds := [.data, .data, .data], laidTests := true, laidLooks := .later }
def MerkleRootsCardSaid : Prop := Claim7.holds Tryd.pinned (.plain (OpenSpec.ofChange merkleRootsSpec)) merkleRootsCard

/-- THE TIED CARD OF 'chancerylaw16.MerkleStays'. -/
def merkleStaysCard : Claim7 := { stood := { row := merkleStaysRow, standIns := [], harness := (true, "c6d170372140391b9b9b0d6b10739802272a84a45415c49302bf5cc18c574ed1"), looks := false }, kinds := [], alts := [], laidByText := true, laidKinds := [.data, .data, .data], laidTests := true, laidLooks := .later }
def MerkleStaysCardSaid : Prop := Claim7.holds Tryd.pinned (.plain (OpenSpec.ofChange merkleStaysSpec)) merkleStaysCard

/-- THE TIED CARD OF 'chancerylaw16.MerkleUnlike'. -/
def merkleUnlikeCard : Claim7 := { stood := { row := merkleUnlikeRow, standIns := [], harness := (true, "c6d170372140391b9b9b0d6b10739802272a84a45415c49302bf5cc18c574ed1"), looks := false }, kinds := [], alts := [], laidByText := true, laidKinds := [.data, .data, .data], laidTests := true, laidLooks := .later }
def MerkleUnlikeCardSaid : Prop := Claim7.holds Tryd.pinned (.plain (OpenSpec.ofChange merkleUnlikeSpec)) merkleUnlikeCard

/-- THE TIED CARD OF 'chancerylaw16.MerkleProves'. -/
def merkleProvesCard : Claim7 := { stood := { row := merkleProvesRow, standIns := [], harness := (true, "c6d170372140391b9b9b0d6b10739802272a84a45415c49302bf5cc18c574ed1"), looks := false }, kinds := [], alts := [], laidByText := true, laidKinds := [.data, .data, .data], laidTests := true, laidLooks := .later }
def MerkleProvesCardSaid : Prop := Claim7.holds Tryd.pinned (.plain (OpenSpec.ofChange merkleProvesSpec)) merkleProvesCard

/-- THE SECOND FORM's CARD OF 'chancerylaw16.MerklePaths'. -/
def merklePathsUptoCard : Claim7 := { stood := { row := merklePathsUptoRow, standIns := [], harness := (true, "c6d170372140391b9b9b0d6b10739802272a84a45415c49302bf5cc18c574ed1"), looks := false }, kinds := [], alts := [], laidByText := true, laidKinds := [.data, .data, .data], laidTests := true, laidLooks := .later }
def MerklePathsUptoCardSaid : Prop := Claim7.holds Tryd.pinned (.plain (OpenSpec.upto merklePathsSpec)) merklePathsUptoCard

/-- THE SECOND FORM's CARD OF 'chancerylaw16.MerkleBridges'. -/
def merkleBridgesUptoCard : Claim7 := { stood := { row := merkleBridgesUptoRow, standIns := [], harness := (true, "c6d170372140391b9b9b0d6b10739802272a84a45415c49302bf5cc18c574ed1"), looks := false }, kinds := [], alts := [], laidByText := true, laidKinds := [.data, .data, .data], laidTests := true, laidLooks := .later }
def MerkleBridgesUptoCardSaid : Prop := Claim7.holds Tryd.pinned (.plain (OpenSpec.upto merkleBridgesSpec)) merkleBridgesUptoCard

/-- THE SECOND FORM's CARD OF 'chancerylaw16.MerkleRoots'. -/
def merkleRootsUptoCard : Claim7 := { stood := { row := merkleRootsUptoRow, standIns := [], harness := (true, "c6d170372140391b9b9b0d6b10739802272a84a45415c49302bf5cc18c574ed1"), looks := false }, kinds := [], alts := [], laidByText := true, laidKinds := [.data, .data, .data], laidTests := true, laidLooks := .later }
def MerkleRootsUptoCardSaid : Prop := Claim7.holds Tryd.pinned (.plain (OpenSpec.upto merkleRootsSpec)) merkleRootsUptoCard

/-- THE SECOND FORM's CARD OF 'chancerylaw16.MerkleStays'. -/
def merkleStaysUptoCard : Claim7 := { stood := { row := merkleStaysUptoRow, standIns := [], harness := (true, "c6d170372140391b9b9b0d6b10739802272a84a45415c49302bf5cc18c574ed1"), looks := false }, kinds := [], alts := [], laidByText := true, laidKinds := [.data, .data, .data], laidTests := true, laidLooks := .later }
def MerkleStaysUptoCardSaid : Prop := Claim7.holds Tryd.pinned (.plain (OpenSpec.upto merkleStaysSpec)) merkleStaysUptoCard

/-- THE SECOND FORM's CARD OF 'chancerylaw16.MerkleUnlike'. -/
def merkleUnlikeUptoCard : Claim7 := { stood := { row := merkleUnlikeUptoRow, standIns := [], harness := (true, "c6d170372140391b9b9b0d6b10739802272a84a45415c49302bf5cc18c574ed1"), looks := false }, kinds := [], alts := [], laidByText := true, laidKinds := [.data, .data, .data], laidTests := true, laidLooks := .later }
def MerkleUnlikeUptoCardSaid : Prop := Claim7.holds Tryd.pinned (.plain (OpenSpec.upto merkleUnlikeSpec)) merkleUnlikeUptoCard

/-- THE SECOND FORM's CARD OF 'chancerylaw16.MerkleProves'. -/
def merkleProvesUptoCard : Claim7 := { stood := { row := merkleProvesUptoRow, standIns := [], harness := (true, "c6d170372140391b9b9b0d6b10739802272a84a45415c49302bf5cc18c574ed1"), looks := false }, kinds := [], alts := [], laidByText := true, laidKinds := [.data, .data, .data], laidTests := true, laidLooks := .later }
def MerkleProvesUptoCardSaid : Prop := Claim7.holds Tryd.pinned (.plain (OpenSpec.upto merkleProvesSpec)) merkleProvesUptoCard
end Rows
end Go.Proofs.YtgnhpkdhicfeiaaDoor
