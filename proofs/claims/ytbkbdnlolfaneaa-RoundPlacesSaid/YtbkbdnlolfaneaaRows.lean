/-
  No cell of these rows narrows 'for every input' (looked for: loops, veiled, ifaces, maps, wideKeys, modest, calm, conditions, laid).
  DERIVED. THE GIVEN ROWS OF THIS SEAT. 8 by the template 'for every input the law returns true; each argument reads behind the call as it read before'; 0 by the template 'total and deterministic' (their statements: YtbkbdnlolfaneaaTotals.lean).
  GIVEN WITH THE SEED: the statements are not yours to turn. If you find one false, say at which input.
  Laid BY PROGRAM, IN A SANDBOX (cutbox-rows.mjs): the forced cells as the released guide's own fill.sh prints them over the translation 643b1ddc5b861905… (all of the seat's roots in one cut). By AI agents, Wed Nov 11 2026. No macro, syntax, notation, axiom, sorry.
-/
import Derived.Test.YtbkbdnlolfaneaaChecked
import GoSem.Claim
import GoSem.ClaimJoined
import GoSem.ClaimMapViews
import Derived.JoinedTies
import Derived.KernelRfl
namespace Go.Proofs.Ytbkbdnlolfaneaa
/- THE CELL 'sum', in the pinned program and in every row, IS THE sha256 OF THE DUMP (.gsa) THAT YtbkbdnlolfaneaaProg.lean LOADS. Nothing in Lean hashes anything: it is a label: what it is worth is what the hold of that sum in a sandbox is worth. -/
noncomputable def Try.pinned : Pinned := { name := "ytbkbdnlolfaneaa", sum := "643b1ddc5b861905f918ad5d1fea7d7f83caab3b7a99fd8c4e802e9c8846927f", checked := Try.checked }
namespace Rows
def none {H : Type} : Left H := { results := [], args := [] }

/-- 'chancerylaw04.RoundCuts': WHATEVER THE INPUT: true; the input reads as it did. -/
def roundCutsSpec : ChangeSpec := { name := "roundCuts", fn := fun _ => fun
  | [d1, d2] => { results := [.lit (.bool true)], args := [d1, d2] }
  | _ => none }
def roundCutsRow : OpenClaim := { program := "ytbkbdnlolfaneaa", sum := "643b1ddc5b861905f918ad5d1fea7d7f83caab3b7a99fd8c4e802e9c8846927f", func := "chancery/chancerylaw04.RoundCuts", spec := "roundCuts", apart := false }
def RoundCutsSaid : Prop := roundCutsRow.holds Try.pinned (OpenSpec.ofChange roundCutsSpec)

/-- ITS FALSE NEIGHBOUR: 'it returns false'. Refute it at one input. -/
def roundCutsWrong : ChangeSpec := { name := "roundCuts", fn := fun _ => fun
  | [d1, d2] => { results := [.lit (.bool false)], args := [d1, d2] }
  | _ => none }
def RoundCutsWrongFalsely : Prop := roundCutsRow.holds Try.pinned (OpenSpec.ofChange roundCutsWrong)

/-- 'chancerylaw04.RoundJoins': WHATEVER THE INPUT: true; the input reads as it did. -/
def roundJoinsSpec : ChangeSpec := { name := "roundJoins", fn := fun _ => fun
  | [d1, d2, d3] => { results := [.lit (.bool true)], args := [d1, d2, d3] }
  | _ => none }
def roundJoinsRow : OpenClaim := { program := "ytbkbdnlolfaneaa", sum := "643b1ddc5b861905f918ad5d1fea7d7f83caab3b7a99fd8c4e802e9c8846927f", func := "chancery/chancerylaw04.RoundJoins", spec := "roundJoins", apart := false }
def RoundJoinsSaid : Prop := roundJoinsRow.holds Try.pinned (OpenSpec.ofChange roundJoinsSpec)

/-- ITS FALSE NEIGHBOUR: 'it returns false'. Refute it at one input. -/
def roundJoinsWrong : ChangeSpec := { name := "roundJoins", fn := fun _ => fun
  | [d1, d2, d3] => { results := [.lit (.bool false)], args := [d1, d2, d3] }
  | _ => none }
def RoundJoinsWrongFalsely : Prop := roundJoinsRow.holds Try.pinned (OpenSpec.ofChange roundJoinsWrong)

/-- 'chancerylaw04.RoundPacks': WHATEVER THE INPUT: true; the input reads as it did. -/
def roundPacksSpec : ChangeSpec := { name := "roundPacks", fn := fun _ => fun
  | [d1, d2] => { results := [.lit (.bool true)], args := [d1, d2] }
  | _ => none }
def roundPacksRow : OpenClaim := { program := "ytbkbdnlolfaneaa", sum := "643b1ddc5b861905f918ad5d1fea7d7f83caab3b7a99fd8c4e802e9c8846927f", func := "chancery/chancerylaw04.RoundPacks", spec := "roundPacks", apart := false }
def RoundPacksSaid : Prop := roundPacksRow.holds Try.pinned (OpenSpec.ofChange roundPacksSpec)

/-- ITS FALSE NEIGHBOUR: 'it returns false'. Refute it at one input. -/
def roundPacksWrong : ChangeSpec := { name := "roundPacks", fn := fun _ => fun
  | [d1, d2] => { results := [.lit (.bool false)], args := [d1, d2] }
  | _ => none }
def RoundPacksWrongFalsely : Prop := roundPacksRow.holds Try.pinned (OpenSpec.ofChange roundPacksWrong)

/-- 'chancerylaw04.RoundReads': WHATEVER THE INPUT: true; the input reads as it did. -/
def roundReadsSpec : ChangeSpec := { name := "roundReads", fn := fun _ => fun
  | [d1, d2] => { results := [.lit (.bool true)], args := [d1, d2] }
  | _ => none }
def roundReadsRow : OpenClaim := { program := "ytbkbdnlolfaneaa", sum := "643b1ddc5b861905f918ad5d1fea7d7f83caab3b7a99fd8c4e802e9c8846927f", func := "chancery/chancerylaw04.RoundReads", spec := "roundReads", apart := false }
def RoundReadsSaid : Prop := roundReadsRow.holds Try.pinned (OpenSpec.ofChange roundReadsSpec)

/-- ITS FALSE NEIGHBOUR: 'it returns false'. Refute it at one input. -/
def roundReadsWrong : ChangeSpec := { name := "roundReads", fn := fun _ => fun
  | [d1, d2] => { results := [.lit (.bool false)], args := [d1, d2] }
  | _ => none }
def RoundReadsWrongFalsely : Prop := roundReadsRow.holds Try.pinned (OpenSpec.ofChange roundReadsWrong)

/-- 'chancerylaw04.RoundHints': WHATEVER THE INPUT: true; the input reads as it did. -/
def roundHintsSpec : ChangeSpec := { name := "roundHints", fn := fun _ => fun
  | [d1, d2, d3, d4] => { results := [.lit (.bool true)], args := [d1, d2, d3, d4] }
  | _ => none }
def roundHintsRow : OpenClaim := { program := "ytbkbdnlolfaneaa", sum := "643b1ddc5b861905f918ad5d1fea7d7f83caab3b7a99fd8c4e802e9c8846927f", func := "chancery/chancerylaw04.RoundHints", spec := "roundHints", apart := false }
def RoundHintsSaid : Prop := roundHintsRow.holds Try.pinned (OpenSpec.ofChange roundHintsSpec)

/-- ITS FALSE NEIGHBOUR: 'it returns false'. Refute it at one input. -/
def roundHintsWrong : ChangeSpec := { name := "roundHints", fn := fun _ => fun
  | [d1, d2, d3, d4] => { results := [.lit (.bool false)], args := [d1, d2, d3, d4] }
  | _ => none }
def RoundHintsWrongFalsely : Prop := roundHintsRow.holds Try.pinned (OpenSpec.ofChange roundHintsWrong)

/-- 'chancerylaw04.RoundShort': WHATEVER THE INPUT: true; the input reads as it did. -/
def roundShortSpec : ChangeSpec := { name := "roundShort", fn := fun _ => fun
  | [d1, d2] => { results := [.lit (.bool true)], args := [d1, d2] }
  | _ => none }
def roundShortRow : OpenClaim := { program := "ytbkbdnlolfaneaa", sum := "643b1ddc5b861905f918ad5d1fea7d7f83caab3b7a99fd8c4e802e9c8846927f", func := "chancery/chancerylaw04.RoundShort", spec := "roundShort", apart := false }
def RoundShortSaid : Prop := roundShortRow.holds Try.pinned (OpenSpec.ofChange roundShortSpec)

/-- ITS FALSE NEIGHBOUR: 'it returns false'. Refute it at one input. -/
def roundShortWrong : ChangeSpec := { name := "roundShort", fn := fun _ => fun
  | [d1, d2] => { results := [.lit (.bool false)], args := [d1, d2] }
  | _ => none }
def RoundShortWrongFalsely : Prop := roundShortRow.holds Try.pinned (OpenSpec.ofChange roundShortWrong)

/-- 'chancerylaw04.RoundPlaces': WHATEVER THE INPUT: true; the input reads as it did. -/
def roundPlacesSpec : ChangeSpec := { name := "roundPlaces", fn := fun _ => fun
  | [d1, d2] => { results := [.lit (.bool true)], args := [d1, d2] }
  | _ => none }
def roundPlacesRow : OpenClaim := { program := "ytbkbdnlolfaneaa", sum := "643b1ddc5b861905f918ad5d1fea7d7f83caab3b7a99fd8c4e802e9c8846927f", func := "chancery/chancerylaw04.RoundPlaces", spec := "roundPlaces", apart := false }
def RoundPlacesSaid : Prop := roundPlacesRow.holds Try.pinned (OpenSpec.ofChange roundPlacesSpec)

/-- ITS FALSE NEIGHBOUR: 'it returns false'. Refute it at one input. -/
def roundPlacesWrong : ChangeSpec := { name := "roundPlaces", fn := fun _ => fun
  | [d1, d2] => { results := [.lit (.bool false)], args := [d1, d2] }
  | _ => none }
def RoundPlacesWrongFalsely : Prop := roundPlacesRow.holds Try.pinned (OpenSpec.ofChange roundPlacesWrong)

/-- 'chancerylaw04.RoundOnly': WHATEVER THE INPUT: true; the input reads as it did. -/
def roundOnlySpec : ChangeSpec := { name := "roundOnly", fn := fun _ => fun
  | [d1, d2, d3] => { results := [.lit (.bool true)], args := [d1, d2, d3] }
  | _ => none }
def roundOnlyRow : OpenClaim := { program := "ytbkbdnlolfaneaa", sum := "643b1ddc5b861905f918ad5d1fea7d7f83caab3b7a99fd8c4e802e9c8846927f", func := "chancery/chancerylaw04.RoundOnly", spec := "roundOnly", apart := false }
def RoundOnlySaid : Prop := roundOnlyRow.holds Try.pinned (OpenSpec.ofChange roundOnlySpec)

/-- ITS FALSE NEIGHBOUR: 'it returns false'. Refute it at one input. -/
def roundOnlyWrong : ChangeSpec := { name := "roundOnly", fn := fun _ => fun
  | [d1, d2, d3] => { results := [.lit (.bool false)], args := [d1, d2, d3] }
  | _ => none }
def RoundOnlyWrongFalsely : Prop := roundOnlyRow.holds Try.pinned (OpenSpec.ofChange roundOnlyWrong)

/- THE SECOND FORM. 'bulk': how many values and letters a reading holds, each counted each time it is reached (what is shared counts as often as it is met; a slice's spare places count too). A statement '..UptoSaid' is the law's where the arguments, and the package variables that the reading takes, are together of bulk at most 1048576: NARROWER than '..Said'. Prove '..Said' where nothing that the law and all that it calls make is longer than what came in: it says more and counts as full. Else prove '..UptoSaid'. A law counts once. -/
mutual
def uptoBulk {H : Type} : DataW H → Nat
  | .lit (.string bytes) => bytes.length + 1
  | .lit _ => 1
  | .nil => 1
  | .ptr d => uptoBulk d + 1
  | .slice elems spare => uptoBulkAll elems + uptoBulkAll spare + 1
  | .agg parts => uptoBulkAll parts + 1
  | .iface _ d => uptoBulk d + 1
  | .map entries => uptoBulkEntries entries + 1
  | .held _ => 1
def uptoBulkAll {H : Type} : List (DataW H) → Nat
  | [] => 0
  | d :: r => uptoBulk d + uptoBulkAll r
def uptoBulkEntries {H : Type} : List (Lit × DataW H) → Nat
  | [] => 0
  | x :: r => uptoBulkEntry x + uptoBulkEntries r
def uptoBulkEntry {H : Type} : Lit × DataW H → Nat
  | (.string bytes, d) => bytes.length + uptoBulk d + 1
  | (_, d) => uptoBulk d + 1
 end
def uptoSmall : (H : Type) → List (DataW H) → Bool := fun _ ds => decide (uptoBulkAll ds ≤ 1048576)
def OpenSpec.upto (s : _root_.Go.ChangeSpec) : _root_.Go.OpenSpec := { _root_.Go.OpenSpec.ofChange s with cond := some uptoSmall }

/-- 'chancerylaw04.RoundCuts', WHERE WHAT IT READS IS OF BULK AT MOST 1048576: true; the input reads as it did. -/
def roundCutsUptoRow : OpenClaim := { program := "ytbkbdnlolfaneaa", sum := "643b1ddc5b861905f918ad5d1fea7d7f83caab3b7a99fd8c4e802e9c8846927f", func := "chancery/chancerylaw04.RoundCuts", spec := "roundCuts", apart := false, narrowed := true }
def RoundCutsUptoSaid : Prop := roundCutsUptoRow.holds Try.pinned (OpenSpec.upto roundCutsSpec)

/-- 'chancerylaw04.RoundJoins', WHERE WHAT IT READS IS OF BULK AT MOST 1048576: true; the input reads as it did. -/
def roundJoinsUptoRow : OpenClaim := { program := "ytbkbdnlolfaneaa", sum := "643b1ddc5b861905f918ad5d1fea7d7f83caab3b7a99fd8c4e802e9c8846927f", func := "chancery/chancerylaw04.RoundJoins", spec := "roundJoins", apart := false, narrowed := true }
def RoundJoinsUptoSaid : Prop := roundJoinsUptoRow.holds Try.pinned (OpenSpec.upto roundJoinsSpec)

/-- 'chancerylaw04.RoundPacks', WHERE WHAT IT READS IS OF BULK AT MOST 1048576: true; the input reads as it did. -/
def roundPacksUptoRow : OpenClaim := { program := "ytbkbdnlolfaneaa", sum := "643b1ddc5b861905f918ad5d1fea7d7f83caab3b7a99fd8c4e802e9c8846927f", func := "chancery/chancerylaw04.RoundPacks", spec := "roundPacks", apart := false, narrowed := true }
def RoundPacksUptoSaid : Prop := roundPacksUptoRow.holds Try.pinned (OpenSpec.upto roundPacksSpec)

/-- 'chancerylaw04.RoundReads', WHERE WHAT IT READS IS OF BULK AT MOST 1048576: true; the input reads as it did. -/
def roundReadsUptoRow : OpenClaim := { program := "ytbkbdnlolfaneaa", sum := "643b1ddc5b861905f918ad5d1fea7d7f83caab3b7a99fd8c4e802e9c8846927f", func := "chancery/chancerylaw04.RoundReads", spec := "roundReads", apart := false, narrowed := true }
def RoundReadsUptoSaid : Prop := roundReadsUptoRow.holds Try.pinned (OpenSpec.upto roundReadsSpec)

/-- 'chancerylaw04.RoundHints', WHERE WHAT IT READS IS OF BULK AT MOST 1048576: true; the input reads as it did. -/
def roundHintsUptoRow : OpenClaim := { program := "ytbkbdnlolfaneaa", sum := "643b1ddc5b861905f918ad5d1fea7d7f83caab3b7a99fd8c4e802e9c8846927f", func := "chancery/chancerylaw04.RoundHints", spec := "roundHints", apart := false, narrowed := true }
def RoundHintsUptoSaid : Prop := roundHintsUptoRow.holds Try.pinned (OpenSpec.upto roundHintsSpec)

/-- 'chancerylaw04.RoundShort', WHERE WHAT IT READS IS OF BULK AT MOST 1048576: true; the input reads as it did. -/
def roundShortUptoRow : OpenClaim := { program := "ytbkbdnlolfaneaa", sum := "643b1ddc5b861905f918ad5d1fea7d7f83caab3b7a99fd8c4e802e9c8846927f", func := "chancery/chancerylaw04.RoundShort", spec := "roundShort", apart := false, narrowed := true }
def RoundShortUptoSaid : Prop := roundShortUptoRow.holds Try.pinned (OpenSpec.upto roundShortSpec)

/-- 'chancerylaw04.RoundPlaces', WHERE WHAT IT READS IS OF BULK AT MOST 1048576: true; the input reads as it did. -/
def roundPlacesUptoRow : OpenClaim := { program := "ytbkbdnlolfaneaa", sum := "643b1ddc5b861905f918ad5d1fea7d7f83caab3b7a99fd8c4e802e9c8846927f", func := "chancery/chancerylaw04.RoundPlaces", spec := "roundPlaces", apart := false, narrowed := true }
def RoundPlacesUptoSaid : Prop := roundPlacesUptoRow.holds Try.pinned (OpenSpec.upto roundPlacesSpec)

/-- 'chancerylaw04.RoundOnly', WHERE WHAT IT READS IS OF BULK AT MOST 1048576: true; the input reads as it did. -/
def roundOnlyUptoRow : OpenClaim := { program := "ytbkbdnlolfaneaa", sum := "643b1ddc5b861905f918ad5d1fea7d7f83caab3b7a99fd8c4e802e9c8846927f", func := "chancery/chancerylaw04.RoundOnly", spec := "roundOnly", apart := false, narrowed := true }
def RoundOnlyUptoSaid : Prop := roundOnlyUptoRow.holds Try.pinned (OpenSpec.upto roundOnlySpec)

end Rows
end Go.Proofs.Ytbkbdnlolfaneaa
