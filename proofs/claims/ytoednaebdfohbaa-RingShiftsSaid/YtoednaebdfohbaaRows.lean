/-
  No cell of these rows narrows 'for every input' (looked for: loops, veiled, ifaces, maps, wideKeys, modest, calm, conditions, laid).
  DERIVED. THE GIVEN ROWS OF THIS SEAT. 7 by the template 'for every input the law returns true; each argument reads behind the call as it read before'; 0 by the template 'total and deterministic' (their statements: YtoednaebdfohbaaTotals.lean).
  GIVEN WITH THE SEED: the statements are not yours to turn. If you find one false, say at which input.
  Laid BY PROGRAM, IN A SANDBOX (cutbox-rows.mjs): the forced cells as the released guide's own fill.sh prints them over the translation 11da4ca7ca569b60… (all of the seat's roots in one cut). By AI agents, Wed Nov 11 2026. No macro, syntax, notation, axiom, sorry.
-/
import Derived.Test.YtoednaebdfohbaaChecked
import GoSem.Claim
import GoSem.ClaimJoined
import GoSem.ClaimMapViews
import Derived.JoinedTies
import Derived.KernelRfl
namespace Go.Proofs.Ytoednaebdfohbaa
/- THE CELL 'sum', in the pinned program and in every row, IS THE sha256 OF THE DUMP (.gsa) THAT YtoednaebdfohbaaProg.lean LOADS. Nothing in Lean hashes anything: it is a label: what it is worth is what the hold of that sum in a sandbox is worth. -/
noncomputable def Try.pinned : Pinned := { name := "ytoednaebdfohbaa", sum := "11da4ca7ca569b601e67cf1e621ea69ff8ef011df134614947373d1e7ef7d005", checked := Try.checked }
namespace Rows
def none {H : Type} : Left H := { results := [], args := [] }

/-- 'chancerylaw03.RingThere': WHATEVER THE INPUT: true; the input reads as it did. -/
def ringThereSpec : ChangeSpec := { name := "ringThere", fn := fun _ => fun
  | [d] => { results := [.lit (.bool true)], args := [d] }
  | _ => none }
def ringThereRow : OpenClaim := { program := "ytoednaebdfohbaa", sum := "11da4ca7ca569b601e67cf1e621ea69ff8ef011df134614947373d1e7ef7d005", func := "chancery/chancerylaw03.RingThere", spec := "ringThere", unfollowed := true, recurses := true, apart := false }
def RingThereSaid : Prop := ringThereRow.holds Try.pinned (OpenSpec.ofChange ringThereSpec)

/-- ITS FALSE NEIGHBOUR: 'it returns false'. Refute it at one input. -/
def ringThereWrong : ChangeSpec := { name := "ringThere", fn := fun _ => fun
  | [d] => { results := [.lit (.bool false)], args := [d] }
  | _ => none }
def RingThereWrongFalsely : Prop := ringThereRow.holds Try.pinned (OpenSpec.ofChange ringThereWrong)

/-- 'chancerylaw03.RingShifts': WHATEVER THE INPUT: true; the input reads as it did. -/
def ringShiftsSpec : ChangeSpec := { name := "ringShifts", fn := fun _ => fun
  | [d1, d2] => { results := [.lit (.bool true)], args := [d1, d2] }
  | _ => none }
def ringShiftsRow : OpenClaim := { program := "ytoednaebdfohbaa", sum := "11da4ca7ca569b601e67cf1e621ea69ff8ef011df134614947373d1e7ef7d005", func := "chancery/chancerylaw03.RingShifts", spec := "ringShifts", unfollowed := true, recurses := true, apart := false }
def RingShiftsSaid : Prop := ringShiftsRow.holds Try.pinned (OpenSpec.ofChange ringShiftsSpec)

/-- ITS FALSE NEIGHBOUR: 'it returns false'. Refute it at one input. -/
def ringShiftsWrong : ChangeSpec := { name := "ringShifts", fn := fun _ => fun
  | [d1, d2] => { results := [.lit (.bool false)], args := [d1, d2] }
  | _ => none }
def RingShiftsWrongFalsely : Prop := ringShiftsRow.holds Try.pinned (OpenSpec.ofChange ringShiftsWrong)

/-- 'chancerylaw03.RingLaws': WHATEVER THE INPUT: true; the input reads as it did. -/
def ringLawsSpec : ChangeSpec := { name := "ringLaws", fn := fun _ => fun
  | [d1, d2, d3] => { results := [.lit (.bool true)], args := [d1, d2, d3] }
  | _ => none }
def ringLawsRow : OpenClaim := { program := "ytoednaebdfohbaa", sum := "11da4ca7ca569b601e67cf1e621ea69ff8ef011df134614947373d1e7ef7d005", func := "chancery/chancerylaw03.RingLaws", spec := "ringLaws", unfollowed := true, recurses := true, apart := false }
def RingLawsSaid : Prop := ringLawsRow.holds Try.pinned (OpenSpec.ofChange ringLawsSpec)

/-- ITS FALSE NEIGHBOUR: 'it returns false'. Refute it at one input. -/
def ringLawsWrong : ChangeSpec := { name := "ringLaws", fn := fun _ => fun
  | [d1, d2, d3] => { results := [.lit (.bool false)], args := [d1, d2, d3] }
  | _ => none }
def RingLawsWrongFalsely : Prop := ringLawsRow.holds Try.pinned (OpenSpec.ofChange ringLawsWrong)

/-- 'chancerylaw03.RingOwn': WHATEVER THE INPUT: true; the input reads as it did. -/
def ringOwnSpec : ChangeSpec := { name := "ringOwn", fn := fun _ => fun
  | [d1, d2] => { results := [.lit (.bool true)], args := [d1, d2] }
  | _ => none }
def ringOwnRow : OpenClaim := { program := "ytoednaebdfohbaa", sum := "11da4ca7ca569b601e67cf1e621ea69ff8ef011df134614947373d1e7ef7d005", func := "chancery/chancerylaw03.RingOwn", spec := "ringOwn", unfollowed := true, recurses := true, apart := false }
def RingOwnSaid : Prop := ringOwnRow.holds Try.pinned (OpenSpec.ofChange ringOwnSpec)

/-- ITS FALSE NEIGHBOUR: 'it returns false'. Refute it at one input. -/
def ringOwnWrong : ChangeSpec := { name := "ringOwn", fn := fun _ => fun
  | [d1, d2] => { results := [.lit (.bool false)], args := [d1, d2] }
  | _ => none }
def RingOwnWrongFalsely : Prop := ringOwnRow.holds Try.pinned (OpenSpec.ofChange ringOwnWrong)

/-- 'chancerylaw03.RingSums': WHATEVER THE INPUT: true; the input reads as it did. -/
def ringSumsSpec : ChangeSpec := { name := "ringSums", fn := fun _ => fun
  | [d1, d2] => { results := [.lit (.bool true)], args := [d1, d2] }
  | _ => none }
def ringSumsRow : OpenClaim := { program := "ytoednaebdfohbaa", sum := "11da4ca7ca569b601e67cf1e621ea69ff8ef011df134614947373d1e7ef7d005", func := "chancery/chancerylaw03.RingSums", spec := "ringSums", unfollowed := true, recurses := true, apart := false }
def RingSumsSaid : Prop := ringSumsRow.holds Try.pinned (OpenSpec.ofChange ringSumsSpec)

/-- ITS FALSE NEIGHBOUR: 'it returns false'. Refute it at one input. -/
def ringSumsWrong : ChangeSpec := { name := "ringSums", fn := fun _ => fun
  | [d1, d2] => { results := [.lit (.bool false)], args := [d1, d2] }
  | _ => none }
def RingSumsWrongFalsely : Prop := ringSumsRow.holds Try.pinned (OpenSpec.ofChange ringSumsWrong)

/-- 'chancerylaw03.RingUnits': WHATEVER THE INPUT: true; the input reads as it did. -/
def ringUnitsSpec : ChangeSpec := { name := "ringUnits", fn := fun _ => fun
  | [d1, d2] => { results := [.lit (.bool true)], args := [d1, d2] }
  | _ => none }
def ringUnitsRow : OpenClaim := { program := "ytoednaebdfohbaa", sum := "11da4ca7ca569b601e67cf1e621ea69ff8ef011df134614947373d1e7ef7d005", func := "chancery/chancerylaw03.RingUnits", spec := "ringUnits", unfollowed := true, recurses := true, apart := false }
def RingUnitsSaid : Prop := ringUnitsRow.holds Try.pinned (OpenSpec.ofChange ringUnitsSpec)

/-- ITS FALSE NEIGHBOUR: 'it returns false'. Refute it at one input. -/
def ringUnitsWrong : ChangeSpec := { name := "ringUnits", fn := fun _ => fun
  | [d1, d2] => { results := [.lit (.bool false)], args := [d1, d2] }
  | _ => none }
def RingUnitsWrongFalsely : Prop := ringUnitsRow.holds Try.pinned (OpenSpec.ofChange ringUnitsWrong)

/-- 'chancerylaw03.RingNorms': WHATEVER THE INPUT: true; the input reads as it did. -/
def ringNormsSpec : ChangeSpec := { name := "ringNorms", fn := fun _ => fun
  | [d1, d2] => { results := [.lit (.bool true)], args := [d1, d2] }
  | _ => none }
def ringNormsRow : OpenClaim := { program := "ytoednaebdfohbaa", sum := "11da4ca7ca569b601e67cf1e621ea69ff8ef011df134614947373d1e7ef7d005", func := "chancery/chancerylaw03.RingNorms", spec := "ringNorms", unfollowed := true, recurses := true, apart := false }
def RingNormsSaid : Prop := ringNormsRow.holds Try.pinned (OpenSpec.ofChange ringNormsSpec)

/-- ITS FALSE NEIGHBOUR: 'it returns false'. Refute it at one input. -/
def ringNormsWrong : ChangeSpec := { name := "ringNorms", fn := fun _ => fun
  | [d1, d2] => { results := [.lit (.bool false)], args := [d1, d2] }
  | _ => none }
def RingNormsWrongFalsely : Prop := ringNormsRow.holds Try.pinned (OpenSpec.ofChange ringNormsWrong)

/- THE SECOND FORM. 'bulk': how many values and letters a reading holds, each counted each time it is reached (what is shared counts as often as it is met; a slice's spare places count too). A statement '..UptoSaid' is the law's where the arguments, and the package variables that the reading takes, are together of bulk at most 1048576: NARROWER than '..Said'. Prove '..Said' where nothing that the law and all that it calls make is longer than what came in: it says more and counts as full. Else prove '..UptoSaid'. A law counts once. -/
mutual
def uptoBulk {H : Type} : DataW H → Nat
  | .lit (.string bytes) => bytes.length + 1
  | .lit _ => 1
  | .nil => 1
  | .ptr d => uptoBulk d + 1
  | .slice elems spare => uptoBulkAll elems + uptoBulkAll spare + 1
  | .agg parts => uptoBulkAll parts + 1
  | .iface _ d => uptoBulk d + 1
  | .map entries => uptoBulkEntries entries + 1
  | .held _ => 1
def uptoBulkAll {H : Type} : List (DataW H) → Nat
  | [] => 0
  | d :: r => uptoBulk d + uptoBulkAll r
def uptoBulkEntries {H : Type} : List (Lit × DataW H) → Nat
  | [] => 0
  | x :: r => uptoBulkEntry x + uptoBulkEntries r
def uptoBulkEntry {H : Type} : Lit × DataW H → Nat
  | (.string bytes, d) => bytes.length + uptoBulk d + 1
  | (_, d) => uptoBulk d + 1
 end
def uptoSmall : (H : Type) → List (DataW H) → Bool := fun _ ds => decide (uptoBulkAll ds ≤ 1048576)
def OpenSpec.upto (s : _root_.Go.ChangeSpec) : _root_.Go.OpenSpec := { _root_.Go.OpenSpec.ofChange s with cond := some uptoSmall }

/-- 'chancerylaw03.RingThere', WHERE WHAT IT READS IS OF BULK AT MOST 1048576: true; the input reads as it did. -/
def ringThereUptoRow : OpenClaim := { program := "ytoednaebdfohbaa", sum := "11da4ca7ca569b601e67cf1e621ea69ff8ef011df134614947373d1e7ef7d005", func := "chancery/chancerylaw03.RingThere", spec := "ringThere", unfollowed := true, recurses := true, apart := false, narrowed := true }
def RingThereUptoSaid : Prop := ringThereUptoRow.holds Try.pinned (OpenSpec.upto ringThereSpec)

/-- 'chancerylaw03.RingShifts', WHERE WHAT IT READS IS OF BULK AT MOST 1048576: true; the input reads as it did. -/
def ringShiftsUptoRow : OpenClaim := { program := "ytoednaebdfohbaa", sum := "11da4ca7ca569b601e67cf1e621ea69ff8ef011df134614947373d1e7ef7d005", func := "chancery/chancerylaw03.RingShifts", spec := "ringShifts", unfollowed := true, recurses := true, apart := false, narrowed := true }
def RingShiftsUptoSaid : Prop := ringShiftsUptoRow.holds Try.pinned (OpenSpec.upto ringShiftsSpec)

/-- 'chancerylaw03.RingLaws', WHERE WHAT IT READS IS OF BULK AT MOST 1048576: true; the input reads as it did. -/
def ringLawsUptoRow : OpenClaim := { program := "ytoednaebdfohbaa", sum := "11da4ca7ca569b601e67cf1e621ea69ff8ef011df134614947373d1e7ef7d005", func := "chancery/chancerylaw03.RingLaws", spec := "ringLaws", unfollowed := true, recurses := true, apart := false, narrowed := true }
def RingLawsUptoSaid : Prop := ringLawsUptoRow.holds Try.pinned (OpenSpec.upto ringLawsSpec)

/-- 'chancerylaw03.RingOwn', WHERE WHAT IT READS IS OF BULK AT MOST 1048576: true; the input reads as it did. -/
def ringOwnUptoRow : OpenClaim := { program := "ytoednaebdfohbaa", sum := "11da4ca7ca569b601e67cf1e621ea69ff8ef011df134614947373d1e7ef7d005", func := "chancery/chancerylaw03.RingOwn", spec := "ringOwn", unfollowed := true, recurses := true, apart := false, narrowed := true }
def RingOwnUptoSaid : Prop := ringOwnUptoRow.holds Try.pinned (OpenSpec.upto ringOwnSpec)

/-- 'chancerylaw03.RingSums', WHERE WHAT IT READS IS OF BULK AT MOST 1048576: true; the input reads as it did. -/
def ringSumsUptoRow : OpenClaim := { program := "ytoednaebdfohbaa", sum := "11da4ca7ca569b601e67cf1e621ea69ff8ef011df134614947373d1e7ef7d005", func := "chancery/chancerylaw03.RingSums", spec := "ringSums", unfollowed := true, recurses := true, apart := false, narrowed := true }
def RingSumsUptoSaid : Prop := ringSumsUptoRow.holds Try.pinned (OpenSpec.upto ringSumsSpec)

/-- 'chancerylaw03.RingUnits', WHERE WHAT IT READS IS OF BULK AT MOST 1048576: true; the input reads as it did. -/
def ringUnitsUptoRow : OpenClaim := { program := "ytoednaebdfohbaa", sum := "11da4ca7ca569b601e67cf1e621ea69ff8ef011df134614947373d1e7ef7d005", func := "chancery/chancerylaw03.RingUnits", spec := "ringUnits", unfollowed := true, recurses := true, apart := false, narrowed := true }
def RingUnitsUptoSaid : Prop := ringUnitsUptoRow.holds Try.pinned (OpenSpec.upto ringUnitsSpec)

/-- 'chancerylaw03.RingNorms', WHERE WHAT IT READS IS OF BULK AT MOST 1048576: true; the input reads as it did. -/
def ringNormsUptoRow : OpenClaim := { program := "ytoednaebdfohbaa", sum := "11da4ca7ca569b601e67cf1e621ea69ff8ef011df134614947373d1e7ef7d005", func := "chancery/chancerylaw03.RingNorms", spec := "ringNorms", unfollowed := true, recurses := true, apart := false, narrowed := true }
def RingNormsUptoSaid : Prop := ringNormsUptoRow.holds Try.pinned (OpenSpec.upto ringNormsSpec)

end Rows
end Go.Proofs.Ytoednaebdfohbaa
