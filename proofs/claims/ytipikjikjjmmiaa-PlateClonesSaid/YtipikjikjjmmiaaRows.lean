/-
  No cell of these rows narrows 'for every input' (looked for: loops, veiled, ifaces, maps, wideKeys, modest, calm, conditions, laid).
  DERIVED. THE GIVEN ROWS OF THIS SEAT. 5 by the template 'for every input the law returns true; each argument reads behind the call as it read before'; 0 by the template 'total and deterministic' (their statements: YtipikjikjjmmiaaTotals.lean).
  GIVEN WITH THE SEED: the statements are not yours to turn. If you find one false, say at which input.
  Laid BY PROGRAM, IN A SANDBOX (cutbox-rows.mjs): the forced cells as the released guide's own fill.sh prints them over the translation 591a033ba8412d37… (all of the seat's roots in one cut). By AI agents, Wed Nov 11 2026. No macro, syntax, notation, axiom, sorry.
-/
import Derived.Test.YtipikjikjjmmiaaChecked
import GoSem.Claim
import GoSem.ClaimJoined
import GoSem.ClaimMapViews
import Derived.JoinedTies
import Derived.KernelRfl
namespace Go.Proofs.Ytipikjikjjmmiaa
/- THE CELL 'sum', in the pinned program and in every row, IS THE sha256 OF THE DUMP (.gsa) THAT YtipikjikjjmmiaaProg.lean LOADS. Nothing in Lean hashes anything: it is a label: what it is worth is what the hold of that sum in a sandbox is worth. -/
noncomputable def Try.pinned : Pinned := { name := "ytipikjikjjmmiaa", sum := "591a033ba8412d3702795ea73ab8ee756d72231376e332459eb1a3354de5c4c6", checked := Try.checked }
namespace Rows
def none {H : Type} : Left H := { results := [], args := [] }

/-- 'chancerylaw13.PlateLast': WHATEVER THE INPUT: true; the input reads as it did. -/
def plateLastSpec : ChangeSpec := { name := "plateLast", fn := fun _ => fun
  | [d1, d2] => { results := [.lit (.bool true)], args := [d1, d2] }
  | _ => none }
def plateLastRow : OpenClaim := { program := "ytipikjikjjmmiaa", sum := "591a033ba8412d3702795ea73ab8ee756d72231376e332459eb1a3354de5c4c6", func := "chancery/chancerylaw13.PlateLast", spec := "plateLast", apart := false }
def PlateLastSaid : Prop := plateLastRow.holds Try.pinned (OpenSpec.ofChange plateLastSpec)

/-- ITS FALSE NEIGHBOUR: 'it returns false'. Refute it at one input. -/
def plateLastWrong : ChangeSpec := { name := "plateLast", fn := fun _ => fun
  | [d1, d2] => { results := [.lit (.bool false)], args := [d1, d2] }
  | _ => none }
def PlateLastWrongFalsely : Prop := plateLastRow.holds Try.pinned (OpenSpec.ofChange plateLastWrong)

/-- 'chancerylaw13.PlateClones': WHATEVER THE INPUT: true; the input reads as it did. -/
def plateClonesSpec : ChangeSpec := { name := "plateClones", fn := fun _ => fun
  | [d1, d2, d3, d4] => { results := [.lit (.bool true)], args := [d1, d2, d3, d4] }
  | _ => none }
def plateClonesRow : OpenClaim := { program := "ytipikjikjjmmiaa", sum := "591a033ba8412d3702795ea73ab8ee756d72231376e332459eb1a3354de5c4c6", func := "chancery/chancerylaw13.PlateClones", spec := "plateClones", apart := false }
def PlateClonesSaid : Prop := plateClonesRow.holds Try.pinned (OpenSpec.ofChange plateClonesSpec)

/-- ITS FALSE NEIGHBOUR: 'it returns false'. Refute it at one input. -/
def plateClonesWrong : ChangeSpec := { name := "plateClones", fn := fun _ => fun
  | [d1, d2, d3, d4] => { results := [.lit (.bool false)], args := [d1, d2, d3, d4] }
  | _ => none }
def PlateClonesWrongFalsely : Prop := plateClonesRow.holds Try.pinned (OpenSpec.ofChange plateClonesWrong)

/-- 'chancerylaw13.PlateSafe': WHATEVER THE INPUT: true; the input reads as it did. -/
def plateSafeSpec : ChangeSpec := { name := "plateSafe", fn := fun _ => fun
  | [d1, d2, d3, d4] => { results := [.lit (.bool true)], args := [d1, d2, d3, d4] }
  | _ => none }
def plateSafeRow : OpenClaim := { program := "ytipikjikjjmmiaa", sum := "591a033ba8412d3702795ea73ab8ee756d72231376e332459eb1a3354de5c4c6", func := "chancery/chancerylaw13.PlateSafe", spec := "plateSafe", apart := false }
def PlateSafeSaid : Prop := plateSafeRow.holds Try.pinned (OpenSpec.ofChange plateSafeSpec)

/-- ITS FALSE NEIGHBOUR: 'it returns false'. Refute it at one input. -/
def plateSafeWrong : ChangeSpec := { name := "plateSafe", fn := fun _ => fun
  | [d1, d2, d3, d4] => { results := [.lit (.bool false)], args := [d1, d2, d3, d4] }
  | _ => none }
def PlateSafeWrongFalsely : Prop := plateSafeRow.holds Try.pinned (OpenSpec.ofChange plateSafeWrong)

/-- 'chancerylaw13.PlateArms': WHATEVER THE INPUT: true; the input reads as it did. -/
def plateArmsSpec : ChangeSpec := { name := "plateArms", fn := fun _ => fun
  | [d1, d2] => { results := [.lit (.bool true)], args := [d1, d2] }
  | _ => none }
def plateArmsRow : OpenClaim := { program := "ytipikjikjjmmiaa", sum := "591a033ba8412d3702795ea73ab8ee756d72231376e332459eb1a3354de5c4c6", func := "chancery/chancerylaw13.PlateArms", spec := "plateArms", apart := false }
def PlateArmsSaid : Prop := plateArmsRow.holds Try.pinned (OpenSpec.ofChange plateArmsSpec)

/-- ITS FALSE NEIGHBOUR: 'it returns false'. Refute it at one input. -/
def plateArmsWrong : ChangeSpec := { name := "plateArms", fn := fun _ => fun
  | [d1, d2] => { results := [.lit (.bool false)], args := [d1, d2] }
  | _ => none }
def PlateArmsWrongFalsely : Prop := plateArmsRow.holds Try.pinned (OpenSpec.ofChange plateArmsWrong)

/-- 'chancerylaw13.PlatePlays': WHATEVER THE INPUT: true; the input reads as it did. -/
def platePlaysSpec : ChangeSpec := { name := "platePlays", fn := fun _ => fun
  | [d1, d2] => { results := [.lit (.bool true)], args := [d1, d2] }
  | _ => none }
def platePlaysRow : OpenClaim := { program := "ytipikjikjjmmiaa", sum := "591a033ba8412d3702795ea73ab8ee756d72231376e332459eb1a3354de5c4c6", func := "chancery/chancerylaw13.PlatePlays", spec := "platePlays", apart := false }
def PlatePlaysSaid : Prop := platePlaysRow.holds Try.pinned (OpenSpec.ofChange platePlaysSpec)

/-- ITS FALSE NEIGHBOUR: 'it returns false'. Refute it at one input. -/
def platePlaysWrong : ChangeSpec := { name := "platePlays", fn := fun _ => fun
  | [d1, d2] => { results := [.lit (.bool false)], args := [d1, d2] }
  | _ => none }
def PlatePlaysWrongFalsely : Prop := platePlaysRow.holds Try.pinned (OpenSpec.ofChange platePlaysWrong)

/- THE SECOND FORM. 'bulk': how many values and letters a reading holds, each counted each time it is reached (what is shared counts as often as it is met; a slice's spare places count too). A statement '..UptoSaid' is the law's where the arguments, and the package variables that the reading takes, are together of bulk at most 1048576: NARROWER than '..Said'. Prove '..Said' where nothing that the law and all that it calls make is longer than what came in: it says more and counts as full. Else prove '..UptoSaid'. A law counts once. -/
mutual
def uptoBulk {H : Type} : DataW H → Nat
  | .lit (.string bytes) => bytes.length + 1
  | .lit _ => 1
  | .nil => 1
  | .ptr d => uptoBulk d + 1
  | .slice elems spare => uptoBulkAll elems + uptoBulkAll spare + 1
  | .agg parts => uptoBulkAll parts + 1
  | .iface _ d => uptoBulk d + 1
  | .map entries => uptoBulkEntries entries + 1
  | .held _ => 1
def uptoBulkAll {H : Type} : List (DataW H) → Nat
  | [] => 0
  | d :: r => uptoBulk d + uptoBulkAll r
def uptoBulkEntries {H : Type} : List (Lit × DataW H) → Nat
  | [] => 0
  | x :: r => uptoBulkEntry x + uptoBulkEntries r
def uptoBulkEntry {H : Type} : Lit × DataW H → Nat
  | (.string bytes, d) => bytes.length + uptoBulk d + 1
  | (_, d) => uptoBulk d + 1
 end
def uptoSmall : (H : Type) → List (DataW H) → Bool := fun _ ds => decide (uptoBulkAll ds ≤ 1048576)
def OpenSpec.upto (s : _root_.Go.ChangeSpec) : _root_.Go.OpenSpec := { _root_.Go.OpenSpec.ofChange s with cond := some uptoSmall }

/-- 'chancerylaw13.PlateLast', WHERE WHAT IT READS IS OF BULK AT MOST 1048576: true; the input reads as it did. -/
def plateLastUptoRow : OpenClaim := { program := "ytipikjikjjmmiaa", sum := "591a033ba8412d3702795ea73ab8ee756d72231376e332459eb1a3354de5c4c6", func := "chancery/chancerylaw13.PlateLast", spec := "plateLast", apart := false, narrowed := true }
def PlateLastUptoSaid : Prop := plateLastUptoRow.holds Try.pinned (OpenSpec.upto plateLastSpec)

/-- 'chancerylaw13.PlateClones', WHERE WHAT IT READS IS OF BULK AT MOST 1048576: true; the input reads as it did. -/
def plateClonesUptoRow : OpenClaim := { program := "ytipikjikjjmmiaa", sum := "591a033ba8412d3702795ea73ab8ee756d72231376e332459eb1a3354de5c4c6", func := "chancery/chancerylaw13.PlateClones", spec := "plateClones", apart := false, narrowed := true }
def PlateClonesUptoSaid : Prop := plateClonesUptoRow.holds Try.pinned (OpenSpec.upto plateClonesSpec)

/-- 'chancerylaw13.PlateSafe', WHERE WHAT IT READS IS OF BULK AT MOST 1048576: true; the input reads as it did. -/
def plateSafeUptoRow : OpenClaim := { program := "ytipikjikjjmmiaa", sum := "591a033ba8412d3702795ea73ab8ee756d72231376e332459eb1a3354de5c4c6", func := "chancery/chancerylaw13.PlateSafe", spec := "plateSafe", apart := false, narrowed := true }
def PlateSafeUptoSaid : Prop := plateSafeUptoRow.holds Try.pinned (OpenSpec.upto plateSafeSpec)

/-- 'chancerylaw13.PlateArms', WHERE WHAT IT READS IS OF BULK AT MOST 1048576: true; the input reads as it did. -/
def plateArmsUptoRow : OpenClaim := { program := "ytipikjikjjmmiaa", sum := "591a033ba8412d3702795ea73ab8ee756d72231376e332459eb1a3354de5c4c6", func := "chancery/chancerylaw13.PlateArms", spec := "plateArms", apart := false, narrowed := true }
def PlateArmsUptoSaid : Prop := plateArmsUptoRow.holds Try.pinned (OpenSpec.upto plateArmsSpec)

/-- 'chancerylaw13.PlatePlays', WHERE WHAT IT READS IS OF BULK AT MOST 1048576: true; the input reads as it did. -/
def platePlaysUptoRow : OpenClaim := { program := "ytipikjikjjmmiaa", sum := "591a033ba8412d3702795ea73ab8ee756d72231376e332459eb1a3354de5c4c6", func := "chancery/chancerylaw13.PlatePlays", spec := "platePlays", apart := false, narrowed := true }
def PlatePlaysUptoSaid : Prop := platePlaysUptoRow.holds Try.pinned (OpenSpec.upto platePlaysSpec)

end Rows
end Go.Proofs.Ytipikjikjjmmiaa
