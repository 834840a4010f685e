/-
  NARROWER THAN 'FOR EVERY INPUT', by the rows' own cells (each row's printed sentence says how): ShakeSums: laid · ShakePlays: laid · ShakeMore: laid · ShakeRates: laid · ShakePermutes: laid.
  DERIVED. THE GIVEN ROWS OF THIS SEAT. 5 by the template 'for every input the law returns true; each argument reads behind the call as it read before'; 0 by the template 'total and deterministic' (their statements: YteogihkpplaioaaDoorTotals.lean).
  GIVEN WITH THE SEED: the statements are not yours to turn. If you find one false, say at which input.
  Laid BY PROGRAM, IN A SANDBOX (cutbox-rows.mjs): the forced cells as the released guide's own fill.sh prints them over the translation 328c8064cea4d681… (all of the seat's roots in one cut). By AI agents, Wed Nov 11 2026. No macro, syntax, notation, axiom, sorry.
-/
import Derived.Test.YteogihkpplaioaaDoorChecked
import GoSem.Claim
import GoSem.ClaimJoined
import GoSem.ClaimMapViews
import Derived.JoinedTies
import Derived.KernelRfl
namespace Go.Proofs.YteogihkpplaioaaDoor
/- THE CELL 'sum', in the pinned program and in every row, IS THE sha256 OF THE DUMP (.gsa) THAT YteogihkpplaioaaDoorProg.lean LOADS. Nothing in Lean hashes anything: it is a label: what it is worth is what the hold of that sum in a sandbox is worth. -/
noncomputable def Tryd.pinned : Pinned := { name := "yteogihkpplaioaadoor", sum := "328c8064cea4d681272ae9b804b59e26fb280f2b6f32ebbb145fc8a95de69888", checked := Tryd.checked }
namespace Rows
def none {H : Type} : Left H := { results := [], args := [] }

/- WHAT THE LISTED PACKAGE-LEVEL VARIABLES READ AS WHEN THE CALL BEGINS. Each datum BY PROGRAM (the guide's laid-datum.mjs) off the statement by which the dump's own 'gosem.cut.vars' lays the variable. In a bare row this is a premise. The card (YteogihkpplaioaaDoorCards.lean) ties it to the program's text. -/
def laid_chancery_shake_numbers {H : Type} : DataW H := .agg [.lit (.int .u64 1), .lit (.int .u64 32898), .lit (.int .u64 9223372036854808714), .lit (.int .u64 9223372039002292224), .lit (.int .u64 32907), .lit (.int .u64 2147483649), .lit (.int .u64 9223372039002292353), .lit (.int .u64 9223372036854808585), .lit (.int .u64 138), .lit (.int .u64 136), .lit (.int .u64 2147516425), .lit (.int .u64 2147483658), .lit (.int .u64 2147516555), .lit (.int .u64 9223372036854775947), .lit (.int .u64 9223372036854808713), .lit (.int .u64 9223372036854808579), .lit (.int .u64 9223372036854808578), .lit (.int .u64 9223372036854775936), .lit (.int .u64 32778), .lit (.int .u64 9223372039002259466), .lit (.int .u64 9223372039002292353), .lit (.int .u64 9223372036854808704), .lit (.int .u64 2147483649), .lit (.int .u64 9223372039002292232)]

/-- 'chancerylaw02.ShakeSums': WHATEVER THE INPUT: true; the input reads as it did. -/
def shakeSumsSpec : ChangeSpec := { name := "shakeSums", fn := fun _ => fun
  | [d1, d2] => { results := [.lit (.bool true)], args := [d1, d2] }
  | _ => none }
def shakeSumsRow : OpenClaim := { program := "yteogihkpplaioaadoor", sum := "328c8064cea4d681272ae9b804b59e26fb280f2b6f32ebbb145fc8a95de69888", func := "chancery/chancerylaw02.ShakeSums", spec := "shakeSums", named := ["chancery/shake.numbers"], apart := false, laid := [("chancery/shake.numbers", laid_chancery_shake_numbers)] }
def ShakeSumsSaid : Prop := shakeSumsRow.holds Tryd.pinned (OpenSpec.ofChange shakeSumsSpec)

/-- ITS FALSE NEIGHBOUR: 'it returns false'. Refute it at one input. -/
def shakeSumsWrong : ChangeSpec := { name := "shakeSums", fn := fun _ => fun
  | [d1, d2] => { results := [.lit (.bool false)], args := [d1, d2] }
  | _ => none }
def ShakeSumsWrongFalsely : Prop := shakeSumsRow.holds Tryd.pinned (OpenSpec.ofChange shakeSumsWrong)

/-- 'chancerylaw02.ShakePlays': WHATEVER THE INPUT: true; the input reads as it did. -/
def shakePlaysSpec : ChangeSpec := { name := "shakePlays", fn := fun _ => fun
  | [d1, d2] => { results := [.lit (.bool true)], args := [d1, d2] }
  | _ => none }
def shakePlaysRow : OpenClaim := { program := "yteogihkpplaioaadoor", sum := "328c8064cea4d681272ae9b804b59e26fb280f2b6f32ebbb145fc8a95de69888", func := "chancery/chancerylaw02.ShakePlays", spec := "shakePlays", named := ["chancery/shake.numbers"], apart := false, laid := [("chancery/shake.numbers", laid_chancery_shake_numbers)] }
def ShakePlaysSaid : Prop := shakePlaysRow.holds Tryd.pinned (OpenSpec.ofChange shakePlaysSpec)

/-- ITS FALSE NEIGHBOUR: 'it returns false'. Refute it at one input. -/
def shakePlaysWrong : ChangeSpec := { name := "shakePlays", fn := fun _ => fun
  | [d1, d2] => { results := [.lit (.bool false)], args := [d1, d2] }
  | _ => none }
def ShakePlaysWrongFalsely : Prop := shakePlaysRow.holds Tryd.pinned (OpenSpec.ofChange shakePlaysWrong)

/-- 'chancerylaw02.ShakeMore': WHATEVER THE INPUT: true; the input reads as it did. -/
def shakeMoreSpec : ChangeSpec := { name := "shakeMore", fn := fun _ => fun
  | [d1, d2, d3] => { results := [.lit (.bool true)], args := [d1, d2, d3] }
  | _ => none }
def shakeMoreRow : OpenClaim := { program := "yteogihkpplaioaadoor", sum := "328c8064cea4d681272ae9b804b59e26fb280f2b6f32ebbb145fc8a95de69888", func := "chancery/chancerylaw02.ShakeMore", spec := "shakeMore", named := ["chancery/shake.numbers"], apart := false, laid := [("chancery/shake.numbers", laid_chancery_shake_numbers)] }
def ShakeMoreSaid : Prop := shakeMoreRow.holds Tryd.pinned (OpenSpec.ofChange shakeMoreSpec)

/-- ITS FALSE NEIGHBOUR: 'it returns false'. Refute it at one input. -/
def shakeMoreWrong : ChangeSpec := { name := "shakeMore", fn := fun _ => fun
  | [d1, d2, d3] => { results := [.lit (.bool false)], args := [d1, d2, d3] }
  | _ => none }
def ShakeMoreWrongFalsely : Prop := shakeMoreRow.holds Tryd.pinned (OpenSpec.ofChange shakeMoreWrong)

/-- 'chancerylaw02.ShakeRates': WHATEVER THE INPUT: true; the input reads as it did. -/
def shakeRatesSpec : ChangeSpec := { name := "shakeRates", fn := fun _ => fun
  | [d1, d2, d3, d4] => { results := [.lit (.bool true)], args := [d1, d2, d3, d4] }
  | _ => none }
def shakeRatesRow : OpenClaim := { program := "yteogihkpplaioaadoor", sum := "328c8064cea4d681272ae9b804b59e26fb280f2b6f32ebbb145fc8a95de69888", func := "chancery/chancerylaw02.ShakeRates", spec := "shakeRates", named := ["chancery/shake.numbers"], apart := false, laid := [("chancery/shake.numbers", laid_chancery_shake_numbers)] }
def ShakeRatesSaid : Prop := shakeRatesRow.holds Tryd.pinned (OpenSpec.ofChange shakeRatesSpec)

/-- ITS FALSE NEIGHBOUR: 'it returns false'. Refute it at one input. -/
def shakeRatesWrong : ChangeSpec := { name := "shakeRates", fn := fun _ => fun
  | [d1, d2, d3, d4] => { results := [.lit (.bool false)], args := [d1, d2, d3, d4] }
  | _ => none }
def ShakeRatesWrongFalsely : Prop := shakeRatesRow.holds Tryd.pinned (OpenSpec.ofChange shakeRatesWrong)

/-- 'chancerylaw02.ShakePermutes': WHATEVER THE INPUT: true; the input reads as it did. -/
def shakePermutesSpec : ChangeSpec := { name := "shakePermutes", fn := fun _ => fun
  | [d1, d2, d3] => { results := [.lit (.bool true)], args := [d1, d2, d3] }
  | _ => none }
def shakePermutesRow : OpenClaim := { program := "yteogihkpplaioaadoor", sum := "328c8064cea4d681272ae9b804b59e26fb280f2b6f32ebbb145fc8a95de69888", func := "chancery/chancerylaw02.ShakePermutes", spec := "shakePermutes", named := ["chancery/shake.numbers"], apart := false, laid := [("chancery/shake.numbers", laid_chancery_shake_numbers)] }
def ShakePermutesSaid : Prop := shakePermutesRow.holds Tryd.pinned (OpenSpec.ofChange shakePermutesSpec)

/-- ITS FALSE NEIGHBOUR: 'it returns false'. Refute it at one input. -/
def shakePermutesWrong : ChangeSpec := { name := "shakePermutes", fn := fun _ => fun
  | [d1, d2, d3] => { results := [.lit (.bool false)], args := [d1, d2, d3] }
  | _ => none }
def ShakePermutesWrongFalsely : Prop := shakePermutesRow.holds Tryd.pinned (OpenSpec.ofChange shakePermutesWrong)

/- THE SECOND FORM. 'bulk': how many values and letters a reading holds, each counted each time it is reached (what is shared counts as often as it is met; a slice's spare places count too). A statement '..UptoSaid' is the law's where the arguments, and the package variables that the reading takes, are together of bulk at most 1048576: NARROWER than '..Said'. Prove '..Said' where nothing that the law and all that it calls make is longer than what came in: it says more and counts as full. Else prove '..UptoSaid'. A law counts once. -/
mutual
def uptoBulk {H : Type} : DataW H → Nat
  | .lit (.string bytes) => bytes.length + 1
  | .lit _ => 1
  | .nil => 1
  | .ptr d => uptoBulk d + 1
  | .slice elems spare => uptoBulkAll elems + uptoBulkAll spare + 1
  | .agg parts => uptoBulkAll parts + 1
  | .iface _ d => uptoBulk d + 1
  | .map entries => uptoBulkEntries entries + 1
  | .held _ => 1
def uptoBulkAll {H : Type} : List (DataW H) → Nat
  | [] => 0
  | d :: r => uptoBulk d + uptoBulkAll r
def uptoBulkEntries {H : Type} : List (Lit × DataW H) → Nat
  | [] => 0
  | x :: r => uptoBulkEntry x + uptoBulkEntries r
def uptoBulkEntry {H : Type} : Lit × DataW H → Nat
  | (.string bytes, d) => bytes.length + uptoBulk d + 1
  | (_, d) => uptoBulk d + 1
 end
def uptoSmall : (H : Type) → List (DataW H) → Bool := fun _ ds => decide (uptoBulkAll ds ≤ 1048576)
def OpenSpec.upto (s : _root_.Go.ChangeSpec) : _root_.Go.OpenSpec := { _root_.Go.OpenSpec.ofChange s with cond := some uptoSmall }

/-- 'chancerylaw02.ShakeSums', WHERE WHAT IT READS IS OF BULK AT MOST 1048576: true; the input reads as it did. -/
def shakeSumsUptoRow : OpenClaim := { program := "yteogihkpplaioaadoor", sum := "328c8064cea4d681272ae9b804b59e26fb280f2b6f32ebbb145fc8a95de69888", func := "chancery/chancerylaw02.ShakeSums", spec := "shakeSums", named := ["chancery/shake.numbers"], apart := false, laid := [("chancery/shake.numbers", laid_chancery_shake_numbers)], narrowed := true }
def ShakeSumsUptoSaid : Prop := shakeSumsUptoRow.holds Tryd.pinned (OpenSpec.upto shakeSumsSpec)

/-- 'chancerylaw02.ShakePlays', WHERE WHAT IT READS IS OF BULK AT MOST 1048576: true; the input reads as it did. -/
def shakePlaysUptoRow : OpenClaim := { program := "yteogihkpplaioaadoor", sum := "328c8064cea4d681272ae9b804b59e26fb280f2b6f32ebbb145fc8a95de69888", func := "chancery/chancerylaw02.ShakePlays", spec := "shakePlays", named := ["chancery/shake.numbers"], apart := false, laid := [("chancery/shake.numbers", laid_chancery_shake_numbers)], narrowed := true }
def ShakePlaysUptoSaid : Prop := shakePlaysUptoRow.holds Tryd.pinned (OpenSpec.upto shakePlaysSpec)

/-- 'chancerylaw02.ShakeMore', WHERE WHAT IT READS IS OF BULK AT MOST 1048576: true; the input reads as it did. -/
def shakeMoreUptoRow : OpenClaim := { program := "yteogihkpplaioaadoor", sum := "328c8064cea4d681272ae9b804b59e26fb280f2b6f32ebbb145fc8a95de69888", func := "chancery/chancerylaw02.ShakeMore", spec := "shakeMore", named := ["chancery/shake.numbers"], apart := false, laid := [("chancery/shake.numbers", laid_chancery_shake_numbers)], narrowed := true }
def ShakeMoreUptoSaid : Prop := shakeMoreUptoRow.holds Tryd.pinned (OpenSpec.upto shakeMoreSpec)

/-- 'chancerylaw02.ShakeRates', WHERE WHAT IT READS IS OF BULK AT MOST 1048576: true; the input reads as it did. -/
def shakeRatesUptoRow : OpenClaim := { program := "yteogihkpplaioaadoor", sum := "328c8064cea4d681272ae9b804b59e26fb280f2b6f32ebbb145fc8a95de69888", func := "chancery/chancerylaw02.ShakeRates", spec := "shakeRates", named := ["chancery/shake.numbers"], apart := false, laid := [("chancery/shake.numbers", laid_chancery_shake_numbers)], narrowed := true }
def ShakeRatesUptoSaid : Prop := shakeRatesUptoRow.holds Tryd.pinned (OpenSpec.upto shakeRatesSpec)

/-- 'chancerylaw02.ShakePermutes', WHERE WHAT IT READS IS OF BULK AT MOST 1048576: true; the input reads as it did. -/
def shakePermutesUptoRow : OpenClaim := { program := "yteogihkpplaioaadoor", sum := "328c8064cea4d681272ae9b804b59e26fb280f2b6f32ebbb145fc8a95de69888", func := "chancery/chancerylaw02.ShakePermutes", spec := "shakePermutes", named := ["chancery/shake.numbers"], apart := false, laid := [("chancery/shake.numbers", laid_chancery_shake_numbers)], narrowed := true }
def ShakePermutesUptoSaid : Prop := shakePermutesUptoRow.holds Tryd.pinned (OpenSpec.upto shakePermutesSpec)

end Rows
end Go.Proofs.YteogihkpplaioaaDoor
