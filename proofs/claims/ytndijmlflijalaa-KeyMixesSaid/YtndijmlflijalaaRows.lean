/-
  No cell of these rows narrows 'for every input' (looked for: loops, veiled, ifaces, maps, wideKeys, modest, calm, conditions, laid).
  DERIVED. THE GIVEN ROWS OF THIS SEAT. 9 by the template 'for every input the law returns true; each argument reads behind the call as it read before'; 0 by the template 'total and deterministic' (their statements: YtndijmlflijalaaTotals.lean).
  GIVEN WITH THE SEED: the statements are not yours to turn. If you find one false, say at which input.
  Laid BY PROGRAM, IN A SANDBOX (cutbox-rows.mjs): the forced cells as the released guide's own fill.sh prints them over the translation 962fda2f271352ac… (all of the seat's roots in one cut). By AI agents, Wed Nov 11 2026. No macro, syntax, notation, axiom, sorry.
-/
import Derived.Test.YtndijmlflijalaaChecked
import GoSem.Claim
import GoSem.ClaimJoined
import GoSem.ClaimMapViews
import Derived.JoinedTies
import Derived.KernelRfl
namespace Go.Proofs.Ytndijmlflijalaa
/- THE CELL 'sum', in the pinned program and in every row, IS THE sha256 OF THE DUMP (.gsa) THAT YtndijmlflijalaaProg.lean LOADS. Nothing in Lean hashes anything: it is a label: what it is worth is what the hold of that sum in a sandbox is worth. -/
noncomputable def Try.pinned : Pinned := { name := "ytndijmlflijalaa", sum := "962fda2f271352ac9a269d0550b7668954359d336fdc8806c386d31fc59ac7f4", checked := Try.checked }
namespace Rows
def none {H : Type} : Left H := { results := [], args := [] }

/-- 'alfillaw01.SquareSteps': WHATEVER THE INPUT: true; the input reads as it did. -/
def squareStepsSpec : ChangeSpec := { name := "squareSteps", fn := fun _ => fun
  | [d1, d2, d3] => { results := [.lit (.bool true)], args := [d1, d2, d3] }
  | _ => none }
def squareStepsRow : OpenClaim := { program := "ytndijmlflijalaa", sum := "962fda2f271352ac9a269d0550b7668954359d336fdc8806c386d31fc59ac7f4", func := "alfil/alfillaw01.SquareSteps", spec := "squareSteps", apart := false }
def SquareStepsSaid : Prop := squareStepsRow.holds Try.pinned (OpenSpec.ofChange squareStepsSpec)

/-- ITS FALSE NEIGHBOUR: 'it returns false'. Refute it at one input. -/
def squareStepsWrong : ChangeSpec := { name := "squareSteps", fn := fun _ => fun
  | [d1, d2, d3] => { results := [.lit (.bool false)], args := [d1, d2, d3] }
  | _ => none }
def SquareStepsWrongFalsely : Prop := squareStepsRow.holds Try.pinned (OpenSpec.ofChange squareStepsWrong)

/-- 'alfillaw01.SquareReads': WHATEVER THE INPUT: true; the input reads as it did. -/
def squareReadsSpec : ChangeSpec := { name := "squareReads", fn := fun _ => fun
  | [d] => { results := [.lit (.bool true)], args := [d] }
  | _ => none }
def squareReadsRow : OpenClaim := { program := "ytndijmlflijalaa", sum := "962fda2f271352ac9a269d0550b7668954359d336fdc8806c386d31fc59ac7f4", func := "alfil/alfillaw01.SquareReads", spec := "squareReads", apart := false }
def SquareReadsSaid : Prop := squareReadsRow.holds Try.pinned (OpenSpec.ofChange squareReadsSpec)

/-- ITS FALSE NEIGHBOUR: 'it returns false'. Refute it at one input. -/
def squareReadsWrong : ChangeSpec := { name := "squareReads", fn := fun _ => fun
  | [d] => { results := [.lit (.bool false)], args := [d] }
  | _ => none }
def SquareReadsWrongFalsely : Prop := squareReadsRow.holds Try.pinned (OpenSpec.ofChange squareReadsWrong)

/-- 'alfillaw01.SquareFar': WHATEVER THE INPUT: true; the input reads as it did. -/
def squareFarSpec : ChangeSpec := { name := "squareFar", fn := fun _ => fun
  | [d1, d2, d3] => { results := [.lit (.bool true)], args := [d1, d2, d3] }
  | _ => none }
def squareFarRow : OpenClaim := { program := "ytndijmlflijalaa", sum := "962fda2f271352ac9a269d0550b7668954359d336fdc8806c386d31fc59ac7f4", func := "alfil/alfillaw01.SquareFar", spec := "squareFar", apart := false }
def SquareFarSaid : Prop := squareFarRow.holds Try.pinned (OpenSpec.ofChange squareFarSpec)

/-- ITS FALSE NEIGHBOUR: 'it returns false'. Refute it at one input. -/
def squareFarWrong : ChangeSpec := { name := "squareFar", fn := fun _ => fun
  | [d1, d2, d3] => { results := [.lit (.bool false)], args := [d1, d2, d3] }
  | _ => none }
def SquareFarWrongFalsely : Prop := squareFarRow.holds Try.pinned (OpenSpec.ofChange squareFarWrong)

/-- 'alfillaw01.SquareFlips': WHATEVER THE INPUT: true; the input reads as it did. -/
def squareFlipsSpec : ChangeSpec := { name := "squareFlips", fn := fun _ => fun
  | [d] => { results := [.lit (.bool true)], args := [d] }
  | _ => none }
def squareFlipsRow : OpenClaim := { program := "ytndijmlflijalaa", sum := "962fda2f271352ac9a269d0550b7668954359d336fdc8806c386d31fc59ac7f4", func := "alfil/alfillaw01.SquareFlips", spec := "squareFlips", apart := false }
def SquareFlipsSaid : Prop := squareFlipsRow.holds Try.pinned (OpenSpec.ofChange squareFlipsSpec)

/-- ITS FALSE NEIGHBOUR: 'it returns false'. Refute it at one input. -/
def squareFlipsWrong : ChangeSpec := { name := "squareFlips", fn := fun _ => fun
  | [d] => { results := [.lit (.bool false)], args := [d] }
  | _ => none }
def SquareFlipsWrongFalsely : Prop := squareFlipsRow.holds Try.pinned (OpenSpec.ofChange squareFlipsWrong)

/-- 'alfillaw01.SquareNames': WHATEVER THE INPUT: true; the input reads as it did. -/
def squareNamesSpec : ChangeSpec := { name := "squareNames", fn := fun _ => fun
  | [d] => { results := [.lit (.bool true)], args := [d] }
  | _ => none }
def squareNamesRow : OpenClaim := { program := "ytndijmlflijalaa", sum := "962fda2f271352ac9a269d0550b7668954359d336fdc8806c386d31fc59ac7f4", func := "alfil/alfillaw01.SquareNames", spec := "squareNames", apart := false }
def SquareNamesSaid : Prop := squareNamesRow.holds Try.pinned (OpenSpec.ofChange squareNamesSpec)

/-- ITS FALSE NEIGHBOUR: 'it returns false'. Refute it at one input. -/
def squareNamesWrong : ChangeSpec := { name := "squareNames", fn := fun _ => fun
  | [d] => { results := [.lit (.bool false)], args := [d] }
  | _ => none }
def SquareNamesWrongFalsely : Prop := squareNamesRow.holds Try.pinned (OpenSpec.ofChange squareNamesWrong)

/-- 'alfillaw02.MenAre': WHATEVER THE INPUT: true; the input reads as it did. -/
def menAreSpec : ChangeSpec := { name := "menAre", fn := fun _ => fun
  | [d] => { results := [.lit (.bool true)], args := [d] }
  | _ => none }
def menAreRow : OpenClaim := { program := "ytndijmlflijalaa", sum := "962fda2f271352ac9a269d0550b7668954359d336fdc8806c386d31fc59ac7f4", func := "alfil/alfillaw02.MenAre", spec := "menAre", apart := false }
def MenAreSaid : Prop := menAreRow.holds Try.pinned (OpenSpec.ofChange menAreSpec)

/-- ITS FALSE NEIGHBOUR: 'it returns false'. Refute it at one input. -/
def menAreWrong : ChangeSpec := { name := "menAre", fn := fun _ => fun
  | [d] => { results := [.lit (.bool false)], args := [d] }
  | _ => none }
def MenAreWrongFalsely : Prop := menAreRow.holds Try.pinned (OpenSpec.ofChange menAreWrong)

/-- 'alfillaw02.MenMakes': WHATEVER THE INPUT: true; the input reads as it did. -/
def menMakesSpec : ChangeSpec := { name := "menMakes", fn := fun _ => fun
  | [d1, d2] => { results := [.lit (.bool true)], args := [d1, d2] }
  | _ => none }
def menMakesRow : OpenClaim := { program := "ytndijmlflijalaa", sum := "962fda2f271352ac9a269d0550b7668954359d336fdc8806c386d31fc59ac7f4", func := "alfil/alfillaw02.MenMakes", spec := "menMakes", apart := false }
def MenMakesSaid : Prop := menMakesRow.holds Try.pinned (OpenSpec.ofChange menMakesSpec)

/-- ITS FALSE NEIGHBOUR: 'it returns false'. Refute it at one input. -/
def menMakesWrong : ChangeSpec := { name := "menMakes", fn := fun _ => fun
  | [d1, d2] => { results := [.lit (.bool false)], args := [d1, d2] }
  | _ => none }
def MenMakesWrongFalsely : Prop := menMakesRow.holds Try.pinned (OpenSpec.ofChange menMakesWrong)

/-- 'alfillaw02.MenReads': WHATEVER THE INPUT: true; the input reads as it did. -/
def menReadsSpec : ChangeSpec := { name := "menReads", fn := fun _ => fun
  | [d1, d2] => { results := [.lit (.bool true)], args := [d1, d2] }
  | _ => none }
def menReadsRow : OpenClaim := { program := "ytndijmlflijalaa", sum := "962fda2f271352ac9a269d0550b7668954359d336fdc8806c386d31fc59ac7f4", func := "alfil/alfillaw02.MenReads", spec := "menReads", apart := false }
def MenReadsSaid : Prop := menReadsRow.holds Try.pinned (OpenSpec.ofChange menReadsSpec)

/-- ITS FALSE NEIGHBOUR: 'it returns false'. Refute it at one input. -/
def menReadsWrong : ChangeSpec := { name := "menReads", fn := fun _ => fun
  | [d1, d2] => { results := [.lit (.bool false)], args := [d1, d2] }
  | _ => none }
def MenReadsWrongFalsely : Prop := menReadsRow.holds Try.pinned (OpenSpec.ofChange menReadsWrong)

/-- 'alfillaw17.KeyMixes': WHATEVER THE INPUT: true; the input reads as it did. -/
def keyMixesSpec : ChangeSpec := { name := "keyMixes", fn := fun _ => fun
  | [d] => { results := [.lit (.bool true)], args := [d] }
  | _ => none }
def keyMixesRow : OpenClaim := { program := "ytndijmlflijalaa", sum := "962fda2f271352ac9a269d0550b7668954359d336fdc8806c386d31fc59ac7f4", func := "alfil/alfillaw17.KeyMixes", spec := "keyMixes", apart := false }
def KeyMixesSaid : Prop := keyMixesRow.holds Try.pinned (OpenSpec.ofChange keyMixesSpec)

/-- ITS FALSE NEIGHBOUR: 'it returns false'. Refute it at one input. -/
def keyMixesWrong : ChangeSpec := { name := "keyMixes", fn := fun _ => fun
  | [d] => { results := [.lit (.bool false)], args := [d] }
  | _ => none }
def KeyMixesWrongFalsely : Prop := keyMixesRow.holds Try.pinned (OpenSpec.ofChange keyMixesWrong)

/- THE SECOND FORM. 'bulk': how many values and letters a reading holds, each counted each time it is reached (what is shared counts as often as it is met; a slice's spare places count too). A statement '..UptoSaid' is the law's where the arguments, and the package variables that the reading takes, are together of bulk at most 1048576: NARROWER than '..Said'. Prove '..Said' where nothing that the law and all that it calls make is longer than what came in: it says more and counts as full. Else prove '..UptoSaid'. A law counts once. -/
mutual
def uptoBulk {H : Type} : DataW H → Nat
  | .lit (.string bytes) => bytes.length + 1
  | .lit _ => 1
  | .nil => 1
  | .ptr d => uptoBulk d + 1
  | .slice elems spare => uptoBulkAll elems + uptoBulkAll spare + 1
  | .agg parts => uptoBulkAll parts + 1
  | .iface _ d => uptoBulk d + 1
  | .map entries => uptoBulkEntries entries + 1
  | .held _ => 1
def uptoBulkAll {H : Type} : List (DataW H) → Nat
  | [] => 0
  | d :: r => uptoBulk d + uptoBulkAll r
def uptoBulkEntries {H : Type} : List (Lit × DataW H) → Nat
  | [] => 0
  | x :: r => uptoBulkEntry x + uptoBulkEntries r
def uptoBulkEntry {H : Type} : Lit × DataW H → Nat
  | (.string bytes, d) => bytes.length + uptoBulk d + 1
  | (_, d) => uptoBulk d + 1
 end
def uptoSmall : (H : Type) → List (DataW H) → Bool := fun _ ds => decide (uptoBulkAll ds ≤ 1048576)
def OpenSpec.upto (s : _root_.Go.ChangeSpec) : _root_.Go.OpenSpec := { _root_.Go.OpenSpec.ofChange s with cond := some uptoSmall }

/-- 'alfillaw01.SquareSteps', WHERE WHAT IT READS IS OF BULK AT MOST 1048576: true; the input reads as it did. -/
def squareStepsUptoRow : OpenClaim := { program := "ytndijmlflijalaa", sum := "962fda2f271352ac9a269d0550b7668954359d336fdc8806c386d31fc59ac7f4", func := "alfil/alfillaw01.SquareSteps", spec := "squareSteps", apart := false, narrowed := true }
def SquareStepsUptoSaid : Prop := squareStepsUptoRow.holds Try.pinned (OpenSpec.upto squareStepsSpec)

/-- 'alfillaw01.SquareReads', WHERE WHAT IT READS IS OF BULK AT MOST 1048576: true; the input reads as it did. -/
def squareReadsUptoRow : OpenClaim := { program := "ytndijmlflijalaa", sum := "962fda2f271352ac9a269d0550b7668954359d336fdc8806c386d31fc59ac7f4", func := "alfil/alfillaw01.SquareReads", spec := "squareReads", apart := false, narrowed := true }
def SquareReadsUptoSaid : Prop := squareReadsUptoRow.holds Try.pinned (OpenSpec.upto squareReadsSpec)

/-- 'alfillaw01.SquareFar', WHERE WHAT IT READS IS OF BULK AT MOST 1048576: true; the input reads as it did. -/
def squareFarUptoRow : OpenClaim := { program := "ytndijmlflijalaa", sum := "962fda2f271352ac9a269d0550b7668954359d336fdc8806c386d31fc59ac7f4", func := "alfil/alfillaw01.SquareFar", spec := "squareFar", apart := false, narrowed := true }
def SquareFarUptoSaid : Prop := squareFarUptoRow.holds Try.pinned (OpenSpec.upto squareFarSpec)

/-- 'alfillaw01.SquareFlips', WHERE WHAT IT READS IS OF BULK AT MOST 1048576: true; the input reads as it did. -/
def squareFlipsUptoRow : OpenClaim := { program := "ytndijmlflijalaa", sum := "962fda2f271352ac9a269d0550b7668954359d336fdc8806c386d31fc59ac7f4", func := "alfil/alfillaw01.SquareFlips", spec := "squareFlips", apart := false, narrowed := true }
def SquareFlipsUptoSaid : Prop := squareFlipsUptoRow.holds Try.pinned (OpenSpec.upto squareFlipsSpec)

/-- 'alfillaw01.SquareNames', WHERE WHAT IT READS IS OF BULK AT MOST 1048576: true; the input reads as it did. -/
def squareNamesUptoRow : OpenClaim := { program := "ytndijmlflijalaa", sum := "962fda2f271352ac9a269d0550b7668954359d336fdc8806c386d31fc59ac7f4", func := "alfil/alfillaw01.SquareNames", spec := "squareNames", apart := false, narrowed := true }
def SquareNamesUptoSaid : Prop := squareNamesUptoRow.holds Try.pinned (OpenSpec.upto squareNamesSpec)

/-- 'alfillaw02.MenAre', WHERE WHAT IT READS IS OF BULK AT MOST 1048576: true; the input reads as it did. -/
def menAreUptoRow : OpenClaim := { program := "ytndijmlflijalaa", sum := "962fda2f271352ac9a269d0550b7668954359d336fdc8806c386d31fc59ac7f4", func := "alfil/alfillaw02.MenAre", spec := "menAre", apart := false, narrowed := true }
def MenAreUptoSaid : Prop := menAreUptoRow.holds Try.pinned (OpenSpec.upto menAreSpec)

/-- 'alfillaw02.MenMakes', WHERE WHAT IT READS IS OF BULK AT MOST 1048576: true; the input reads as it did. -/
def menMakesUptoRow : OpenClaim := { program := "ytndijmlflijalaa", sum := "962fda2f271352ac9a269d0550b7668954359d336fdc8806c386d31fc59ac7f4", func := "alfil/alfillaw02.MenMakes", spec := "menMakes", apart := false, narrowed := true }
def MenMakesUptoSaid : Prop := menMakesUptoRow.holds Try.pinned (OpenSpec.upto menMakesSpec)

/-- 'alfillaw02.MenReads', WHERE WHAT IT READS IS OF BULK AT MOST 1048576: true; the input reads as it did. -/
def menReadsUptoRow : OpenClaim := { program := "ytndijmlflijalaa", sum := "962fda2f271352ac9a269d0550b7668954359d336fdc8806c386d31fc59ac7f4", func := "alfil/alfillaw02.MenReads", spec := "menReads", apart := false, narrowed := true }
def MenReadsUptoSaid : Prop := menReadsUptoRow.holds Try.pinned (OpenSpec.upto menReadsSpec)

/-- 'alfillaw17.KeyMixes', WHERE WHAT IT READS IS OF BULK AT MOST 1048576: true; the input reads as it did. -/
def keyMixesUptoRow : OpenClaim := { program := "ytndijmlflijalaa", sum := "962fda2f271352ac9a269d0550b7668954359d336fdc8806c386d31fc59ac7f4", func := "alfil/alfillaw17.KeyMixes", spec := "keyMixes", apart := false, narrowed := true }
def KeyMixesUptoSaid : Prop := keyMixesUptoRow.holds Try.pinned (OpenSpec.upto keyMixesSpec)

end Rows
end Go.Proofs.Ytndijmlflijalaa
