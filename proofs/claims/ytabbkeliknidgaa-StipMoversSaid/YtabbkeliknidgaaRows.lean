/-
  No cell of these rows narrows 'for every input' (looked for: loops, veiled, ifaces, maps, wideKeys, modest, calm, conditions, laid).
  DERIVED. THE GIVEN ROWS OF THIS SEAT. 6 by the template 'for every input the law returns true; each argument reads behind the call as it read before'; 0 by the template 'total and deterministic' (their statements: YtabbkeliknidgaaTotals.lean).
  GIVEN WITH THE SEED: the statements are not yours to turn. If you find one false, say at which input.
  Laid BY PROGRAM, IN A SANDBOX (cutbox-rows.mjs): the forced cells as the released guide's own fill.sh prints them over the translation c8efb6a5253918c0… (all of the seat's roots in one cut). By AI agents, Wed Nov 11 2026. No macro, syntax, notation, axiom, sorry.
-/
import Derived.Test.YtabbkeliknidgaaChecked
import GoSem.Claim
import GoSem.ClaimJoined
import GoSem.ClaimMapViews
import Derived.JoinedTies
import Derived.KernelRfl
namespace Go.Proofs.Ytabbkeliknidgaa
/- THE CELL 'sum', in the pinned program and in every row, IS THE sha256 OF THE DUMP (.gsa) THAT YtabbkeliknidgaaProg.lean LOADS. Nothing in Lean hashes anything: it is a label: what it is worth is what the hold of that sum in a sandbox is worth. -/
noncomputable def Try.pinned : Pinned := { name := "ytabbkeliknidgaa", sum := "c8efb6a5253918c026ba3bc8f14e1f3eff08256facbec5ec854227be08db773d", checked := Try.checked }
namespace Rows
def none {H : Type} : Left H := { results := [], args := [] }

/-- 'alfillaw14.LexWords': WHATEVER THE INPUT: true; the input reads as it did. -/
def lexWordsSpec : ChangeSpec := { name := "lexWords", fn := fun _ => fun
  | [d1, d2, d3] => { results := [.lit (.bool true)], args := [d1, d2, d3] }
  | _ => none }
def lexWordsRow : OpenClaim := { program := "ytabbkeliknidgaa", sum := "c8efb6a5253918c026ba3bc8f14e1f3eff08256facbec5ec854227be08db773d", func := "alfil/alfillaw14.LexWords", spec := "lexWords", apart := false }
def LexWordsSaid : Prop := lexWordsRow.holds Try.pinned (OpenSpec.ofChange lexWordsSpec)

/-- ITS FALSE NEIGHBOUR: 'it returns false'. Refute it at one input. -/
def lexWordsWrong : ChangeSpec := { name := "lexWords", fn := fun _ => fun
  | [d1, d2, d3] => { results := [.lit (.bool false)], args := [d1, d2, d3] }
  | _ => none }
def LexWordsWrongFalsely : Prop := lexWordsRow.holds Try.pinned (OpenSpec.ofChange lexWordsWrong)

/-- 'alfillaw14.LexNumbers': WHATEVER THE INPUT: true; the input reads as it did. -/
def lexNumbersSpec : ChangeSpec := { name := "lexNumbers", fn := fun _ => fun
  | [d1, d2, d3] => { results := [.lit (.bool true)], args := [d1, d2, d3] }
  | _ => none }
def lexNumbersRow : OpenClaim := { program := "ytabbkeliknidgaa", sum := "c8efb6a5253918c026ba3bc8f14e1f3eff08256facbec5ec854227be08db773d", func := "alfil/alfillaw14.LexNumbers", spec := "lexNumbers", apart := false }
def LexNumbersSaid : Prop := lexNumbersRow.holds Try.pinned (OpenSpec.ofChange lexNumbersSpec)

/-- ITS FALSE NEIGHBOUR: 'it returns false'. Refute it at one input. -/
def lexNumbersWrong : ChangeSpec := { name := "lexNumbers", fn := fun _ => fun
  | [d1, d2, d3] => { results := [.lit (.bool false)], args := [d1, d2, d3] }
  | _ => none }
def LexNumbersWrongFalsely : Prop := lexNumbersRow.holds Try.pinned (OpenSpec.ofChange lexNumbersWrong)

/-- 'alfillaw14.LexGoesOn': WHATEVER THE INPUT: true; the input reads as it did. -/
def lexGoesOnSpec : ChangeSpec := { name := "lexGoesOn", fn := fun _ => fun
  | [d1, d2, d3] => { results := [.lit (.bool true)], args := [d1, d2, d3] }
  | _ => none }
def lexGoesOnRow : OpenClaim := { program := "ytabbkeliknidgaa", sum := "c8efb6a5253918c026ba3bc8f14e1f3eff08256facbec5ec854227be08db773d", func := "alfil/alfillaw14.LexGoesOn", spec := "lexGoesOn", apart := false }
def LexGoesOnSaid : Prop := lexGoesOnRow.holds Try.pinned (OpenSpec.ofChange lexGoesOnSpec)

/-- ITS FALSE NEIGHBOUR: 'it returns false'. Refute it at one input. -/
def lexGoesOnWrong : ChangeSpec := { name := "lexGoesOn", fn := fun _ => fun
  | [d1, d2, d3] => { results := [.lit (.bool false)], args := [d1, d2, d3] }
  | _ => none }
def LexGoesOnWrongFalsely : Prop := lexGoesOnRow.holds Try.pinned (OpenSpec.ofChange lexGoesOnWrong)

/-- 'alfillaw14.LexSquares': WHATEVER THE INPUT: true; the input reads as it did. -/
def lexSquaresSpec : ChangeSpec := { name := "lexSquares", fn := fun _ => fun
  | [d1, d2] => { results := [.lit (.bool true)], args := [d1, d2] }
  | _ => none }
def lexSquaresRow : OpenClaim := { program := "ytabbkeliknidgaa", sum := "c8efb6a5253918c026ba3bc8f14e1f3eff08256facbec5ec854227be08db773d", func := "alfil/alfillaw14.LexSquares", spec := "lexSquares", inPlace := ["internal/bytealg.IndexByteString"], apart := false }
def LexSquaresSaid : Prop := lexSquaresRow.holds Try.pinned (OpenSpec.ofChange lexSquaresSpec)

/-- ITS FALSE NEIGHBOUR: 'it returns false'. Refute it at one input. -/
def lexSquaresWrong : ChangeSpec := { name := "lexSquares", fn := fun _ => fun
  | [d1, d2] => { results := [.lit (.bool false)], args := [d1, d2] }
  | _ => none }
def LexSquaresWrongFalsely : Prop := lexSquaresRow.holds Try.pinned (OpenSpec.ofChange lexSquaresWrong)

/-- 'alfillaw15.StipMovers': WHATEVER THE INPUT: true; the input reads as it did. -/
def stipMoversSpec : ChangeSpec := { name := "stipMovers", fn := fun _ => fun
  | [d1, d2, d3] => { results := [.lit (.bool true)], args := [d1, d2, d3] }
  | _ => none }
def stipMoversRow : OpenClaim := { program := "ytabbkeliknidgaa", sum := "c8efb6a5253918c026ba3bc8f14e1f3eff08256facbec5ec854227be08db773d", func := "alfil/alfillaw15.StipMovers", spec := "stipMovers", apart := false }
def StipMoversSaid : Prop := stipMoversRow.holds Try.pinned (OpenSpec.ofChange stipMoversSpec)

/-- ITS FALSE NEIGHBOUR: 'it returns false'. Refute it at one input. -/
def stipMoversWrong : ChangeSpec := { name := "stipMovers", fn := fun _ => fun
  | [d1, d2, d3] => { results := [.lit (.bool false)], args := [d1, d2, d3] }
  | _ => none }
def StipMoversWrongFalsely : Prop := stipMoversRow.holds Try.pinned (OpenSpec.ofChange stipMoversWrong)

/-- 'alfillaw16.TaskWrong': WHATEVER THE INPUT: true; the input reads as it did. -/
def taskWrongSpec : ChangeSpec := { name := "taskWrong", fn := fun _ => fun
  | [d1, d2] => { results := [.lit (.bool true)], args := [d1, d2] }
  | _ => none }
def taskWrongRow : OpenClaim := { program := "ytabbkeliknidgaa", sum := "c8efb6a5253918c026ba3bc8f14e1f3eff08256facbec5ec854227be08db773d", func := "alfil/alfillaw16.TaskWrong", spec := "taskWrong", inPlace := ["internal/bytealg.IndexByteString"], unfollowed := true, recurses := true, apart := false }
def TaskWrongSaid : Prop := taskWrongRow.holds Try.pinned (OpenSpec.ofChange taskWrongSpec)

/-- ITS FALSE NEIGHBOUR: 'it returns false'. Refute it at one input. -/
def taskWrongWrong : ChangeSpec := { name := "taskWrong", fn := fun _ => fun
  | [d1, d2] => { results := [.lit (.bool false)], args := [d1, d2] }
  | _ => none }
def TaskWrongWrongFalsely : Prop := taskWrongRow.holds Try.pinned (OpenSpec.ofChange taskWrongWrong)

/- THE SECOND FORM. 'bulk': how many values and letters a reading holds, each counted each time it is reached (what is shared counts as often as it is met; a slice's spare places count too). A statement '..UptoSaid' is the law's where the arguments, and the package variables that the reading takes, are together of bulk at most 1048576: NARROWER than '..Said'. Prove '..Said' where nothing that the law and all that it calls make is longer than what came in: it says more and counts as full. Else prove '..UptoSaid'. A law counts once. -/
mutual
def uptoBulk {H : Type} : DataW H → Nat
  | .lit (.string bytes) => bytes.length + 1
  | .lit _ => 1
  | .nil => 1
  | .ptr d => uptoBulk d + 1
  | .slice elems spare => uptoBulkAll elems + uptoBulkAll spare + 1
  | .agg parts => uptoBulkAll parts + 1
  | .iface _ d => uptoBulk d + 1
  | .map entries => uptoBulkEntries entries + 1
  | .held _ => 1
def uptoBulkAll {H : Type} : List (DataW H) → Nat
  | [] => 0
  | d :: r => uptoBulk d + uptoBulkAll r
def uptoBulkEntries {H : Type} : List (Lit × DataW H) → Nat
  | [] => 0
  | x :: r => uptoBulkEntry x + uptoBulkEntries r
def uptoBulkEntry {H : Type} : Lit × DataW H → Nat
  | (.string bytes, d) => bytes.length + uptoBulk d + 1
  | (_, d) => uptoBulk d + 1
 end
def uptoSmall : (H : Type) → List (DataW H) → Bool := fun _ ds => decide (uptoBulkAll ds ≤ 1048576)
def OpenSpec.upto (s : _root_.Go.ChangeSpec) : _root_.Go.OpenSpec := { _root_.Go.OpenSpec.ofChange s with cond := some uptoSmall }

/-- 'alfillaw14.LexWords', WHERE WHAT IT READS IS OF BULK AT MOST 1048576: true; the input reads as it did. -/
def lexWordsUptoRow : OpenClaim := { program := "ytabbkeliknidgaa", sum := "c8efb6a5253918c026ba3bc8f14e1f3eff08256facbec5ec854227be08db773d", func := "alfil/alfillaw14.LexWords", spec := "lexWords", apart := false, narrowed := true }
def LexWordsUptoSaid : Prop := lexWordsUptoRow.holds Try.pinned (OpenSpec.upto lexWordsSpec)

/-- 'alfillaw14.LexNumbers', WHERE WHAT IT READS IS OF BULK AT MOST 1048576: true; the input reads as it did. -/
def lexNumbersUptoRow : OpenClaim := { program := "ytabbkeliknidgaa", sum := "c8efb6a5253918c026ba3bc8f14e1f3eff08256facbec5ec854227be08db773d", func := "alfil/alfillaw14.LexNumbers", spec := "lexNumbers", apart := false, narrowed := true }
def LexNumbersUptoSaid : Prop := lexNumbersUptoRow.holds Try.pinned (OpenSpec.upto lexNumbersSpec)

/-- 'alfillaw14.LexGoesOn', WHERE WHAT IT READS IS OF BULK AT MOST 1048576: true; the input reads as it did. -/
def lexGoesOnUptoRow : OpenClaim := { program := "ytabbkeliknidgaa", sum := "c8efb6a5253918c026ba3bc8f14e1f3eff08256facbec5ec854227be08db773d", func := "alfil/alfillaw14.LexGoesOn", spec := "lexGoesOn", apart := false, narrowed := true }
def LexGoesOnUptoSaid : Prop := lexGoesOnUptoRow.holds Try.pinned (OpenSpec.upto lexGoesOnSpec)

/-- 'alfillaw14.LexSquares', WHERE WHAT IT READS IS OF BULK AT MOST 1048576: true; the input reads as it did. -/
def lexSquaresUptoRow : OpenClaim := { program := "ytabbkeliknidgaa", sum := "c8efb6a5253918c026ba3bc8f14e1f3eff08256facbec5ec854227be08db773d", func := "alfil/alfillaw14.LexSquares", spec := "lexSquares", inPlace := ["internal/bytealg.IndexByteString"], apart := false, narrowed := true }
def LexSquaresUptoSaid : Prop := lexSquaresUptoRow.holds Try.pinned (OpenSpec.upto lexSquaresSpec)

/-- 'alfillaw15.StipMovers', WHERE WHAT IT READS IS OF BULK AT MOST 1048576: true; the input reads as it did. -/
def stipMoversUptoRow : OpenClaim := { program := "ytabbkeliknidgaa", sum := "c8efb6a5253918c026ba3bc8f14e1f3eff08256facbec5ec854227be08db773d", func := "alfil/alfillaw15.StipMovers", spec := "stipMovers", apart := false, narrowed := true }
def StipMoversUptoSaid : Prop := stipMoversUptoRow.holds Try.pinned (OpenSpec.upto stipMoversSpec)

/-- 'alfillaw16.TaskWrong', WHERE WHAT IT READS IS OF BULK AT MOST 1048576: true; the input reads as it did. -/
def taskWrongUptoRow : OpenClaim := { program := "ytabbkeliknidgaa", sum := "c8efb6a5253918c026ba3bc8f14e1f3eff08256facbec5ec854227be08db773d", func := "alfil/alfillaw16.TaskWrong", spec := "taskWrong", inPlace := ["internal/bytealg.IndexByteString"], unfollowed := true, recurses := true, apart := false, narrowed := true }
def TaskWrongUptoSaid : Prop := taskWrongUptoRow.holds Try.pinned (OpenSpec.upto taskWrongSpec)

end Rows
end Go.Proofs.Ytabbkeliknidgaa
