/-
  No cell of these rows narrows 'for every input' (looked for: loops, veiled, ifaces, maps, wideKeys, modest, calm, conditions, laid).
  DERIVED. THE GIVEN ROWS OF THIS SEAT. 10 by the template 'for every input the law returns true; each argument reads behind the call as it read before'; 0 by the template 'total and deterministic' (their statements: YtpjocgebnodnoaaTotals.lean).
  GIVEN WITH THE SEED: the statements are not yours to turn. If you find one false, say at which input.
  Laid BY PROGRAM, IN A SANDBOX (cutbox-rows.mjs): the forced cells as the released guide's own fill.sh prints them over the translation d7da413f1d9676f6… (all of the seat's roots in one cut). By AI agents, Wed Nov 11 2026. No macro, syntax, notation, axiom, sorry.
-/
import Derived.Test.YtpjocgebnodnoaaChecked
import GoSem.Claim
import GoSem.ClaimJoined
import GoSem.ClaimMapViews
import Derived.JoinedTies
import Derived.KernelRfl
namespace Go.Proofs.Ytpjocgebnodnoaa
/- THE CELL 'sum', in the pinned program and in every row, IS THE sha256 OF THE DUMP (.gsa) THAT YtpjocgebnodnoaaProg.lean LOADS. Nothing in Lean hashes anything: it is a label: what it is worth is what the hold of that sum in a sandbox is worth. -/
noncomputable def Try.pinned : Pinned := { name := "ytpjocgebnodnoaa", sum := "d7da413f1d9676f6fc4311564b28db8eefb772a7025a3f0d0df7bbd2cf9cd6d3", checked := Try.checked }
namespace Rows
def none {H : Type} : Left H := { results := [], args := [] }

/-- 'alfillaw06.RaysBack': WHATEVER THE INPUT: true; the input reads as it did. -/
def raysBackSpec : ChangeSpec := { name := "raysBack", fn := fun _ => fun
  | [d1, d2] => { results := [.lit (.bool true)], args := [d1, d2] }
  | _ => none }
def raysBackRow : OpenClaim := { program := "ytpjocgebnodnoaa", sum := "d7da413f1d9676f6fc4311564b28db8eefb772a7025a3f0d0df7bbd2cf9cd6d3", func := "alfil/alfillaw06.RaysBack", spec := "raysBack", plainKeys := false, apart := false }
def RaysBackSaid : Prop := raysBackRow.holds Try.pinned (OpenSpec.ofChange raysBackSpec)

/-- ITS FALSE NEIGHBOUR: 'it returns false'. Refute it at one input. -/
def raysBackWrong : ChangeSpec := { name := "raysBack", fn := fun _ => fun
  | [d1, d2] => { results := [.lit (.bool false)], args := [d1, d2] }
  | _ => none }
def RaysBackWrongFalsely : Prop := raysBackRow.holds Try.pinned (OpenSpec.ofChange raysBackWrong)

/-- 'alfillaw06.RaysNil': WHATEVER THE INPUT: true; the input reads as it did. -/
def raysNilSpec : ChangeSpec := { name := "raysNil", fn := fun _ => fun
  | [d1, d2] => { results := [.lit (.bool true)], args := [d1, d2] }
  | _ => none }
def raysNilRow : OpenClaim := { program := "ytpjocgebnodnoaa", sum := "d7da413f1d9676f6fc4311564b28db8eefb772a7025a3f0d0df7bbd2cf9cd6d3", func := "alfil/alfillaw06.RaysNil", spec := "raysNil", plainKeys := false, apart := false }
def RaysNilSaid : Prop := raysNilRow.holds Try.pinned (OpenSpec.ofChange raysNilSpec)

/-- ITS FALSE NEIGHBOUR: 'it returns false'. Refute it at one input. -/
def raysNilWrong : ChangeSpec := { name := "raysNil", fn := fun _ => fun
  | [d1, d2] => { results := [.lit (.bool false)], args := [d1, d2] }
  | _ => none }
def RaysNilWrongFalsely : Prop := raysNilRow.holds Try.pinned (OpenSpec.ofChange raysNilWrong)

/-- 'alfillaw06.RaysRay': WHATEVER THE INPUT: true; the input reads as it did. -/
def raysRaySpec : ChangeSpec := { name := "raysRay", fn := fun _ => fun
  | [d1, d2, d3] => { results := [.lit (.bool true)], args := [d1, d2, d3] }
  | _ => none }
def raysRayRow : OpenClaim := { program := "ytpjocgebnodnoaa", sum := "d7da413f1d9676f6fc4311564b28db8eefb772a7025a3f0d0df7bbd2cf9cd6d3", func := "alfil/alfillaw06.RaysRay", spec := "raysRay", plainKeys := false, apart := false }
def RaysRaySaid : Prop := raysRayRow.holds Try.pinned (OpenSpec.ofChange raysRaySpec)

/-- ITS FALSE NEIGHBOUR: 'it returns false'. Refute it at one input. -/
def raysRayWrong : ChangeSpec := { name := "raysRay", fn := fun _ => fun
  | [d1, d2, d3] => { results := [.lit (.bool false)], args := [d1, d2, d3] }
  | _ => none }
def RaysRayWrongFalsely : Prop := raysRayRow.holds Try.pinned (OpenSpec.ofChange raysRayWrong)

/-- 'alfillaw18.TableClears': WHATEVER THE INPUT: true; the input reads as it did. -/
def tableClearsSpec : ChangeSpec := { name := "tableClears", fn := fun _ => fun
  | [d1, d2, d3] => { results := [.lit (.bool true)], args := [d1, d2, d3] }
  | _ => none }
def tableClearsRow : OpenClaim := { program := "ytpjocgebnodnoaa", sum := "d7da413f1d9676f6fc4311564b28db8eefb772a7025a3f0d0df7bbd2cf9cd6d3", func := "alfil/alfillaw18.TableClears", spec := "tableClears", plainKeys := false, apart := false }
def TableClearsSaid : Prop := tableClearsRow.holds Try.pinned (OpenSpec.ofChange tableClearsSpec)

/-- ITS FALSE NEIGHBOUR: 'it returns false'. Refute it at one input. -/
def tableClearsWrong : ChangeSpec := { name := "tableClears", fn := fun _ => fun
  | [d1, d2, d3] => { results := [.lit (.bool false)], args := [d1, d2, d3] }
  | _ => none }
def TableClearsWrongFalsely : Prop := tableClearsRow.holds Try.pinned (OpenSpec.ofChange tableClearsWrong)

/-- 'alfillaw18.TableTrue': WHATEVER THE INPUT: true; the input reads as it did. -/
def tableTrueSpec : ChangeSpec := { name := "tableTrue", fn := fun _ => fun
  | [d1, d2] => { results := [.lit (.bool true)], args := [d1, d2] }
  | _ => none }
def tableTrueRow : OpenClaim := { program := "ytpjocgebnodnoaa", sum := "d7da413f1d9676f6fc4311564b28db8eefb772a7025a3f0d0df7bbd2cf9cd6d3", func := "alfil/alfillaw18.TableTrue", spec := "tableTrue", plainKeys := false, apart := false }
def TableTrueSaid : Prop := tableTrueRow.holds Try.pinned (OpenSpec.ofChange tableTrueSpec)

/-- ITS FALSE NEIGHBOUR: 'it returns false'. Refute it at one input. -/
def tableTrueWrong : ChangeSpec := { name := "tableTrue", fn := fun _ => fun
  | [d1, d2] => { results := [.lit (.bool false)], args := [d1, d2] }
  | _ => none }
def TableTrueWrongFalsely : Prop := tableTrueRow.holds Try.pinned (OpenSpec.ofChange tableTrueWrong)

/-- 'alfillaw18.TableActs': WHATEVER THE INPUT: true; the input reads as it did. -/
def tableActsSpec : ChangeSpec := { name := "tableActs", fn := fun _ => fun
  | [d1, d2] => { results := [.lit (.bool true)], args := [d1, d2] }
  | _ => none }
def tableActsRow : OpenClaim := { program := "ytpjocgebnodnoaa", sum := "d7da413f1d9676f6fc4311564b28db8eefb772a7025a3f0d0df7bbd2cf9cd6d3", func := "alfil/alfillaw18.TableActs", spec := "tableActs", plainKeys := false, apart := false }
def TableActsSaid : Prop := tableActsRow.holds Try.pinned (OpenSpec.ofChange tableActsSpec)

/-- ITS FALSE NEIGHBOUR: 'it returns false'. Refute it at one input. -/
def tableActsWrong : ChangeSpec := { name := "tableActs", fn := fun _ => fun
  | [d1, d2] => { results := [.lit (.bool false)], args := [d1, d2] }
  | _ => none }
def TableActsWrongFalsely : Prop := tableActsRow.holds Try.pinned (OpenSpec.ofChange tableActsWrong)

/-- 'alfillaw18.TableNil': WHATEVER THE INPUT: true; the input reads as it did. -/
def tableNilSpec : ChangeSpec := { name := "tableNil", fn := fun _ => fun
  | [d1, d2] => { results := [.lit (.bool true)], args := [d1, d2] }
  | _ => none }
def tableNilRow : OpenClaim := { program := "ytpjocgebnodnoaa", sum := "d7da413f1d9676f6fc4311564b28db8eefb772a7025a3f0d0df7bbd2cf9cd6d3", func := "alfil/alfillaw18.TableNil", spec := "tableNil", plainKeys := false, apart := false }
def TableNilSaid : Prop := tableNilRow.holds Try.pinned (OpenSpec.ofChange tableNilSpec)

/-- ITS FALSE NEIGHBOUR: 'it returns false'. Refute it at one input. -/
def tableNilWrong : ChangeSpec := { name := "tableNil", fn := fun _ => fun
  | [d1, d2] => { results := [.lit (.bool false)], args := [d1, d2] }
  | _ => none }
def TableNilWrongFalsely : Prop := tableNilRow.holds Try.pinned (OpenSpec.ofChange tableNilWrong)

/-- 'alfillaw24.CountAll': WHATEVER THE INPUT: true; the input reads as it did. -/
def countAllSpec : ChangeSpec := { name := "countAll", fn := fun _ => fun
  | [d] => { results := [.lit (.bool true)], args := [d] }
  | _ => none }
def countAllRow : OpenClaim := { program := "ytpjocgebnodnoaa", sum := "d7da413f1d9676f6fc4311564b28db8eefb772a7025a3f0d0df7bbd2cf9cd6d3", func := "alfil/alfillaw24.CountAll", spec := "countAll", recurses := true, plainKeys := false, apart := false }
def CountAllSaid : Prop := countAllRow.holds Try.pinned (OpenSpec.ofChange countAllSpec)

/-- ITS FALSE NEIGHBOUR: 'it returns false'. Refute it at one input. -/
def countAllWrong : ChangeSpec := { name := "countAll", fn := fun _ => fun
  | [d] => { results := [.lit (.bool false)], args := [d] }
  | _ => none }
def CountAllWrongFalsely : Prop := countAllRow.holds Try.pinned (OpenSpec.ofChange countAllWrong)

/-- 'alfillaw24.CountTurned': WHATEVER THE INPUT: true; the input reads as it did. -/
def countTurnedSpec : ChangeSpec := { name := "countTurned", fn := fun _ => fun
  | [d] => { results := [.lit (.bool true)], args := [d] }
  | _ => none }
def countTurnedRow : OpenClaim := { program := "ytpjocgebnodnoaa", sum := "d7da413f1d9676f6fc4311564b28db8eefb772a7025a3f0d0df7bbd2cf9cd6d3", func := "alfil/alfillaw24.CountTurned", spec := "countTurned", plainKeys := false, apart := false }
def CountTurnedSaid : Prop := countTurnedRow.holds Try.pinned (OpenSpec.ofChange countTurnedSpec)

/-- ITS FALSE NEIGHBOUR: 'it returns false'. Refute it at one input. -/
def countTurnedWrong : ChangeSpec := { name := "countTurned", fn := fun _ => fun
  | [d] => { results := [.lit (.bool false)], args := [d] }
  | _ => none }
def CountTurnedWrongFalsely : Prop := countTurnedRow.holds Try.pinned (OpenSpec.ofChange countTurnedWrong)

/-- 'alfillaw24.CountSound': WHATEVER THE INPUT: true; the input reads as it did. -/
def countSoundSpec : ChangeSpec := { name := "countSound", fn := fun _ => fun
  | [d] => { results := [.lit (.bool true)], args := [d] }
  | _ => none }
def countSoundRow : OpenClaim := { program := "ytpjocgebnodnoaa", sum := "d7da413f1d9676f6fc4311564b28db8eefb772a7025a3f0d0df7bbd2cf9cd6d3", func := "alfil/alfillaw24.CountSound", spec := "countSound", plainKeys := false, apart := false }
def CountSoundSaid : Prop := countSoundRow.holds Try.pinned (OpenSpec.ofChange countSoundSpec)

/-- ITS FALSE NEIGHBOUR: 'it returns false'. Refute it at one input. -/
def countSoundWrong : ChangeSpec := { name := "countSound", fn := fun _ => fun
  | [d] => { results := [.lit (.bool false)], args := [d] }
  | _ => none }
def CountSoundWrongFalsely : Prop := countSoundRow.holds Try.pinned (OpenSpec.ofChange countSoundWrong)

/- THE SECOND FORM. 'bulk': how many values and letters a reading holds, each counted each time it is reached (what is shared counts as often as it is met; a slice's spare places count too). A statement '..UptoSaid' is the law's where the arguments, and the package variables that the reading takes, are together of bulk at most 1048576: NARROWER than '..Said'. Prove '..Said' where nothing that the law and all that it calls make is longer than what came in: it says more and counts as full. Else prove '..UptoSaid'. A law counts once. -/
mutual
def uptoBulk {H : Type} : DataW H → Nat
  | .lit (.string bytes) => bytes.length + 1
  | .lit _ => 1
  | .nil => 1
  | .ptr d => uptoBulk d + 1
  | .slice elems spare => uptoBulkAll elems + uptoBulkAll spare + 1
  | .agg parts => uptoBulkAll parts + 1
  | .iface _ d => uptoBulk d + 1
  | .map entries => uptoBulkEntries entries + 1
  | .held _ => 1
def uptoBulkAll {H : Type} : List (DataW H) → Nat
  | [] => 0
  | d :: r => uptoBulk d + uptoBulkAll r
def uptoBulkEntries {H : Type} : List (Lit × DataW H) → Nat
  | [] => 0
  | x :: r => uptoBulkEntry x + uptoBulkEntries r
def uptoBulkEntry {H : Type} : Lit × DataW H → Nat
  | (.string bytes, d) => bytes.length + uptoBulk d + 1
  | (_, d) => uptoBulk d + 1
 end
def uptoSmall : (H : Type) → List (DataW H) → Bool := fun _ ds => decide (uptoBulkAll ds ≤ 1048576)
def OpenSpec.upto (s : _root_.Go.ChangeSpec) : _root_.Go.OpenSpec := { _root_.Go.OpenSpec.ofChange s with cond := some uptoSmall }

/-- 'alfillaw06.RaysBack', WHERE WHAT IT READS IS OF BULK AT MOST 1048576: true; the input reads as it did. -/
def raysBackUptoRow : OpenClaim := { program := "ytpjocgebnodnoaa", sum := "d7da413f1d9676f6fc4311564b28db8eefb772a7025a3f0d0df7bbd2cf9cd6d3", func := "alfil/alfillaw06.RaysBack", spec := "raysBack", plainKeys := false, apart := false, narrowed := true }
def RaysBackUptoSaid : Prop := raysBackUptoRow.holds Try.pinned (OpenSpec.upto raysBackSpec)

/-- 'alfillaw06.RaysNil', WHERE WHAT IT READS IS OF BULK AT MOST 1048576: true; the input reads as it did. -/
def raysNilUptoRow : OpenClaim := { program := "ytpjocgebnodnoaa", sum := "d7da413f1d9676f6fc4311564b28db8eefb772a7025a3f0d0df7bbd2cf9cd6d3", func := "alfil/alfillaw06.RaysNil", spec := "raysNil", plainKeys := false, apart := false, narrowed := true }
def RaysNilUptoSaid : Prop := raysNilUptoRow.holds Try.pinned (OpenSpec.upto raysNilSpec)

/-- 'alfillaw06.RaysRay', WHERE WHAT IT READS IS OF BULK AT MOST 1048576: true; the input reads as it did. -/
def raysRayUptoRow : OpenClaim := { program := "ytpjocgebnodnoaa", sum := "d7da413f1d9676f6fc4311564b28db8eefb772a7025a3f0d0df7bbd2cf9cd6d3", func := "alfil/alfillaw06.RaysRay", spec := "raysRay", plainKeys := false, apart := false, narrowed := true }
def RaysRayUptoSaid : Prop := raysRayUptoRow.holds Try.pinned (OpenSpec.upto raysRaySpec)

/-- 'alfillaw18.TableClears', WHERE WHAT IT READS IS OF BULK AT MOST 1048576: true; the input reads as it did. -/
def tableClearsUptoRow : OpenClaim := { program := "ytpjocgebnodnoaa", sum := "d7da413f1d9676f6fc4311564b28db8eefb772a7025a3f0d0df7bbd2cf9cd6d3", func := "alfil/alfillaw18.TableClears", spec := "tableClears", plainKeys := false, apart := false, narrowed := true }
def TableClearsUptoSaid : Prop := tableClearsUptoRow.holds Try.pinned (OpenSpec.upto tableClearsSpec)

/-- 'alfillaw18.TableTrue', WHERE WHAT IT READS IS OF BULK AT MOST 1048576: true; the input reads as it did. -/
def tableTrueUptoRow : OpenClaim := { program := "ytpjocgebnodnoaa", sum := "d7da413f1d9676f6fc4311564b28db8eefb772a7025a3f0d0df7bbd2cf9cd6d3", func := "alfil/alfillaw18.TableTrue", spec := "tableTrue", plainKeys := false, apart := false, narrowed := true }
def TableTrueUptoSaid : Prop := tableTrueUptoRow.holds Try.pinned (OpenSpec.upto tableTrueSpec)

/-- 'alfillaw18.TableActs', WHERE WHAT IT READS IS OF BULK AT MOST 1048576: true; the input reads as it did. -/
def tableActsUptoRow : OpenClaim := { program := "ytpjocgebnodnoaa", sum := "d7da413f1d9676f6fc4311564b28db8eefb772a7025a3f0d0df7bbd2cf9cd6d3", func := "alfil/alfillaw18.TableActs", spec := "tableActs", plainKeys := false, apart := false, narrowed := true }
def TableActsUptoSaid : Prop := tableActsUptoRow.holds Try.pinned (OpenSpec.upto tableActsSpec)

/-- 'alfillaw18.TableNil', WHERE WHAT IT READS IS OF BULK AT MOST 1048576: true; the input reads as it did. -/
def tableNilUptoRow : OpenClaim := { program := "ytpjocgebnodnoaa", sum := "d7da413f1d9676f6fc4311564b28db8eefb772a7025a3f0d0df7bbd2cf9cd6d3", func := "alfil/alfillaw18.TableNil", spec := "tableNil", plainKeys := false, apart := false, narrowed := true }
def TableNilUptoSaid : Prop := tableNilUptoRow.holds Try.pinned (OpenSpec.upto tableNilSpec)

/-- 'alfillaw24.CountAll', WHERE WHAT IT READS IS OF BULK AT MOST 1048576: true; the input reads as it did. -/
def countAllUptoRow : OpenClaim := { program := "ytpjocgebnodnoaa", sum := "d7da413f1d9676f6fc4311564b28db8eefb772a7025a3f0d0df7bbd2cf9cd6d3", func := "alfil/alfillaw24.CountAll", spec := "countAll", recurses := true, plainKeys := false, apart := false, narrowed := true }
def CountAllUptoSaid : Prop := countAllUptoRow.holds Try.pinned (OpenSpec.upto countAllSpec)

/-- 'alfillaw24.CountTurned', WHERE WHAT IT READS IS OF BULK AT MOST 1048576: true; the input reads as it did. -/
def countTurnedUptoRow : OpenClaim := { program := "ytpjocgebnodnoaa", sum := "d7da413f1d9676f6fc4311564b28db8eefb772a7025a3f0d0df7bbd2cf9cd6d3", func := "alfil/alfillaw24.CountTurned", spec := "countTurned", plainKeys := false, apart := false, narrowed := true }
def CountTurnedUptoSaid : Prop := countTurnedUptoRow.holds Try.pinned (OpenSpec.upto countTurnedSpec)

/-- 'alfillaw24.CountSound', WHERE WHAT IT READS IS OF BULK AT MOST 1048576: true; the input reads as it did. -/
def countSoundUptoRow : OpenClaim := { program := "ytpjocgebnodnoaa", sum := "d7da413f1d9676f6fc4311564b28db8eefb772a7025a3f0d0df7bbd2cf9cd6d3", func := "alfil/alfillaw24.CountSound", spec := "countSound", plainKeys := false, apart := false, narrowed := true }
def CountSoundUptoSaid : Prop := countSoundUptoRow.holds Try.pinned (OpenSpec.upto countSoundSpec)

end Rows
end Go.Proofs.Ytpjocgebnodnoaa
