/-
  No cell of these rows narrows 'for every input' (looked for: loops, veiled, ifaces, maps, wideKeys, modest, calm, conditions, laid).
  DERIVED. THE GIVEN ROWS OF THIS SEAT. 11 by the template 'for every input the law returns true; each argument reads behind the call as it read before'; 0 by the template 'total and deterministic' (their statements: YtpgdcpkggmkooaaTotals.lean).
  GIVEN WITH THE SEED: the statements are not yours to turn. If you find one false, say at which input.
  Laid BY PROGRAM, IN A SANDBOX (cutbox-rows.mjs): the forced cells as the released guide's own fill.sh prints them over the translation 2f5067f907c33ebd… (all of the seat's roots in one cut). By AI agents, Wed Nov 11 2026. No macro, syntax, notation, axiom, sorry.
-/
import Derived.Test.YtpgdcpkggmkooaaChecked
import GoSem.Claim
import GoSem.ClaimJoined
import GoSem.ClaimMapViews
import Derived.JoinedTies
import Derived.KernelRfl
namespace Go.Proofs.Ytpgdcpkggmkooaa
/- THE CELL 'sum', in the pinned program and in every row, IS THE sha256 OF THE DUMP (.gsa) THAT YtpgdcpkggmkooaaProg.lean LOADS. Nothing in Lean hashes anything: it is a label: what it is worth is what the hold of that sum in a sandbox is worth. -/
noncomputable def Try.pinned : Pinned := { name := "ytpgdcpkggmkooaa", sum := "2f5067f907c33ebd8fa428305578639e366addfd12c6e03ddde1ad278e08a95e", checked := Try.checked }
namespace Rows
def none {H : Type} : Left H := { results := [], args := [] }

/-- 'alfillaw17.KeyOf': WHATEVER THE INPUT: true; the input reads as it did. -/
def keyOfSpec : ChangeSpec := { name := "keyOf", fn := fun _ => fun
  | [d1, d2] => { results := [.lit (.bool true)], args := [d1, d2] }
  | _ => none }
def keyOfRow : OpenClaim := { program := "ytpgdcpkggmkooaa", sum := "2f5067f907c33ebd8fa428305578639e366addfd12c6e03ddde1ad278e08a95e", func := "alfil/alfillaw17.KeyOf", spec := "keyOf", apart := false }
def KeyOfSaid : Prop := keyOfRow.holds Try.pinned (OpenSpec.ofChange keyOfSpec)

/-- ITS FALSE NEIGHBOUR: 'it returns false'. Refute it at one input. -/
def keyOfWrong : ChangeSpec := { name := "keyOf", fn := fun _ => fun
  | [d1, d2] => { results := [.lit (.bool false)], args := [d1, d2] }
  | _ => none }
def KeyOfWrongFalsely : Prop := keyOfRow.holds Try.pinned (OpenSpec.ofChange keyOfWrong)

/-- 'alfillaw03.BoardWrong': WHATEVER THE INPUT: true; the input reads as it did. -/
def boardWrongSpec : ChangeSpec := { name := "boardWrong", fn := fun _ => fun
  | [d] => { results := [.lit (.bool true)], args := [d] }
  | _ => none }
def boardWrongRow : OpenClaim := { program := "ytpgdcpkggmkooaa", sum := "2f5067f907c33ebd8fa428305578639e366addfd12c6e03ddde1ad278e08a95e", func := "alfil/alfillaw03.BoardWrong", spec := "boardWrong", apart := false }
def BoardWrongSaid : Prop := boardWrongRow.holds Try.pinned (OpenSpec.ofChange boardWrongSpec)

/-- ITS FALSE NEIGHBOUR: 'it returns false'. Refute it at one input. -/
def boardWrongWrong : ChangeSpec := { name := "boardWrong", fn := fun _ => fun
  | [d] => { results := [.lit (.bool false)], args := [d] }
  | _ => none }
def BoardWrongWrongFalsely : Prop := boardWrongRow.holds Try.pinned (OpenSpec.ofChange boardWrongWrong)

/-- 'alfillaw03.BoardPuts': WHATEVER THE INPUT: true; the input reads as it did. -/
def boardPutsSpec : ChangeSpec := { name := "boardPuts", fn := fun _ => fun
  | [d1, d2, d3] => { results := [.lit (.bool true)], args := [d1, d2, d3] }
  | _ => none }
def boardPutsRow : OpenClaim := { program := "ytpgdcpkggmkooaa", sum := "2f5067f907c33ebd8fa428305578639e366addfd12c6e03ddde1ad278e08a95e", func := "alfil/alfillaw03.BoardPuts", spec := "boardPuts", apart := false }
def BoardPutsSaid : Prop := boardPutsRow.holds Try.pinned (OpenSpec.ofChange boardPutsSpec)

/-- ITS FALSE NEIGHBOUR: 'it returns false'. Refute it at one input. -/
def boardPutsWrong : ChangeSpec := { name := "boardPuts", fn := fun _ => fun
  | [d1, d2, d3] => { results := [.lit (.bool false)], args := [d1, d2, d3] }
  | _ => none }
def BoardPutsWrongFalsely : Prop := boardPutsRow.holds Try.pinned (OpenSpec.ofChange boardPutsWrong)

/-- 'alfillaw03.BoardTurns': WHATEVER THE INPUT: true; the input reads as it did. -/
def boardTurnsSpec : ChangeSpec := { name := "boardTurns", fn := fun _ => fun
  | [d] => { results := [.lit (.bool true)], args := [d] }
  | _ => none }
def boardTurnsRow : OpenClaim := { program := "ytpgdcpkggmkooaa", sum := "2f5067f907c33ebd8fa428305578639e366addfd12c6e03ddde1ad278e08a95e", func := "alfil/alfillaw03.BoardTurns", spec := "boardTurns", apart := false }
def BoardTurnsSaid : Prop := boardTurnsRow.holds Try.pinned (OpenSpec.ofChange boardTurnsSpec)

/-- ITS FALSE NEIGHBOUR: 'it returns false'. Refute it at one input. -/
def boardTurnsWrong : ChangeSpec := { name := "boardTurns", fn := fun _ => fun
  | [d] => { results := [.lit (.bool false)], args := [d] }
  | _ => none }
def BoardTurnsWrongFalsely : Prop := boardTurnsRow.holds Try.pinned (OpenSpec.ofChange boardTurnsWrong)

/-- 'alfillaw03.BoardAsks': WHATEVER THE INPUT: true; the input reads as it did. -/
def boardAsksSpec : ChangeSpec := { name := "boardAsks", fn := fun _ => fun
  | [d1, d2, d3] => { results := [.lit (.bool true)], args := [d1, d2, d3] }
  | _ => none }
def boardAsksRow : OpenClaim := { program := "ytpgdcpkggmkooaa", sum := "2f5067f907c33ebd8fa428305578639e366addfd12c6e03ddde1ad278e08a95e", func := "alfil/alfillaw03.BoardAsks", spec := "boardAsks", apart := false }
def BoardAsksSaid : Prop := boardAsksRow.holds Try.pinned (OpenSpec.ofChange boardAsksSpec)

/-- ITS FALSE NEIGHBOUR: 'it returns false'. Refute it at one input. -/
def boardAsksWrong : ChangeSpec := { name := "boardAsks", fn := fun _ => fun
  | [d1, d2, d3] => { results := [.lit (.bool false)], args := [d1, d2, d3] }
  | _ => none }
def BoardAsksWrongFalsely : Prop := boardAsksRow.holds Try.pinned (OpenSpec.ofChange boardAsksWrong)

/-- 'alfillaw04.ForsythReads': WHATEVER THE INPUT: true; the input reads as it did. -/
def forsythReadsSpec : ChangeSpec := { name := "forsythReads", fn := fun _ => fun
  | [d] => { results := [.lit (.bool true)], args := [d] }
  | _ => none }
def forsythReadsRow : OpenClaim := { program := "ytpgdcpkggmkooaa", sum := "2f5067f907c33ebd8fa428305578639e366addfd12c6e03ddde1ad278e08a95e", func := "alfil/alfillaw04.ForsythReads", spec := "forsythReads", apart := false }
def ForsythReadsSaid : Prop := forsythReadsRow.holds Try.pinned (OpenSpec.ofChange forsythReadsSpec)

/-- ITS FALSE NEIGHBOUR: 'it returns false'. Refute it at one input. -/
def forsythReadsWrong : ChangeSpec := { name := "forsythReads", fn := fun _ => fun
  | [d] => { results := [.lit (.bool false)], args := [d] }
  | _ => none }
def ForsythReadsWrongFalsely : Prop := forsythReadsRow.holds Try.pinned (OpenSpec.ofChange forsythReadsWrong)

/-- 'alfillaw04.ForsythWrites': WHATEVER THE INPUT: true; the input reads as it did. -/
def forsythWritesSpec : ChangeSpec := { name := "forsythWrites", fn := fun _ => fun
  | [d] => { results := [.lit (.bool true)], args := [d] }
  | _ => none }
def forsythWritesRow : OpenClaim := { program := "ytpgdcpkggmkooaa", sum := "2f5067f907c33ebd8fa428305578639e366addfd12c6e03ddde1ad278e08a95e", func := "alfil/alfillaw04.ForsythWrites", spec := "forsythWrites", inPlace := ["internal/abi.NoEscape", "internal/bytealg.MakeNoZero"], apart := false }
def ForsythWritesSaid : Prop := forsythWritesRow.holds Try.pinned (OpenSpec.ofChange forsythWritesSpec)

/-- ITS FALSE NEIGHBOUR: 'it returns false'. Refute it at one input. -/
def forsythWritesWrong : ChangeSpec := { name := "forsythWrites", fn := fun _ => fun
  | [d] => { results := [.lit (.bool false)], args := [d] }
  | _ => none }
def ForsythWritesWrongFalsely : Prop := forsythWritesRow.holds Try.pinned (OpenSpec.ofChange forsythWritesWrong)

/-- 'alfillaw04.ForsythShortest': WHATEVER THE INPUT: true; the input reads as it did. -/
def forsythShortestSpec : ChangeSpec := { name := "forsythShortest", fn := fun _ => fun
  | [d] => { results := [.lit (.bool true)], args := [d] }
  | _ => none }
def forsythShortestRow : OpenClaim := { program := "ytpgdcpkggmkooaa", sum := "2f5067f907c33ebd8fa428305578639e366addfd12c6e03ddde1ad278e08a95e", func := "alfil/alfillaw04.ForsythShortest", spec := "forsythShortest", inPlace := ["internal/abi.NoEscape", "internal/bytealg.MakeNoZero"], apart := false }
def ForsythShortestSaid : Prop := forsythShortestRow.holds Try.pinned (OpenSpec.ofChange forsythShortestSpec)

/-- ITS FALSE NEIGHBOUR: 'it returns false'. Refute it at one input. -/
def forsythShortestWrong : ChangeSpec := { name := "forsythShortest", fn := fun _ => fun
  | [d] => { results := [.lit (.bool false)], args := [d] }
  | _ => none }
def ForsythShortestWrongFalsely : Prop := forsythShortestRow.holds Try.pinned (OpenSpec.ofChange forsythShortestWrong)

/-- 'alfillaw04.ForsythCut': WHATEVER THE INPUT: true; the input reads as it did. -/
def forsythCutSpec : ChangeSpec := { name := "forsythCut", fn := fun _ => fun
  | [d1, d2, d3] => { results := [.lit (.bool true)], args := [d1, d2, d3] }
  | _ => none }
def forsythCutRow : OpenClaim := { program := "ytpgdcpkggmkooaa", sum := "2f5067f907c33ebd8fa428305578639e366addfd12c6e03ddde1ad278e08a95e", func := "alfil/alfillaw04.ForsythCut", spec := "forsythCut", inPlace := ["internal/abi.NoEscape", "internal/bytealg.MakeNoZero"], apart := false }
def ForsythCutSaid : Prop := forsythCutRow.holds Try.pinned (OpenSpec.ofChange forsythCutSpec)

/-- ITS FALSE NEIGHBOUR: 'it returns false'. Refute it at one input. -/
def forsythCutWrong : ChangeSpec := { name := "forsythCut", fn := fun _ => fun
  | [d1, d2, d3] => { results := [.lit (.bool false)], args := [d1, d2, d3] }
  | _ => none }
def ForsythCutWrongFalsely : Prop := forsythCutRow.holds Try.pinned (OpenSpec.ofChange forsythCutWrong)

/-- 'alfillaw05.RollWrites': WHATEVER THE INPUT: true; the input reads as it did. -/
def rollWritesSpec : ChangeSpec := { name := "rollWrites", fn := fun _ => fun
  | [d] => { results := [.lit (.bool true)], args := [d] }
  | _ => none }
def rollWritesRow : OpenClaim := { program := "ytpgdcpkggmkooaa", sum := "2f5067f907c33ebd8fa428305578639e366addfd12c6e03ddde1ad278e08a95e", func := "alfil/alfillaw05.RollWrites", spec := "rollWrites", unfollowed := true, recurses := true, apart := false }
def RollWritesSaid : Prop := rollWritesRow.holds Try.pinned (OpenSpec.ofChange rollWritesSpec)

/-- ITS FALSE NEIGHBOUR: 'it returns false'. Refute it at one input. -/
def rollWritesWrong : ChangeSpec := { name := "rollWrites", fn := fun _ => fun
  | [d] => { results := [.lit (.bool false)], args := [d] }
  | _ => none }
def RollWritesWrongFalsely : Prop := rollWritesRow.holds Try.pinned (OpenSpec.ofChange rollWritesWrong)

/-- 'alfillaw05.RollTwice': WHATEVER THE INPUT: true; the input reads as it did. -/
def rollTwiceSpec : ChangeSpec := { name := "rollTwice", fn := fun _ => fun
  | [d1, d2, d3] => { results := [.lit (.bool true)], args := [d1, d2, d3] }
  | _ => none }
def rollTwiceRow : OpenClaim := { program := "ytpgdcpkggmkooaa", sum := "2f5067f907c33ebd8fa428305578639e366addfd12c6e03ddde1ad278e08a95e", func := "alfil/alfillaw05.RollTwice", spec := "rollTwice", unfollowed := true, recurses := true, apart := false }
def RollTwiceSaid : Prop := rollTwiceRow.holds Try.pinned (OpenSpec.ofChange rollTwiceSpec)

/-- ITS FALSE NEIGHBOUR: 'it returns false'. Refute it at one input. -/
def rollTwiceWrong : ChangeSpec := { name := "rollTwice", fn := fun _ => fun
  | [d1, d2, d3] => { results := [.lit (.bool false)], args := [d1, d2, d3] }
  | _ => none }
def RollTwiceWrongFalsely : Prop := rollTwiceRow.holds Try.pinned (OpenSpec.ofChange rollTwiceWrong)

/- THE SECOND FORM. 'bulk': how many values and letters a reading holds, each counted each time it is reached (what is shared counts as often as it is met; a slice's spare places count too). A statement '..UptoSaid' is the law's where the arguments, and the package variables that the reading takes, are together of bulk at most 1048576: NARROWER than '..Said'. Prove '..Said' where nothing that the law and all that it calls make is longer than what came in: it says more and counts as full. Else prove '..UptoSaid'. A law counts once. -/
mutual
def uptoBulk {H : Type} : DataW H → Nat
  | .lit (.string bytes) => bytes.length + 1
  | .lit _ => 1
  | .nil => 1
  | .ptr d => uptoBulk d + 1
  | .slice elems spare => uptoBulkAll elems + uptoBulkAll spare + 1
  | .agg parts => uptoBulkAll parts + 1
  | .iface _ d => uptoBulk d + 1
  | .map entries => uptoBulkEntries entries + 1
  | .held _ => 1
def uptoBulkAll {H : Type} : List (DataW H) → Nat
  | [] => 0
  | d :: r => uptoBulk d + uptoBulkAll r
def uptoBulkEntries {H : Type} : List (Lit × DataW H) → Nat
  | [] => 0
  | x :: r => uptoBulkEntry x + uptoBulkEntries r
def uptoBulkEntry {H : Type} : Lit × DataW H → Nat
  | (.string bytes, d) => bytes.length + uptoBulk d + 1
  | (_, d) => uptoBulk d + 1
 end
def uptoSmall : (H : Type) → List (DataW H) → Bool := fun _ ds => decide (uptoBulkAll ds ≤ 1048576)
def OpenSpec.upto (s : _root_.Go.ChangeSpec) : _root_.Go.OpenSpec := { _root_.Go.OpenSpec.ofChange s with cond := some uptoSmall }

/-- 'alfillaw17.KeyOf', WHERE WHAT IT READS IS OF BULK AT MOST 1048576: true; the input reads as it did. -/
def keyOfUptoRow : OpenClaim := { program := "ytpgdcpkggmkooaa", sum := "2f5067f907c33ebd8fa428305578639e366addfd12c6e03ddde1ad278e08a95e", func := "alfil/alfillaw17.KeyOf", spec := "keyOf", apart := false, narrowed := true }
def KeyOfUptoSaid : Prop := keyOfUptoRow.holds Try.pinned (OpenSpec.upto keyOfSpec)

/-- 'alfillaw03.BoardWrong', WHERE WHAT IT READS IS OF BULK AT MOST 1048576: true; the input reads as it did. -/
def boardWrongUptoRow : OpenClaim := { program := "ytpgdcpkggmkooaa", sum := "2f5067f907c33ebd8fa428305578639e366addfd12c6e03ddde1ad278e08a95e", func := "alfil/alfillaw03.BoardWrong", spec := "boardWrong", apart := false, narrowed := true }
def BoardWrongUptoSaid : Prop := boardWrongUptoRow.holds Try.pinned (OpenSpec.upto boardWrongSpec)

/-- 'alfillaw03.BoardPuts', WHERE WHAT IT READS IS OF BULK AT MOST 1048576: true; the input reads as it did. -/
def boardPutsUptoRow : OpenClaim := { program := "ytpgdcpkggmkooaa", sum := "2f5067f907c33ebd8fa428305578639e366addfd12c6e03ddde1ad278e08a95e", func := "alfil/alfillaw03.BoardPuts", spec := "boardPuts", apart := false, narrowed := true }
def BoardPutsUptoSaid : Prop := boardPutsUptoRow.holds Try.pinned (OpenSpec.upto boardPutsSpec)

/-- 'alfillaw03.BoardTurns', WHERE WHAT IT READS IS OF BULK AT MOST 1048576: true; the input reads as it did. -/
def boardTurnsUptoRow : OpenClaim := { program := "ytpgdcpkggmkooaa", sum := "2f5067f907c33ebd8fa428305578639e366addfd12c6e03ddde1ad278e08a95e", func := "alfil/alfillaw03.BoardTurns", spec := "boardTurns", apart := false, narrowed := true }
def BoardTurnsUptoSaid : Prop := boardTurnsUptoRow.holds Try.pinned (OpenSpec.upto boardTurnsSpec)

/-- 'alfillaw03.BoardAsks', WHERE WHAT IT READS IS OF BULK AT MOST 1048576: true; the input reads as it did. -/
def boardAsksUptoRow : OpenClaim := { program := "ytpgdcpkggmkooaa", sum := "2f5067f907c33ebd8fa428305578639e366addfd12c6e03ddde1ad278e08a95e", func := "alfil/alfillaw03.BoardAsks", spec := "boardAsks", apart := false, narrowed := true }
def BoardAsksUptoSaid : Prop := boardAsksUptoRow.holds Try.pinned (OpenSpec.upto boardAsksSpec)

/-- 'alfillaw04.ForsythReads', WHERE WHAT IT READS IS OF BULK AT MOST 1048576: true; the input reads as it did. -/
def forsythReadsUptoRow : OpenClaim := { program := "ytpgdcpkggmkooaa", sum := "2f5067f907c33ebd8fa428305578639e366addfd12c6e03ddde1ad278e08a95e", func := "alfil/alfillaw04.ForsythReads", spec := "forsythReads", apart := false, narrowed := true }
def ForsythReadsUptoSaid : Prop := forsythReadsUptoRow.holds Try.pinned (OpenSpec.upto forsythReadsSpec)

/-- 'alfillaw04.ForsythWrites', WHERE WHAT IT READS IS OF BULK AT MOST 1048576: true; the input reads as it did. -/
def forsythWritesUptoRow : OpenClaim := { program := "ytpgdcpkggmkooaa", sum := "2f5067f907c33ebd8fa428305578639e366addfd12c6e03ddde1ad278e08a95e", func := "alfil/alfillaw04.ForsythWrites", spec := "forsythWrites", inPlace := ["internal/abi.NoEscape", "internal/bytealg.MakeNoZero"], apart := false, narrowed := true }
def ForsythWritesUptoSaid : Prop := forsythWritesUptoRow.holds Try.pinned (OpenSpec.upto forsythWritesSpec)

/-- 'alfillaw04.ForsythShortest', WHERE WHAT IT READS IS OF BULK AT MOST 1048576: true; the input reads as it did. -/
def forsythShortestUptoRow : OpenClaim := { program := "ytpgdcpkggmkooaa", sum := "2f5067f907c33ebd8fa428305578639e366addfd12c6e03ddde1ad278e08a95e", func := "alfil/alfillaw04.ForsythShortest", spec := "forsythShortest", inPlace := ["internal/abi.NoEscape", "internal/bytealg.MakeNoZero"], apart := false, narrowed := true }
def ForsythShortestUptoSaid : Prop := forsythShortestUptoRow.holds Try.pinned (OpenSpec.upto forsythShortestSpec)

/-- 'alfillaw04.ForsythCut', WHERE WHAT IT READS IS OF BULK AT MOST 1048576: true; the input reads as it did. -/
def forsythCutUptoRow : OpenClaim := { program := "ytpgdcpkggmkooaa", sum := "2f5067f907c33ebd8fa428305578639e366addfd12c6e03ddde1ad278e08a95e", func := "alfil/alfillaw04.ForsythCut", spec := "forsythCut", inPlace := ["internal/abi.NoEscape", "internal/bytealg.MakeNoZero"], apart := false, narrowed := true }
def ForsythCutUptoSaid : Prop := forsythCutUptoRow.holds Try.pinned (OpenSpec.upto forsythCutSpec)

/-- 'alfillaw05.RollWrites', WHERE WHAT IT READS IS OF BULK AT MOST 1048576: true; the input reads as it did. -/
def rollWritesUptoRow : OpenClaim := { program := "ytpgdcpkggmkooaa", sum := "2f5067f907c33ebd8fa428305578639e366addfd12c6e03ddde1ad278e08a95e", func := "alfil/alfillaw05.RollWrites", spec := "rollWrites", unfollowed := true, recurses := true, apart := false, narrowed := true }
def RollWritesUptoSaid : Prop := rollWritesUptoRow.holds Try.pinned (OpenSpec.upto rollWritesSpec)

/-- 'alfillaw05.RollTwice', WHERE WHAT IT READS IS OF BULK AT MOST 1048576: true; the input reads as it did. -/
def rollTwiceUptoRow : OpenClaim := { program := "ytpgdcpkggmkooaa", sum := "2f5067f907c33ebd8fa428305578639e366addfd12c6e03ddde1ad278e08a95e", func := "alfil/alfillaw05.RollTwice", spec := "rollTwice", unfollowed := true, recurses := true, apart := false, narrowed := true }
def RollTwiceUptoSaid : Prop := rollTwiceUptoRow.holds Try.pinned (OpenSpec.upto rollTwiceSpec)

end Rows
end Go.Proofs.Ytpgdcpkggmkooaa
