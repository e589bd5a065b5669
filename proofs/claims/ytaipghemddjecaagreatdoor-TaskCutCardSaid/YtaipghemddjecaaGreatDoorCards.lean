/-
  DERIVED. GIVEN WITH THE SEED: THE CARDS: each row of YtaipghemddjecaaGreatDoorRows.lean that lists a variable, with what it lists TIED to the program's text (the seventh form; the later family's looks); each row that meets fmt, with fmt's text TOLD by the authors' own Lean function (tested against real Go, not proved from fmt's source: count such statements apart). THE CARD IS WHAT COUNTS. Prove the row's statement (the work); the ties are given (YtaipghemddjecaaGreatDoorTie.lean); close each card by the builder's one call (the guide's Derived/Test/ToyasCard.lean, 'card_holds'). Laid BY PROGRAM, IN A SANDBOX (cutbox-door.mjs). By AI agents, Wed Nov 11 2026. No macro, syntax, notation, axiom, sorry.
-/
import Derived.Test.YtaipghemddjecaaGreatDoorRows
import GoSem.ClaimSeven
namespace Go.Proofs.YtaipghemddjecaaGreatDoor
namespace Rows

/-- THE TIED CARD OF 'alfillaw16.TaskCut'. -/
def taskCutCard : Claim7 := { stood := { row := taskCutRow, standIns := [], harness := (true, "04d1d4f7d4f8a3c2b72fe7efef8b36a0e1c4e64bbe0b756ce9b08e6869d4b387"), looks := false }, kinds := [], alts := [], laidByText := true, laidKinds := [.data, .data, .data], laidTests := true, laidLooks := .later }
def TaskCutCardSaid : Prop := Claim7.holds Tryz.pinned (.plain (OpenSpec.ofChange taskCutSpec)) taskCutCard

/-- THE TIED CARD OF 'alfillaw16.TaskPieces'. -/
def taskPiecesCard : Claim7 := { stood := { row := taskPiecesRow, standIns := [], harness := (true, "04d1d4f7d4f8a3c2b72fe7efef8b36a0e1c4e64bbe0b756ce9b08e6869d4b387"), looks := false }, kinds := [], alts := [], laidByText := true, laidKinds := [.data, .data, .data], laidTests := true, laidLooks := .later }
def TaskPiecesCardSaid : Prop := Claim7.holds Tryz.pinned (.plain (OpenSpec.ofChange taskPiecesSpec)) taskPiecesCard

/-- THE SECOND FORM's CARD OF 'alfillaw16.TaskCut'. -/
def taskCutUptoCard : Claim7 := { stood := { row := taskCutUptoRow, standIns := [], harness := (true, "04d1d4f7d4f8a3c2b72fe7efef8b36a0e1c4e64bbe0b756ce9b08e6869d4b387"), looks := false }, kinds := [], alts := [], laidByText := true, laidKinds := [.data, .data, .data], laidTests := true, laidLooks := .later }
def TaskCutUptoCardSaid : Prop := Claim7.holds Tryz.pinned (.plain (OpenSpec.upto taskCutSpec)) taskCutUptoCard

/-- THE SECOND FORM's CARD OF 'alfillaw16.TaskPieces'. -/
def taskPiecesUptoCard : Claim7 := { stood := { row := taskPiecesUptoRow, standIns := [], harness := (true, "04d1d4f7d4f8a3c2b72fe7efef8b36a0e1c4e64bbe0b756ce9b08e6869d4b387"), looks := false }, kinds := [], alts := [], laidByText := true, laidKinds := [.data, .data, .data], laidTests := true, laidLooks := .later }
def TaskPiecesUptoCardSaid : Prop := Claim7.holds Tryz.pinned (.plain (OpenSpec.upto taskPiecesSpec)) taskPiecesUptoCard
end Rows
end Go.Proofs.YtaipghemddjecaaGreatDoor
