/-
  DERIVED. GIVEN WITH THE SEED: THE CARDS: each row of YtabbkeliknidgaaDoorRows.lean that lists a variable, with what it lists TIED to the program's text (the seventh form; the later family's looks); each row that meets fmt, with fmt's text TOLD by the authors' own Lean function (tested against real Go, not proved from fmt's source: count such statements apart). THE CARD IS WHAT COUNTS. Prove the row's statement (the work); the ties are given (YtabbkeliknidgaaDoorTie.lean); close each card by the builder's one call (the guide's Derived/Test/ToyasCard.lean, 'card_holds'). Laid BY PROGRAM, IN A SANDBOX (cutbox-door.mjs). By AI agents, Wed Nov 11 2026. No macro, syntax, notation, axiom, sorry.
-/
import Derived.Test.YtabbkeliknidgaaDoorRows
import GoSem.ClaimSeven
namespace Go.Proofs.YtabbkeliknidgaaDoor
namespace Rows

/-- THE TIED CARD OF 'alfillaw15.StipWrites'. -/
def stipWritesCard : Claim7 := { stood := { row := stipWritesRow, standIns := [], harness := (true, "e3ed1913d685ea162b12d3dfc7578f310effc06568cfb4558ec5f4b922e187e5"), looks := false }, kinds := [], alts := [], laidByText := true, laidKinds := [.data, .data, .data], laidTests := true, laidLooks := .later }
def StipWritesCardSaid : Prop := Claim7.holds Tryd.pinned (.plain (OpenSpec.ofChange stipWritesSpec)) stipWritesCard

/-- THE TIED CARD OF 'alfillaw15.StipCut'. -/
def stipCutCard : Claim7 := { stood := { row := stipCutRow, standIns := [], harness := (true, "e3ed1913d685ea162b12d3dfc7578f310effc06568cfb4558ec5f4b922e187e5"), looks := false }, kinds := [], alts := [], laidByText := true, laidKinds := [.data, .data, .data], laidTests := true, laidLooks := .later }
def StipCutCardSaid : Prop := Claim7.holds Tryd.pinned (.plain (OpenSpec.ofChange stipCutSpec)) stipCutCard

/-- THE SECOND FORM's CARD OF 'alfillaw15.StipWrites'. -/
def stipWritesUptoCard : Claim7 := { stood := { row := stipWritesUptoRow, standIns := [], harness := (true, "e3ed1913d685ea162b12d3dfc7578f310effc06568cfb4558ec5f4b922e187e5"), looks := false }, kinds := [], alts := [], laidByText := true, laidKinds := [.data, .data, .data], laidTests := true, laidLooks := .later }
def StipWritesUptoCardSaid : Prop := Claim7.holds Tryd.pinned (.plain (OpenSpec.upto stipWritesSpec)) stipWritesUptoCard

/-- THE SECOND FORM's CARD OF 'alfillaw15.StipCut'. -/
def stipCutUptoCard : Claim7 := { stood := { row := stipCutUptoRow, standIns := [], harness := (true, "e3ed1913d685ea162b12d3dfc7578f310effc06568cfb4558ec5f4b922e187e5"), looks := false }, kinds := [], alts := [], laidByText := true, laidKinds := [.data, .data, .data], laidTests := true, laidLooks := .later }
def StipCutUptoCardSaid : Prop := Claim7.holds Tryd.pinned (.plain (OpenSpec.upto stipCutSpec)) stipCutUptoCard
end Rows
end Go.Proofs.YtabbkeliknidgaaDoor
