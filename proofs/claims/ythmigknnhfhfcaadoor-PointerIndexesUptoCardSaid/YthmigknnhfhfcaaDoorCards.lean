/-
  DERIVED. GIVEN WITH THE SEED: THE CARDS: each row of YthmigknnhfhfcaaDoorRows.lean that lists a variable, with what it lists TIED to the program's text (the seventh form; the later family's looks); each row that meets fmt, with fmt's text TOLD by the authors' own Lean function (tested against real Go, not proved from fmt's source: count such statements apart). THE CARD IS WHAT COUNTS. Prove the row's statement (the work); the ties are given (YthmigknnhfhfcaaDoorTie.lean); close each card by the builder's one call (the guide's Derived/Test/ToyasCard.lean, 'card_holds'). Laid BY PROGRAM, IN A SANDBOX (cutbox-door.mjs). By AI agents, Wed Nov 11 2026. No macro, syntax, notation, axiom, sorry.
-/
import Derived.Test.YthmigknnhfhfcaaDoorRows
import GoSem.ClaimSeven
namespace Go.Proofs.YthmigknnhfhfcaaDoor
namespace Rows

/-- THE TIED CARD OF 'affidavitlaw13.PointerIndexes'. -/
def pointerIndexesCard : Claim7 := { stood := { row := pointerIndexesRow, standIns := [], harness := (true, "a70ef3be2ed1b0889fa84f4c95b63846c80ad01d80259c0abd2ec5343737ca4d"), looks := true }, kinds := [], alts := [], laidByText := true, laidKinds := [.data, .data, .data, .data, .sentinel, .sentinel, .pinned], laidTests := true, laidLooks := .later }
def PointerIndexesCardSaid : Prop := Claim7.holds Tryd.pinned (.plain (OpenSpec.ofChange pointerIndexesSpec)) pointerIndexesCard

/-- THE SECOND FORM's CARD OF 'affidavitlaw13.PointerIndexes'. -/
def pointerIndexesUptoCard : Claim7 := { stood := { row := pointerIndexesUptoRow, standIns := [], harness := (true, "a70ef3be2ed1b0889fa84f4c95b63846c80ad01d80259c0abd2ec5343737ca4d"), looks := true }, kinds := [], alts := [], laidByText := true, laidKinds := [.data, .data, .data, .data, .sentinel, .sentinel, .pinned], laidTests := true, laidLooks := .later }
def PointerIndexesUptoCardSaid : Prop := Claim7.holds Tryd.pinned (.plain (OpenSpec.upto pointerIndexesSpec)) pointerIndexesUptoCard
end Rows
end Go.Proofs.YthmigknnhfhfcaaDoor
