/-
  DERIVED. GIVEN WITH THE SEED: THE CARDS: each row of YtnldkbgbgngjjaaDoorRows.lean that lists a variable, with what it lists TIED to the program's text (the seventh form; the later family's looks); each row that meets fmt, with fmt's text TOLD by the authors' own Lean function (tested against real Go, not proved from fmt's source: count such statements apart). THE CARD IS WHAT COUNTS. Prove the row's statement (the work); the ties are given (YtnldkbgbgngjjaaDoorTie.lean); close each card by the builder's one call (the guide's Derived/Test/ToyasCard.lean, 'card_holds'). Laid BY PROGRAM, IN A SANDBOX (cutbox-door.mjs). By AI agents, Wed Nov 11 2026. No macro, syntax, notation, axiom, sorry.
-/
import Derived.Test.YtnldkbgbgngjjaaDoorRows
import GoSem.ClaimSeven
namespace Go.Proofs.YtnldkbgbgngjjaaDoor
namespace Rows

/-- THE TIED CARD OF 'affidavitlaw13.PointerParses'. -/
def pointerParsesCard : Claim7 := { stood := { row := pointerParsesRow, standIns := [], harness := (true, "ba991da8c50a9161645b605195f7b8201ba412795773ce982e1baf760ea1041b"), looks := true }, kinds := [], alts := [], laidByText := true, laidKinds := [.data, .pinned], laidTests := true, laidLooks := .later }
def PointerParsesCardSaid : Prop := Claim7.holds Tryd.pinned (.plain (OpenSpec.ofChange pointerParsesSpec)) pointerParsesCard

/-- THE TIED CARD OF 'affidavitlaw13.PointerPrints'. -/
def pointerPrintsCard : Claim7 := { stood := { row := pointerPrintsRow, standIns := [], harness := (true, "ba991da8c50a9161645b605195f7b8201ba412795773ce982e1baf760ea1041b"), looks := true }, kinds := [], alts := [], laidByText := true, laidKinds := [.data, .pinned], laidTests := true, laidLooks := .later }
def PointerPrintsCardSaid : Prop := Claim7.holds Tryd.pinned (.plain (OpenSpec.ofChange pointerPrintsSpec)) pointerPrintsCard

/-- THE TIED CARD OF 'affidavitlaw13.PointerMoves'. -/
def pointerMovesCard : Claim7 := { stood := { row := pointerMovesRow, standIns := [], harness := (true, "ba991da8c50a9161645b605195f7b8201ba412795773ce982e1baf760ea1041b"), looks := true }, kinds := [], alts := [], laidByText := true, laidKinds := [.data, .pinned], laidTests := true, laidLooks := .later }
def PointerMovesCardSaid : Prop := Claim7.holds Tryd.pinned (.plain (OpenSpec.ofChange pointerMovesSpec)) pointerMovesCard

/-- THE TIED CARD OF 'affidavitlaw13.PointerBack'. -/
def pointerBackCard : Claim7 := { stood := { row := pointerBackRow, standIns := [], harness := (true, "ba991da8c50a9161645b605195f7b8201ba412795773ce982e1baf760ea1041b"), looks := true }, kinds := [], alts := [], laidByText := true, laidKinds := [.data, .pinned], laidTests := true, laidLooks := .later }
def PointerBackCardSaid : Prop := Claim7.holds Tryd.pinned (.plain (OpenSpec.ofChange pointerBackSpec)) pointerBackCard

/-- THE SECOND FORM's CARD OF 'affidavitlaw13.PointerParses'. -/
def pointerParsesUptoCard : Claim7 := { stood := { row := pointerParsesUptoRow, standIns := [], harness := (true, "ba991da8c50a9161645b605195f7b8201ba412795773ce982e1baf760ea1041b"), looks := true }, kinds := [], alts := [], laidByText := true, laidKinds := [.data, .pinned], laidTests := true, laidLooks := .later }
def PointerParsesUptoCardSaid : Prop := Claim7.holds Tryd.pinned (.plain (OpenSpec.upto pointerParsesSpec)) pointerParsesUptoCard

/-- THE SECOND FORM's CARD OF 'affidavitlaw13.PointerPrints'. -/
def pointerPrintsUptoCard : Claim7 := { stood := { row := pointerPrintsUptoRow, standIns := [], harness := (true, "ba991da8c50a9161645b605195f7b8201ba412795773ce982e1baf760ea1041b"), looks := true }, kinds := [], alts := [], laidByText := true, laidKinds := [.data, .pinned], laidTests := true, laidLooks := .later }
def PointerPrintsUptoCardSaid : Prop := Claim7.holds Tryd.pinned (.plain (OpenSpec.upto pointerPrintsSpec)) pointerPrintsUptoCard

/-- THE SECOND FORM's CARD OF 'affidavitlaw13.PointerMoves'. -/
def pointerMovesUptoCard : Claim7 := { stood := { row := pointerMovesUptoRow, standIns := [], harness := (true, "ba991da8c50a9161645b605195f7b8201ba412795773ce982e1baf760ea1041b"), looks := true }, kinds := [], alts := [], laidByText := true, laidKinds := [.data, .pinned], laidTests := true, laidLooks := .later }
def PointerMovesUptoCardSaid : Prop := Claim7.holds Tryd.pinned (.plain (OpenSpec.upto pointerMovesSpec)) pointerMovesUptoCard

/-- THE SECOND FORM's CARD OF 'affidavitlaw13.PointerBack'. -/
def pointerBackUptoCard : Claim7 := { stood := { row := pointerBackUptoRow, standIns := [], harness := (true, "ba991da8c50a9161645b605195f7b8201ba412795773ce982e1baf760ea1041b"), looks := true }, kinds := [], alts := [], laidByText := true, laidKinds := [.data, .pinned], laidTests := true, laidLooks := .later }
def PointerBackUptoCardSaid : Prop := Claim7.holds Tryd.pinned (.plain (OpenSpec.upto pointerBackSpec)) pointerBackUptoCard
end Rows
end Go.Proofs.YtnldkbgbgngjjaaDoor
