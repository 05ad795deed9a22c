/-
  DERIVED. GIVEN WITH THE SEED: THE CARDS: each row of YtbajkglacfheiaaGreatDoorRows.lean that lists a variable, with what it lists TIED to the program's text (the seventh form; the later family's looks); each row that meets fmt, with fmt's text TOLD by the authors' own Lean function (tested against real Go, not proved from fmt's source: count such statements apart). THE CARD IS WHAT COUNTS. Prove the row's statement (the work); the ties are given (YtbajkglacfheiaaGreatDoorTie.lean); close each card by the builder's one call (the guide's Derived/Test/ToyasCard.lean, 'card_holds'). Laid BY PROGRAM, IN A SANDBOX (cutbox-door.mjs). By AI agents, Wed Nov 11 2026. No macro, syntax, notation, axiom, sorry.
-/
import Derived.Test.YtbajkglacfheiaaGreatDoorRows
import GoSem.ClaimSeven
namespace Go.Proofs.YtbajkglacfheiaaGreatDoor
namespace Rows

/-- THE TIED CARD OF 'affidavitlaw16.BindUnits'. -/
def bindUnitsCard : Claim7 := { stood := { row := bindUnitsRow, standIns := [], harness := (true, "204c77b9bd3304618383aef1a653ccfd1ec74177fd4f08fb7530c8147d3d338d"), looks := true }, kinds := [], alts := [], laidByText := true, laidKinds := [.data, .data, .data, .data, .sentinel, .sentinel, .pinned], laidTests := true, laidLooks := .later }
def BindUnitsCardSaid : Prop := Claim7.holds Tryz.pinned (.plain (OpenSpec.ofChange bindUnitsSpec)) bindUnitsCard

/-- THE TIED CARD OF 'affidavitlaw16.BindAsserts'. -/
def bindAssertsCard : Claim7 := { stood := { row := bindAssertsRow, standIns := [], harness := (true, "204c77b9bd3304618383aef1a653ccfd1ec74177fd4f08fb7530c8147d3d338d"), looks := true }, kinds := [], alts := [], laidByText := true, laidKinds := [.data, .data, .data, .data, .sentinel, .sentinel, .pinned], laidTests := true, laidLooks := .later }
def BindAssertsCardSaid : Prop := Claim7.holds Tryz.pinned (.plain (OpenSpec.ofChange bindAssertsSpec)) bindAssertsCard

/-- THE TIED CARD OF 'affidavitlaw16.BindNarrows'. -/
def bindNarrowsCard : Claim7 := { stood := { row := bindNarrowsRow, standIns := [], harness := (true, "204c77b9bd3304618383aef1a653ccfd1ec74177fd4f08fb7530c8147d3d338d"), looks := true }, kinds := [], alts := [], laidByText := true, laidKinds := [.data, .data, .data, .data, .sentinel, .sentinel, .pinned], laidTests := true, laidLooks := .later }
def BindNarrowsCardSaid : Prop := Claim7.holds Tryz.pinned (.plain (OpenSpec.ofChange bindNarrowsSpec)) bindNarrowsCard

/-- THE TIED CARD OF 'affidavitlaw16.BindSums'. -/
def bindSumsCard : Claim7 := { stood := { row := bindSumsRow, standIns := [], harness := (true, "204c77b9bd3304618383aef1a653ccfd1ec74177fd4f08fb7530c8147d3d338d"), looks := true }, kinds := [], alts := [], laidByText := true, laidKinds := [.data, .data, .data, .data, .sentinel, .sentinel, .pinned], laidTests := true, laidLooks := .later }
def BindSumsCardSaid : Prop := Claim7.holds Tryz.pinned (.plain (OpenSpec.ofChange bindSumsSpec)) bindSumsCard

/-- THE TIED CARD OF 'affidavitlaw16.BindTotals'. -/
def bindTotalsCard : Claim7 := { stood := { row := bindTotalsRow, standIns := [], harness := (true, "204c77b9bd3304618383aef1a653ccfd1ec74177fd4f08fb7530c8147d3d338d"), looks := true }, kinds := [], alts := [], laidByText := true, laidKinds := [.data, .data, .data, .data, .sentinel, .sentinel, .pinned], laidTests := true, laidLooks := .later }
def BindTotalsCardSaid : Prop := Claim7.holds Tryz.pinned (.plain (OpenSpec.ofChange bindTotalsSpec)) bindTotalsCard

/-- THE SECOND FORM's CARD OF 'affidavitlaw16.BindUnits'. -/
def bindUnitsUptoCard : Claim7 := { stood := { row := bindUnitsUptoRow, standIns := [], harness := (true, "204c77b9bd3304618383aef1a653ccfd1ec74177fd4f08fb7530c8147d3d338d"), looks := true }, kinds := [], alts := [], laidByText := true, laidKinds := [.data, .data, .data, .data, .sentinel, .sentinel, .pinned], laidTests := true, laidLooks := .later }
def BindUnitsUptoCardSaid : Prop := Claim7.holds Tryz.pinned (.plain (OpenSpec.upto bindUnitsSpec)) bindUnitsUptoCard

/-- THE SECOND FORM's CARD OF 'affidavitlaw16.BindAsserts'. -/
def bindAssertsUptoCard : Claim7 := { stood := { row := bindAssertsUptoRow, standIns := [], harness := (true, "204c77b9bd3304618383aef1a653ccfd1ec74177fd4f08fb7530c8147d3d338d"), looks := true }, kinds := [], alts := [], laidByText := true, laidKinds := [.data, .data, .data, .data, .sentinel, .sentinel, .pinned], laidTests := true, laidLooks := .later }
def BindAssertsUptoCardSaid : Prop := Claim7.holds Tryz.pinned (.plain (OpenSpec.upto bindAssertsSpec)) bindAssertsUptoCard

/-- THE SECOND FORM's CARD OF 'affidavitlaw16.BindNarrows'. -/
def bindNarrowsUptoCard : Claim7 := { stood := { row := bindNarrowsUptoRow, standIns := [], harness := (true, "204c77b9bd3304618383aef1a653ccfd1ec74177fd4f08fb7530c8147d3d338d"), looks := true }, kinds := [], alts := [], laidByText := true, laidKinds := [.data, .data, .data, .data, .sentinel, .sentinel, .pinned], laidTests := true, laidLooks := .later }
def BindNarrowsUptoCardSaid : Prop := Claim7.holds Tryz.pinned (.plain (OpenSpec.upto bindNarrowsSpec)) bindNarrowsUptoCard

/-- THE SECOND FORM's CARD OF 'affidavitlaw16.BindSums'. -/
def bindSumsUptoCard : Claim7 := { stood := { row := bindSumsUptoRow, standIns := [], harness := (true, "204c77b9bd3304618383aef1a653ccfd1ec74177fd4f08fb7530c8147d3d338d"), looks := true }, kinds := [], alts := [], laidByText := true, laidKinds := [.data, .data, .data, .data, .sentinel, .sentinel, .pinned], laidTests := true, laidLooks := .later }
def BindSumsUptoCardSaid : Prop := Claim7.holds Tryz.pinned (.plain (OpenSpec.upto bindSumsSpec)) bindSumsUptoCard

/-- THE SECOND FORM's CARD OF 'affidavitlaw16.BindTotals'. -/
def bindTotalsUptoCard : Claim7 := { stood := { row := bindTotalsUptoRow, standIns := [], harness := (true, "204c77b9bd3304618383aef1a653ccfd1ec74177fd4f08fb7530c8147d3d338d"), looks := true }, kinds := [], alts := [], laidByText := true, laidKinds := [.data, .data, .data, .data, .sentinel, .sentinel, .pinned], laidTests := true, laidLooks := .later }
def BindTotalsUptoCardSaid : Prop := Claim7.holds Tryz.pinned (.plain (OpenSpec.upto bindTotalsSpec)) bindTotalsUptoCard
end Rows
end Go.Proofs.YtbajkglacfheiaaGreatDoor
