/-
  DERIVED. GIVEN WITH THE SEED: THE CARDS: each row of YtfhchnkoggdilaaGreatDoorRows.lean that lists a variable, with what it lists TIED to the program's text (the seventh form; the later family's looks); each row that meets fmt, with fmt's text TOLD by the authors' own Lean function (tested against real Go, not proved from fmt's source: count such statements apart). THE CARD IS WHAT COUNTS. Prove the row's statement (the work); the ties are given (YtfhchnkoggdilaaGreatDoorTie.lean); close each card by the builder's one call (the guide's Derived/Test/ToyasCard.lean, 'card_holds'). Laid BY PROGRAM, IN A SANDBOX (cutbox-door.mjs). By AI agents, Wed Nov 11 2026. No macro, syntax, notation, axiom, sorry.
-/
import Derived.Test.YtfhchnkoggdilaaGreatDoorRows
import GoSem.ClaimSeven
namespace Go.Proofs.YtfhchnkoggdilaaGreatDoor
namespace Rows

/-- THE TIED CARD OF 'affidavitlaw13.PointerFinds'. -/
def pointerFindsCard : Claim7 := { stood := { row := pointerFindsRow, standIns := [], harness := (true, "ec2d6a4cf3ab1062cf379014b882b6d63ebbf10772961bd33e3a47d8e6d379ec"), looks := true }, kinds := [], alts := [], laidByText := true, laidKinds := [.data, .data, .data, .data, .sentinel, .sentinel, .pinned], laidTests := true, laidLooks := .later }
def PointerFindsCardSaid : Prop := Claim7.holds Tryz.pinned (.plain (OpenSpec.ofChange pointerFindsSpec)) pointerFindsCard

/-- THE TIED CARD OF 'affidavitlaw13.PointerLooks'. -/
def pointerLooksCard : Claim7 := { stood := { row := pointerLooksRow, standIns := [], harness := (true, "ec2d6a4cf3ab1062cf379014b882b6d63ebbf10772961bd33e3a47d8e6d379ec"), looks := true }, kinds := [], alts := [], laidByText := true, laidKinds := [.data, .data, .data, .data, .sentinel, .sentinel, .pinned], laidTests := true, laidLooks := .later }
def PointerLooksCardSaid : Prop := Claim7.holds Tryz.pinned (.plain (OpenSpec.ofChange pointerLooksSpec)) pointerLooksCard

/-- THE SECOND FORM's CARD OF 'affidavitlaw13.PointerFinds'. -/
def pointerFindsUptoCard : Claim7 := { stood := { row := pointerFindsUptoRow, standIns := [], harness := (true, "ec2d6a4cf3ab1062cf379014b882b6d63ebbf10772961bd33e3a47d8e6d379ec"), looks := true }, kinds := [], alts := [], laidByText := true, laidKinds := [.data, .data, .data, .data, .sentinel, .sentinel, .pinned], laidTests := true, laidLooks := .later }
def PointerFindsUptoCardSaid : Prop := Claim7.holds Tryz.pinned (.plain (OpenSpec.upto pointerFindsSpec)) pointerFindsUptoCard

/-- THE SECOND FORM's CARD OF 'affidavitlaw13.PointerLooks'. -/
def pointerLooksUptoCard : Claim7 := { stood := { row := pointerLooksUptoRow, standIns := [], harness := (true, "ec2d6a4cf3ab1062cf379014b882b6d63ebbf10772961bd33e3a47d8e6d379ec"), looks := true }, kinds := [], alts := [], laidByText := true, laidKinds := [.data, .data, .data, .data, .sentinel, .sentinel, .pinned], laidTests := true, laidLooks := .later }
def PointerLooksUptoCardSaid : Prop := Claim7.holds Tryz.pinned (.plain (OpenSpec.upto pointerLooksSpec)) pointerLooksUptoCard
end Rows
end Go.Proofs.YtfhchnkoggdilaaGreatDoor
