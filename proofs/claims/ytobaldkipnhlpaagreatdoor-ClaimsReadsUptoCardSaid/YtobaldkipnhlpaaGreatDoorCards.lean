/-
  DERIVED. GIVEN WITH THE SEED: THE CARDS: each row of YtobaldkipnhlpaaGreatDoorRows.lean that lists a variable, with what it lists TIED to the program's text (the seventh form; the later family's looks); each row that meets fmt, with fmt's text TOLD by the authors' own Lean function (tested against real Go, not proved from fmt's source: count such statements apart). THE CARD IS WHAT COUNTS. Prove the row's statement (the work); the ties are given (YtobaldkipnhlpaaGreatDoorTie.lean); close each card by the builder's one call (the guide's Derived/Test/ToyasCard.lean, 'card_holds'). Laid BY PROGRAM, IN A SANDBOX (cutbox-door.mjs). By AI agents, Wed Nov 11 2026. No macro, syntax, notation, axiom, sorry.
-/
import Derived.Test.YtobaldkipnhlpaaGreatDoorRows
import GoSem.ClaimSeven
namespace Go.Proofs.YtobaldkipnhlpaaGreatDoor
namespace Rows

/-- THE TIED CARD OF 'affidavitlaw25.ClaimsReads'. -/
def claimsReadsCard : Claim7 := { stood := { row := claimsReadsRow, standIns := [], harness := (true, "d336651c52bfc37c614d0c74804a9d5844b6f618c62a2bbac41544d3ab6cffda"), looks := true }, kinds := [], alts := [], laidByText := true, laidKinds := [.data, .data, .data], laidTests := true, laidLooks := .later }
def ClaimsReadsCardSaid : Prop := Claim7.holds Tryz.pinned (.plain (OpenSpec.ofChange claimsReadsSpec)) claimsReadsCard

/-- THE SECOND FORM's CARD OF 'affidavitlaw25.ClaimsReads'. -/
def claimsReadsUptoCard : Claim7 := { stood := { row := claimsReadsUptoRow, standIns := [], harness := (true, "d336651c52bfc37c614d0c74804a9d5844b6f618c62a2bbac41544d3ab6cffda"), looks := true }, kinds := [], alts := [], laidByText := true, laidKinds := [.data, .data, .data], laidTests := true, laidLooks := .later }
def ClaimsReadsUptoCardSaid : Prop := Claim7.holds Tryz.pinned (.plain (OpenSpec.upto claimsReadsSpec)) claimsReadsUptoCard
end Rows
end Go.Proofs.YtobaldkipnhlpaaGreatDoor
