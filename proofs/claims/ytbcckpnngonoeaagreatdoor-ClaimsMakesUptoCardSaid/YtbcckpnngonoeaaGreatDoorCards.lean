/-
  DERIVED. GIVEN WITH THE SEED: THE CARDS: each row of YtbcckpnngonoeaaGreatDoorRows.lean that lists a variable, with what it lists TIED to the program's text (the seventh form; the later family's looks); each row that meets fmt, with fmt's text TOLD by the authors' own Lean function (tested against real Go, not proved from fmt's source: count such statements apart). THE CARD IS WHAT COUNTS. Prove the row's statement (the work); the ties are given (YtbcckpnngonoeaaGreatDoorTie.lean); close each card by the builder's one call (the guide's Derived/Test/ToyasCard.lean, 'card_holds'). Laid BY PROGRAM, IN A SANDBOX (cutbox-door.mjs). By AI agents, Wed Nov 11 2026. No macro, syntax, notation, axiom, sorry.
-/
import Derived.Test.YtbcckpnngonoeaaGreatDoorRows
import GoSem.ClaimSeven
namespace Go.Proofs.YtbcckpnngonoeaaGreatDoor
namespace Rows

/-- THE TIED CARD OF 'affidavitlaw25.ClaimsAsserts'. -/
def claimsAssertsCard : Claim7 := { stood := { row := claimsAssertsRow, standIns := [], harness := (true, "d12f21c037df7091989ffb0ca7e8902b57940818c8a13312cab22f26d0ecfe5e"), looks := true }, kinds := [], alts := [], laidByText := true, laidKinds := [.data, .data, .data, .handle], laidTests := true, laidLooks := .later }
def ClaimsAssertsCardSaid : Prop := Claim7.holds Tryz.pinned (.plain (OpenSpec.ofChange claimsAssertsSpec)) claimsAssertsCard

/-- THE TIED CARD OF 'affidavitlaw25.ClaimsBack'. -/
def claimsBackCard : Claim7 := { stood := { row := claimsBackRow, standIns := [], harness := (true, "d12f21c037df7091989ffb0ca7e8902b57940818c8a13312cab22f26d0ecfe5e"), looks := true }, kinds := [], alts := [], laidByText := true, laidKinds := [.data, .data, .data], laidTests := true, laidLooks := .later }
def ClaimsBackCardSaid : Prop := Claim7.holds Tryz.pinned (.plain (OpenSpec.ofChange claimsBackSpec)) claimsBackCard

/-- THE TIED CARD OF 'affidavitlaw25.ClaimsReads'. -/
def claimsReadsCard : Claim7 := { stood := { row := claimsReadsRow, standIns := [], harness := (true, "d12f21c037df7091989ffb0ca7e8902b57940818c8a13312cab22f26d0ecfe5e"), looks := true }, kinds := [], alts := [], laidByText := true, laidKinds := [.data, .data, .data], laidTests := true, laidLooks := .later }
def ClaimsReadsCardSaid : Prop := Claim7.holds Tryz.pinned (.plain (OpenSpec.ofChange claimsReadsSpec)) claimsReadsCard

/-- THE TIED CARD OF 'affidavitlaw25.ClaimsMakes'. -/
def claimsMakesCard : Claim7 := { stood := { row := claimsMakesRow, standIns := [], harness := (true, "d12f21c037df7091989ffb0ca7e8902b57940818c8a13312cab22f26d0ecfe5e"), looks := true }, kinds := [], alts := [], laidByText := true, laidKinds := [.data, .data, .data], laidTests := true, laidLooks := .later }
def ClaimsMakesCardSaid : Prop := Claim7.holds Tryz.pinned (.plain (OpenSpec.ofChange claimsMakesSpec)) claimsMakesCard

/-- THE SECOND FORM's CARD OF 'affidavitlaw25.ClaimsAsserts'. -/
def claimsAssertsUptoCard : Claim7 := { stood := { row := claimsAssertsUptoRow, standIns := [], harness := (true, "d12f21c037df7091989ffb0ca7e8902b57940818c8a13312cab22f26d0ecfe5e"), looks := true }, kinds := [], alts := [], laidByText := true, laidKinds := [.data, .data, .data, .handle], laidTests := true, laidLooks := .later }
def ClaimsAssertsUptoCardSaid : Prop := Claim7.holds Tryz.pinned (.plain (OpenSpec.upto claimsAssertsSpec)) claimsAssertsUptoCard

/-- THE SECOND FORM's CARD OF 'affidavitlaw25.ClaimsBack'. -/
def claimsBackUptoCard : Claim7 := { stood := { row := claimsBackUptoRow, standIns := [], harness := (true, "d12f21c037df7091989ffb0ca7e8902b57940818c8a13312cab22f26d0ecfe5e"), looks := true }, kinds := [], alts := [], laidByText := true, laidKinds := [.data, .data, .data], laidTests := true, laidLooks := .later }
def ClaimsBackUptoCardSaid : Prop := Claim7.holds Tryz.pinned (.plain (OpenSpec.upto claimsBackSpec)) claimsBackUptoCard

/-- THE SECOND FORM's CARD OF 'affidavitlaw25.ClaimsReads'. -/
def claimsReadsUptoCard : Claim7 := { stood := { row := claimsReadsUptoRow, standIns := [], harness := (true, "d12f21c037df7091989ffb0ca7e8902b57940818c8a13312cab22f26d0ecfe5e"), looks := true }, kinds := [], alts := [], laidByText := true, laidKinds := [.data, .data, .data], laidTests := true, laidLooks := .later }
def ClaimsReadsUptoCardSaid : Prop := Claim7.holds Tryz.pinned (.plain (OpenSpec.upto claimsReadsSpec)) claimsReadsUptoCard

/-- THE SECOND FORM's CARD OF 'affidavitlaw25.ClaimsMakes'. -/
def claimsMakesUptoCard : Claim7 := { stood := { row := claimsMakesUptoRow, standIns := [], harness := (true, "d12f21c037df7091989ffb0ca7e8902b57940818c8a13312cab22f26d0ecfe5e"), looks := true }, kinds := [], alts := [], laidByText := true, laidKinds := [.data, .data, .data], laidTests := true, laidLooks := .later }
def ClaimsMakesUptoCardSaid : Prop := Claim7.holds Tryz.pinned (.plain (OpenSpec.upto claimsMakesSpec)) claimsMakesUptoCard
end Rows
end Go.Proofs.YtbcckpnngonoeaaGreatDoor
