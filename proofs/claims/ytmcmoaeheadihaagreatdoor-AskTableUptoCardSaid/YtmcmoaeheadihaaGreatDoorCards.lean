/-
  DERIVED. GIVEN WITH THE SEED: THE CARDS: each row of YtmcmoaeheadihaaGreatDoorRows.lean that lists a variable, with what it lists TIED to the program's text (the seventh form; the later family's looks); each row that meets fmt, with fmt's text TOLD by the authors' own Lean function (tested against real Go, not proved from fmt's source: count such statements apart). THE CARD IS WHAT COUNTS. Prove the row's statement (the work); the ties are given (YtmcmoaeheadihaaGreatDoorTie.lean); close each card by the builder's one call (the guide's Derived/Test/ToyasCard.lean, 'card_holds'). Laid BY PROGRAM, IN A SANDBOX (cutbox-door.mjs). By AI agents, Wed Nov 11 2026. No macro, syntax, notation, axiom, sorry.
-/
import Derived.Test.YtmcmoaeheadihaaGreatDoorRows
import GoSem.ClaimSeven
namespace Go.Proofs.YtmcmoaeheadihaaGreatDoor
namespace Rows

/-- THE TIED CARD OF 'affidavitlaw13.PointerFinds'. -/
def pointerFindsCard : Claim7 := { stood := { row := pointerFindsRow, standIns := [], harness := (true, "1b6a63fee8d9fac1eb7fd184bb9a5ea5ac2482cbdc063a2566d1bbf1d75cb286"), looks := true }, kinds := [], alts := [], laidByText := true, laidKinds := [.data, .data, .data, .data, .sentinel, .sentinel, .pinned], laidTests := true, laidLooks := .later }
def PointerFindsCardSaid : Prop := Claim7.holds Tryz.pinned (.plain (OpenSpec.ofChange pointerFindsSpec)) pointerFindsCard

/-- THE TIED CARD OF 'affidavitlaw14.AskTable'. -/
def askTableCard : Claim7 := { stood := { row := askTableRow, standIns := [], harness := (true, "1b6a63fee8d9fac1eb7fd184bb9a5ea5ac2482cbdc063a2566d1bbf1d75cb286"), looks := true }, kinds := [], alts := [], laidByText := true, laidKinds := [.data, .data, .data, .data, .sentinel, .sentinel, .pinned], laidTests := true, laidLooks := .later }
def AskTableCardSaid : Prop := Claim7.holds Tryz.pinned (.plain (OpenSpec.ofChange askTableSpec)) askTableCard

/-- THE TIED CARD OF 'affidavitlaw14.AskWritten'. -/
def askWrittenCard : Claim7 := { stood := { row := askWrittenRow, standIns := [], harness := (true, "1b6a63fee8d9fac1eb7fd184bb9a5ea5ac2482cbdc063a2566d1bbf1d75cb286"), looks := true }, kinds := [], alts := [], laidByText := true, laidKinds := [.data, .data, .data, .data, .sentinel, .sentinel, .pinned], laidTests := true, laidLooks := .later }
def AskWrittenCardSaid : Prop := Claim7.holds Tryz.pinned (.plain (OpenSpec.ofChange askWrittenSpec)) askWrittenCard

/-- THE TIED CARD OF 'affidavitlaw14.AskCounts'. -/
def askCountsCard : Claim7 := { stood := { row := askCountsRow, standIns := [], harness := (true, "1b6a63fee8d9fac1eb7fd184bb9a5ea5ac2482cbdc063a2566d1bbf1d75cb286"), looks := true }, kinds := [], alts := [], laidByText := true, laidKinds := [.data, .data, .data, .data, .sentinel, .sentinel, .pinned], laidTests := true, laidLooks := .later }
def AskCountsCardSaid : Prop := Claim7.holds Tryz.pinned (.plain (OpenSpec.ofChange askCountsSpec)) askCountsCard

/-- THE TIED CARD OF 'affidavitlaw14.AskTells'. -/
def askTellsCard : Claim7 := { stood := { row := askTellsRow, standIns := [], harness := (true, "1b6a63fee8d9fac1eb7fd184bb9a5ea5ac2482cbdc063a2566d1bbf1d75cb286"), looks := true }, kinds := [], alts := [], laidByText := true, laidKinds := [.data, .data, .data, .data, .sentinel, .sentinel, .pinned], laidTests := true, laidLooks := .later }
def AskTellsCardSaid : Prop := Claim7.holds Tryz.pinned (.plain (OpenSpec.ofChange askTellsSpec)) askTellsCard

/-- THE TIED CARD OF 'affidavitlaw25.ClaimsReads'. -/
def claimsReadsCard : Claim7 := { stood := { row := claimsReadsRow, standIns := [], harness := (true, "1b6a63fee8d9fac1eb7fd184bb9a5ea5ac2482cbdc063a2566d1bbf1d75cb286"), looks := true }, kinds := [], alts := [], laidByText := true, laidKinds := [.data, .data, .data], laidTests := true, laidLooks := .later }
def ClaimsReadsCardSaid : Prop := Claim7.holds Tryz.pinned (.plain (OpenSpec.ofChange claimsReadsSpec)) claimsReadsCard

/-- THE TIED CARD OF 'affidavitlaw25.ClaimsMakes'. -/
def claimsMakesCard : Claim7 := { stood := { row := claimsMakesRow, standIns := [], harness := (true, "1b6a63fee8d9fac1eb7fd184bb9a5ea5ac2482cbdc063a2566d1bbf1d75cb286"), looks := true }, kinds := [], alts := [], laidByText := true, laidKinds := [.data, .data, .data], laidTests := true, laidLooks := .later }
def ClaimsMakesCardSaid : Prop := Claim7.holds Tryz.pinned (.plain (OpenSpec.ofChange claimsMakesSpec)) claimsMakesCard

/-- THE TIED CARD OF 'affidavitlaw25.ClaimsBack'. -/
def claimsBackCard : Claim7 := { stood := { row := claimsBackRow, standIns := [], harness := (true, "1b6a63fee8d9fac1eb7fd184bb9a5ea5ac2482cbdc063a2566d1bbf1d75cb286"), looks := true }, kinds := [], alts := [], laidByText := true, laidKinds := [.data, .data, .data], laidTests := true, laidLooks := .later }
def ClaimsBackCardSaid : Prop := Claim7.holds Tryz.pinned (.plain (OpenSpec.ofChange claimsBackSpec)) claimsBackCard

/-- THE TIED CARD OF 'affidavitlaw25.ClaimsAsserts'. -/
def claimsAssertsCard : Claim7 := { stood := { row := claimsAssertsRow, standIns := [], harness := (true, "1b6a63fee8d9fac1eb7fd184bb9a5ea5ac2482cbdc063a2566d1bbf1d75cb286"), looks := true }, kinds := [], alts := [], laidByText := true, laidKinds := [.data, .data, .data, .handle], laidTests := true, laidLooks := .later }
def ClaimsAssertsCardSaid : Prop := Claim7.holds Tryz.pinned (.plain (OpenSpec.ofChange claimsAssertsSpec)) claimsAssertsCard

/-- THE SECOND FORM's CARD OF 'affidavitlaw13.PointerFinds'. -/
def pointerFindsUptoCard : Claim7 := { stood := { row := pointerFindsUptoRow, standIns := [], harness := (true, "1b6a63fee8d9fac1eb7fd184bb9a5ea5ac2482cbdc063a2566d1bbf1d75cb286"), looks := true }, kinds := [], alts := [], laidByText := true, laidKinds := [.data, .data, .data, .data, .sentinel, .sentinel, .pinned], laidTests := true, laidLooks := .later }
def PointerFindsUptoCardSaid : Prop := Claim7.holds Tryz.pinned (.plain (OpenSpec.upto pointerFindsSpec)) pointerFindsUptoCard

/-- THE SECOND FORM's CARD OF 'affidavitlaw14.AskTable'. -/
def askTableUptoCard : Claim7 := { stood := { row := askTableUptoRow, standIns := [], harness := (true, "1b6a63fee8d9fac1eb7fd184bb9a5ea5ac2482cbdc063a2566d1bbf1d75cb286"), looks := true }, kinds := [], alts := [], laidByText := true, laidKinds := [.data, .data, .data, .data, .sentinel, .sentinel, .pinned], laidTests := true, laidLooks := .later }
def AskTableUptoCardSaid : Prop := Claim7.holds Tryz.pinned (.plain (OpenSpec.upto askTableSpec)) askTableUptoCard

/-- THE SECOND FORM's CARD OF 'affidavitlaw14.AskWritten'. -/
def askWrittenUptoCard : Claim7 := { stood := { row := askWrittenUptoRow, standIns := [], harness := (true, "1b6a63fee8d9fac1eb7fd184bb9a5ea5ac2482cbdc063a2566d1bbf1d75cb286"), looks := true }, kinds := [], alts := [], laidByText := true, laidKinds := [.data, .data, .data, .data, .sentinel, .sentinel, .pinned], laidTests := true, laidLooks := .later }
def AskWrittenUptoCardSaid : Prop := Claim7.holds Tryz.pinned (.plain (OpenSpec.upto askWrittenSpec)) askWrittenUptoCard

/-- THE SECOND FORM's CARD OF 'affidavitlaw14.AskCounts'. -/
def askCountsUptoCard : Claim7 := { stood := { row := askCountsUptoRow, standIns := [], harness := (true, "1b6a63fee8d9fac1eb7fd184bb9a5ea5ac2482cbdc063a2566d1bbf1d75cb286"), looks := true }, kinds := [], alts := [], laidByText := true, laidKinds := [.data, .data, .data, .data, .sentinel, .sentinel, .pinned], laidTests := true, laidLooks := .later }
def AskCountsUptoCardSaid : Prop := Claim7.holds Tryz.pinned (.plain (OpenSpec.upto askCountsSpec)) askCountsUptoCard

/-- THE SECOND FORM's CARD OF 'affidavitlaw14.AskTells'. -/
def askTellsUptoCard : Claim7 := { stood := { row := askTellsUptoRow, standIns := [], harness := (true, "1b6a63fee8d9fac1eb7fd184bb9a5ea5ac2482cbdc063a2566d1bbf1d75cb286"), looks := true }, kinds := [], alts := [], laidByText := true, laidKinds := [.data, .data, .data, .data, .sentinel, .sentinel, .pinned], laidTests := true, laidLooks := .later }
def AskTellsUptoCardSaid : Prop := Claim7.holds Tryz.pinned (.plain (OpenSpec.upto askTellsSpec)) askTellsUptoCard

/-- THE SECOND FORM's CARD OF 'affidavitlaw25.ClaimsReads'. -/
def claimsReadsUptoCard : Claim7 := { stood := { row := claimsReadsUptoRow, standIns := [], harness := (true, "1b6a63fee8d9fac1eb7fd184bb9a5ea5ac2482cbdc063a2566d1bbf1d75cb286"), looks := true }, kinds := [], alts := [], laidByText := true, laidKinds := [.data, .data, .data], laidTests := true, laidLooks := .later }
def ClaimsReadsUptoCardSaid : Prop := Claim7.holds Tryz.pinned (.plain (OpenSpec.upto claimsReadsSpec)) claimsReadsUptoCard

/-- THE SECOND FORM's CARD OF 'affidavitlaw25.ClaimsMakes'. -/
def claimsMakesUptoCard : Claim7 := { stood := { row := claimsMakesUptoRow, standIns := [], harness := (true, "1b6a63fee8d9fac1eb7fd184bb9a5ea5ac2482cbdc063a2566d1bbf1d75cb286"), looks := true }, kinds := [], alts := [], laidByText := true, laidKinds := [.data, .data, .data], laidTests := true, laidLooks := .later }
def ClaimsMakesUptoCardSaid : Prop := Claim7.holds Tryz.pinned (.plain (OpenSpec.upto claimsMakesSpec)) claimsMakesUptoCard

/-- THE SECOND FORM's CARD OF 'affidavitlaw25.ClaimsBack'. -/
def claimsBackUptoCard : Claim7 := { stood := { row := claimsBackUptoRow, standIns := [], harness := (true, "1b6a63fee8d9fac1eb7fd184bb9a5ea5ac2482cbdc063a2566d1bbf1d75cb286"), looks := true }, kinds := [], alts := [], laidByText := true, laidKinds := [.data, .data, .data], laidTests := true, laidLooks := .later }
def ClaimsBackUptoCardSaid : Prop := Claim7.holds Tryz.pinned (.plain (OpenSpec.upto claimsBackSpec)) claimsBackUptoCard

/-- THE SECOND FORM's CARD OF 'affidavitlaw25.ClaimsAsserts'. -/
def claimsAssertsUptoCard : Claim7 := { stood := { row := claimsAssertsUptoRow, standIns := [], harness := (true, "1b6a63fee8d9fac1eb7fd184bb9a5ea5ac2482cbdc063a2566d1bbf1d75cb286"), looks := true }, kinds := [], alts := [], laidByText := true, laidKinds := [.data, .data, .data, .handle], laidTests := true, laidLooks := .later }
def ClaimsAssertsUptoCardSaid : Prop := Claim7.holds Tryz.pinned (.plain (OpenSpec.upto claimsAssertsSpec)) claimsAssertsUptoCard
end Rows
end Go.Proofs.YtmcmoaeheadihaaGreatDoor
