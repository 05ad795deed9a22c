/-
  DERIVED. GIVEN WITH THE SEED: THE CARDS: each row of YtnondmeafilplaaGreatDoorRows.lean that lists a variable, with what it lists TIED to the program's text (the seventh form; the later family's looks); each row that meets fmt, with fmt's text TOLD by the authors' own Lean function (tested against real Go, not proved from fmt's source: count such statements apart). THE CARD IS WHAT COUNTS. Prove the row's statement (the work); the ties are given (YtnondmeafilplaaGreatDoorTie.lean); close each card by the builder's one call (the guide's Derived/Test/ToyasCard.lean, 'card_holds'). Laid BY PROGRAM, IN A SANDBOX (cutbox-door.mjs). By AI agents, Wed Nov 11 2026. No macro, syntax, notation, axiom, sorry.
-/
import Derived.Test.YtnondmeafilplaaGreatDoorRows
import GoSem.ClaimSeven
namespace Go.Proofs.YtnondmeafilplaaGreatDoor
namespace Rows

/-- THE TIED CARD OF 'affidavitlaw25.ClaimsWorsts'. -/
def claimsWorstsCard : Claim7 := { stood := { row := claimsWorstsRow, standIns := [], harness := (true, "5a7d676437d53730f50645e6301d7459b74ed75fe390a4bdb64ba73dd5972a89"), looks := true }, kinds := [], alts := [], laidByText := true, laidKinds := [.data, .data, .data], laidTests := true, laidLooks := .later }
def ClaimsWorstsCardSaid : Prop := Claim7.holds Tryz.pinned (.plain (OpenSpec.ofChange claimsWorstsSpec)) claimsWorstsCard

/-- THE TIED CARD OF 'affidavitlaw25.ClaimsWithins'. -/
def claimsWithinsCard : Claim7 := { stood := { row := claimsWithinsRow, standIns := [], harness := (true, "5a7d676437d53730f50645e6301d7459b74ed75fe390a4bdb64ba73dd5972a89"), looks := true }, kinds := [], alts := [], laidByText := true, laidKinds := [.data, .data, .data, .data, .pinned], laidTests := true, laidLooks := .later }
def ClaimsWithinsCardSaid : Prop := Claim7.holds Tryz.pinned (.plain (OpenSpec.ofChange claimsWithinsSpec)) claimsWithinsCard

/-- THE TIED CARD OF 'affidavitlaw25.ClaimsNarrows'. -/
def claimsNarrowsCard : Claim7 := { stood := { row := claimsNarrowsRow, standIns := [], harness := (true, "5a7d676437d53730f50645e6301d7459b74ed75fe390a4bdb64ba73dd5972a89"), looks := true }, kinds := [], alts := [], laidByText := true, laidKinds := [.data, .data, .data, .data, .pinned], laidTests := true, laidLooks := .later }
def ClaimsNarrowsCardSaid : Prop := Claim7.holds Tryz.pinned (.plain (OpenSpec.ofChange claimsNarrowsSpec)) claimsNarrowsCard

/-- THE TIED CARD OF 'affidavitlaw25.ClaimsJudges'. -/
def claimsJudgesCard : Claim7 := { stood := { row := claimsJudgesRow, standIns := [], harness := (true, "5a7d676437d53730f50645e6301d7459b74ed75fe390a4bdb64ba73dd5972a89"), looks := true }, kinds := [], alts := [], laidByText := true, laidKinds := [.data, .data, .data], laidTests := true, laidLooks := .later }
def ClaimsJudgesCardSaid : Prop := Claim7.holds Tryz.pinned (.plain (OpenSpec.ofChange claimsJudgesSpec)) claimsJudgesCard

/-- THE TIED CARD OF 'affidavitlaw25.ClaimsTimes'. -/
def claimsTimesCard : Claim7 := { stood := { row := claimsTimesRow, standIns := [], harness := (true, "5a7d676437d53730f50645e6301d7459b74ed75fe390a4bdb64ba73dd5972a89"), looks := true }, kinds := [], alts := [], laidByText := true, laidKinds := [.data, .data, .data], laidTests := true, laidLooks := .later }
def ClaimsTimesCardSaid : Prop := Claim7.holds Tryz.pinned (.plain (OpenSpec.ofChange claimsTimesSpec)) claimsTimesCard

/-- THE SECOND FORM's CARD OF 'affidavitlaw25.ClaimsWorsts'. -/
def claimsWorstsUptoCard : Claim7 := { stood := { row := claimsWorstsUptoRow, standIns := [], harness := (true, "5a7d676437d53730f50645e6301d7459b74ed75fe390a4bdb64ba73dd5972a89"), looks := true }, kinds := [], alts := [], laidByText := true, laidKinds := [.data, .data, .data], laidTests := true, laidLooks := .later }
def ClaimsWorstsUptoCardSaid : Prop := Claim7.holds Tryz.pinned (.plain (OpenSpec.upto claimsWorstsSpec)) claimsWorstsUptoCard

/-- THE SECOND FORM's CARD OF 'affidavitlaw25.ClaimsWithins'. -/
def claimsWithinsUptoCard : Claim7 := { stood := { row := claimsWithinsUptoRow, standIns := [], harness := (true, "5a7d676437d53730f50645e6301d7459b74ed75fe390a4bdb64ba73dd5972a89"), looks := true }, kinds := [], alts := [], laidByText := true, laidKinds := [.data, .data, .data, .data, .pinned], laidTests := true, laidLooks := .later }
def ClaimsWithinsUptoCardSaid : Prop := Claim7.holds Tryz.pinned (.plain (OpenSpec.upto claimsWithinsSpec)) claimsWithinsUptoCard

/-- THE SECOND FORM's CARD OF 'affidavitlaw25.ClaimsNarrows'. -/
def claimsNarrowsUptoCard : Claim7 := { stood := { row := claimsNarrowsUptoRow, standIns := [], harness := (true, "5a7d676437d53730f50645e6301d7459b74ed75fe390a4bdb64ba73dd5972a89"), looks := true }, kinds := [], alts := [], laidByText := true, laidKinds := [.data, .data, .data, .data, .pinned], laidTests := true, laidLooks := .later }
def ClaimsNarrowsUptoCardSaid : Prop := Claim7.holds Tryz.pinned (.plain (OpenSpec.upto claimsNarrowsSpec)) claimsNarrowsUptoCard

/-- THE SECOND FORM's CARD OF 'affidavitlaw25.ClaimsJudges'. -/
def claimsJudgesUptoCard : Claim7 := { stood := { row := claimsJudgesUptoRow, standIns := [], harness := (true, "5a7d676437d53730f50645e6301d7459b74ed75fe390a4bdb64ba73dd5972a89"), looks := true }, kinds := [], alts := [], laidByText := true, laidKinds := [.data, .data, .data], laidTests := true, laidLooks := .later }
def ClaimsJudgesUptoCardSaid : Prop := Claim7.holds Tryz.pinned (.plain (OpenSpec.upto claimsJudgesSpec)) claimsJudgesUptoCard

/-- THE SECOND FORM's CARD OF 'affidavitlaw25.ClaimsTimes'. -/
def claimsTimesUptoCard : Claim7 := { stood := { row := claimsTimesUptoRow, standIns := [], harness := (true, "5a7d676437d53730f50645e6301d7459b74ed75fe390a4bdb64ba73dd5972a89"), looks := true }, kinds := [], alts := [], laidByText := true, laidKinds := [.data, .data, .data], laidTests := true, laidLooks := .later }
def ClaimsTimesUptoCardSaid : Prop := Claim7.holds Tryz.pinned (.plain (OpenSpec.upto claimsTimesSpec)) claimsTimesUptoCard
end Rows
end Go.Proofs.YtnondmeafilplaaGreatDoor
