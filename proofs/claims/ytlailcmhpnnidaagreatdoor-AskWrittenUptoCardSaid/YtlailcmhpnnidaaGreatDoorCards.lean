/-
  DERIVED. GIVEN WITH THE SEED: THE CARDS: each row of YtlailcmhpnnidaaGreatDoorRows.lean that lists a variable, with what it lists TIED to the program's text (the seventh form; the later family's looks); each row that meets fmt, with fmt's text TOLD by the authors' own Lean function (tested against real Go, not proved from fmt's source: count such statements apart). THE CARD IS WHAT COUNTS. Prove the row's statement (the work); the ties are given (YtlailcmhpnnidaaGreatDoorTie.lean); close each card by the builder's one call (the guide's Derived/Test/ToyasCard.lean, 'card_holds'). Laid BY PROGRAM, IN A SANDBOX (cutbox-door.mjs). By AI agents, Wed Nov 11 2026. No macro, syntax, notation, axiom, sorry.
-/
import Derived.Test.YtlailcmhpnnidaaGreatDoorRows
import GoSem.ClaimSeven
namespace Go.Proofs.YtlailcmhpnnidaaGreatDoor
namespace Rows

/-- THE TIED CARD OF 'affidavitlaw14.AskCounts'. -/
def askCountsCard : Claim7 := { stood := { row := askCountsRow, standIns := [], harness := (true, "4729d62203b9e322ef19f63058b668f0db26b9491f55928806f6ef96ea5de3f5"), looks := true }, kinds := [], alts := [], laidByText := true, laidKinds := [.data, .data, .data, .data, .sentinel, .sentinel, .pinned], laidTests := true, laidLooks := .later }
def AskCountsCardSaid : Prop := Claim7.holds Tryz.pinned (.plain (OpenSpec.ofChange askCountsSpec)) askCountsCard

/-- THE TIED CARD OF 'affidavitlaw14.AskTells'. -/
def askTellsCard : Claim7 := { stood := { row := askTellsRow, standIns := [], harness := (true, "4729d62203b9e322ef19f63058b668f0db26b9491f55928806f6ef96ea5de3f5"), looks := true }, kinds := [], alts := [], laidByText := true, laidKinds := [.data, .data, .data, .data, .sentinel, .sentinel, .pinned], laidTests := true, laidLooks := .later }
def AskTellsCardSaid : Prop := Claim7.holds Tryz.pinned (.plain (OpenSpec.ofChange askTellsSpec)) askTellsCard

/-- THE TIED CARD OF 'affidavitlaw14.AskWritten'. -/
def askWrittenCard : Claim7 := { stood := { row := askWrittenRow, standIns := [], harness := (true, "4729d62203b9e322ef19f63058b668f0db26b9491f55928806f6ef96ea5de3f5"), looks := true }, kinds := [], alts := [], laidByText := true, laidKinds := [.data, .data, .data, .data, .sentinel, .sentinel, .pinned], laidTests := true, laidLooks := .later }
def AskWrittenCardSaid : Prop := Claim7.holds Tryz.pinned (.plain (OpenSpec.ofChange askWrittenSpec)) askWrittenCard

/-- THE SECOND FORM's CARD OF 'affidavitlaw14.AskCounts'. -/
def askCountsUptoCard : Claim7 := { stood := { row := askCountsUptoRow, standIns := [], harness := (true, "4729d62203b9e322ef19f63058b668f0db26b9491f55928806f6ef96ea5de3f5"), looks := true }, kinds := [], alts := [], laidByText := true, laidKinds := [.data, .data, .data, .data, .sentinel, .sentinel, .pinned], laidTests := true, laidLooks := .later }
def AskCountsUptoCardSaid : Prop := Claim7.holds Tryz.pinned (.plain (OpenSpec.upto askCountsSpec)) askCountsUptoCard

/-- THE SECOND FORM's CARD OF 'affidavitlaw14.AskTells'. -/
def askTellsUptoCard : Claim7 := { stood := { row := askTellsUptoRow, standIns := [], harness := (true, "4729d62203b9e322ef19f63058b668f0db26b9491f55928806f6ef96ea5de3f5"), looks := true }, kinds := [], alts := [], laidByText := true, laidKinds := [.data, .data, .data, .data, .sentinel, .sentinel, .pinned], laidTests := true, laidLooks := .later }
def AskTellsUptoCardSaid : Prop := Claim7.holds Tryz.pinned (.plain (OpenSpec.upto askTellsSpec)) askTellsUptoCard

/-- THE SECOND FORM's CARD OF 'affidavitlaw14.AskWritten'. -/
def askWrittenUptoCard : Claim7 := { stood := { row := askWrittenUptoRow, standIns := [], harness := (true, "4729d62203b9e322ef19f63058b668f0db26b9491f55928806f6ef96ea5de3f5"), looks := true }, kinds := [], alts := [], laidByText := true, laidKinds := [.data, .data, .data, .data, .sentinel, .sentinel, .pinned], laidTests := true, laidLooks := .later }
def AskWrittenUptoCardSaid : Prop := Claim7.holds Tryz.pinned (.plain (OpenSpec.upto askWrittenSpec)) askWrittenUptoCard
end Rows
end Go.Proofs.YtlailcmhpnnidaaGreatDoor
