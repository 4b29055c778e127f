/-
  DERIVED. GIVEN WITH THE SEED: THE CARDS: each row of YtognkiddigibnaaGreatDoorRows.lean that lists a variable, with what it lists TIED to the program's text (the seventh form; the later family's looks); each row that meets fmt, with fmt's text TOLD by the authors' own Lean function (tested against real Go, not proved from fmt's source: count such statements apart). THE CARD IS WHAT COUNTS. Prove the row's statement (the work); the ties are given (YtognkiddigibnaaGreatDoorTie.lean); close each card by the builder's one call (the guide's Derived/Test/ToyasCard.lean, 'card_holds'). Laid BY PROGRAM, IN A SANDBOX (cutbox-door.mjs). By AI agents, Wed Nov 11 2026. No macro, syntax, notation, axiom, sorry.
-/
import Derived.Test.YtognkiddigibnaaGreatDoorRows
import GoSem.ClaimSeven
namespace Go.Proofs.YtognkiddigibnaaGreatDoor
namespace Rows

/-- THE TIED CARD OF 'quadratlaw15.ListingInputs'. -/
def listingInputsCard : Claim7 := { stood := { row := listingInputsRow, standIns := [], harness := (true, "ba4b86a48aef375513d90f5518d4890ef424e1674046048a51a812d680fc9f86"), looks := true }, kinds := [], alts := [], laidByText := true, laidKinds := [.data, .data, .data, .data, .sentinel, .sentinel, .pinned], laidTests := true, laidLooks := .later }
def ListingInputsCardSaid : Prop := Claim7.holds Tryz.pinned (.plain (OpenSpec.ofChange listingInputsSpec)) listingInputsCard

/-- THE TIED CARD OF 'quadratlaw15.ListingNulls'. -/
def listingNullsCard : Claim7 := { stood := { row := listingNullsRow, standIns := [], harness := (true, "ba4b86a48aef375513d90f5518d4890ef424e1674046048a51a812d680fc9f86"), looks := true }, kinds := [], alts := [], laidByText := true, laidKinds := [.data, .data, .data, .data, .sentinel, .sentinel, .pinned], laidTests := true, laidLooks := .later }
def ListingNullsCardSaid : Prop := Claim7.holds Tryz.pinned (.plain (OpenSpec.ofChange listingNullsSpec)) listingNullsCard

/-- THE TIED CARD OF 'quadratlaw15.ListingOnes'. -/
def listingOnesCard : Claim7 := { stood := { row := listingOnesRow, standIns := [], harness := (true, "ba4b86a48aef375513d90f5518d4890ef424e1674046048a51a812d680fc9f86"), looks := true }, kinds := [], alts := [], laidByText := true, laidKinds := [.data, .data, .data, .data, .sentinel, .sentinel, .pinned], laidTests := true, laidLooks := .later }
def ListingOnesCardSaid : Prop := Claim7.holds Tryz.pinned (.plain (OpenSpec.ofChange listingOnesSpec)) listingOnesCard

/-- THE TIED CARD OF 'quadratlaw15.ListingCounts'. -/
def listingCountsCard : Claim7 := { stood := { row := listingCountsRow, standIns := [], harness := (true, "ba4b86a48aef375513d90f5518d4890ef424e1674046048a51a812d680fc9f86"), looks := true }, kinds := [], alts := [], laidByText := true, laidKinds := [.data, .data, .data, .data, .sentinel, .sentinel, .pinned], laidTests := true, laidLooks := .later }
def ListingCountsCardSaid : Prop := Claim7.holds Tryz.pinned (.plain (OpenSpec.ofChange listingCountsSpec)) listingCountsCard

/-- THE TIED CARD OF 'quadratlaw15.ListingReads'. -/
def listingReadsCard : Claim7 := { stood := { row := listingReadsRow, standIns := [], harness := (true, "ba4b86a48aef375513d90f5518d4890ef424e1674046048a51a812d680fc9f86"), looks := true }, kinds := [], alts := [], laidByText := true, laidKinds := [.data, .data, .data, .data, .sentinel, .sentinel, .pinned], laidTests := true, laidLooks := .later }
def ListingReadsCardSaid : Prop := Claim7.holds Tryz.pinned (.plain (OpenSpec.ofChange listingReadsSpec)) listingReadsCard

/-- THE TIED CARD OF 'quadratlaw15.ListingOutputs'. -/
def listingOutputsCard : Claim7 := { stood := { row := listingOutputsRow, standIns := [], harness := (true, "ba4b86a48aef375513d90f5518d4890ef424e1674046048a51a812d680fc9f86"), looks := true }, kinds := [], alts := [], laidByText := true, laidKinds := [.data, .data, .data, .data, .sentinel, .sentinel, .pinned], laidTests := true, laidLooks := .later }
def ListingOutputsCardSaid : Prop := Claim7.holds Tryz.pinned (.plain (OpenSpec.ofChange listingOutputsSpec)) listingOutputsCard

/-- THE TIED CARD OF 'quadratlaw15.ListingBack'. -/
def listingBackCard : Claim7 := { stood := { row := listingBackRow, standIns := [], harness := (true, "ba4b86a48aef375513d90f5518d4890ef424e1674046048a51a812d680fc9f86"), looks := true }, kinds := [], alts := [], laidByText := true, laidKinds := [.data, .data, .data, .data, .sentinel, .sentinel, .pinned], laidTests := true, laidLooks := .later }
def ListingBackCardSaid : Prop := Claim7.holds Tryz.pinned (.plain (OpenSpec.ofChange listingBackSpec)) listingBackCard

/-- THE TIED CARD OF 'quadratlaw15.ListingWrites'. -/
def listingWritesCard : Claim7 := { stood := { row := listingWritesRow, standIns := [], harness := (true, "ba4b86a48aef375513d90f5518d4890ef424e1674046048a51a812d680fc9f86"), looks := true }, kinds := [], alts := [], laidByText := true, laidKinds := [.data, .data, .data, .data, .sentinel, .sentinel, .pinned], laidTests := true, laidLooks := .later }
def ListingWritesCardSaid : Prop := Claim7.holds Tryz.pinned (.plain (OpenSpec.ofChange listingWritesSpec)) listingWritesCard

/-- THE TIED CARD OF 'quadratlaw15.ListingNames'. -/
def listingNamesCard : Claim7 := { stood := { row := listingNamesRow, standIns := [], harness := (true, "ba4b86a48aef375513d90f5518d4890ef424e1674046048a51a812d680fc9f86"), looks := true }, kinds := [], alts := [], laidByText := true, laidKinds := [.data, .data, .data, .data, .sentinel, .sentinel, .pinned], laidTests := true, laidLooks := .later }
def ListingNamesCardSaid : Prop := Claim7.holds Tryz.pinned (.plain (OpenSpec.ofChange listingNamesSpec)) listingNamesCard

/-- THE SECOND FORM's CARD OF 'quadratlaw15.ListingInputs'. -/
def listingInputsUptoCard : Claim7 := { stood := { row := listingInputsUptoRow, standIns := [], harness := (true, "ba4b86a48aef375513d90f5518d4890ef424e1674046048a51a812d680fc9f86"), looks := true }, kinds := [], alts := [], laidByText := true, laidKinds := [.data, .data, .data, .data, .sentinel, .sentinel, .pinned], laidTests := true, laidLooks := .later }
def ListingInputsUptoCardSaid : Prop := Claim7.holds Tryz.pinned (.plain (OpenSpec.upto listingInputsSpec)) listingInputsUptoCard

/-- THE SECOND FORM's CARD OF 'quadratlaw15.ListingNulls'. -/
def listingNullsUptoCard : Claim7 := { stood := { row := listingNullsUptoRow, standIns := [], harness := (true, "ba4b86a48aef375513d90f5518d4890ef424e1674046048a51a812d680fc9f86"), looks := true }, kinds := [], alts := [], laidByText := true, laidKinds := [.data, .data, .data, .data, .sentinel, .sentinel, .pinned], laidTests := true, laidLooks := .later }
def ListingNullsUptoCardSaid : Prop := Claim7.holds Tryz.pinned (.plain (OpenSpec.upto listingNullsSpec)) listingNullsUptoCard

/-- THE SECOND FORM's CARD OF 'quadratlaw15.ListingOnes'. -/
def listingOnesUptoCard : Claim7 := { stood := { row := listingOnesUptoRow, standIns := [], harness := (true, "ba4b86a48aef375513d90f5518d4890ef424e1674046048a51a812d680fc9f86"), looks := true }, kinds := [], alts := [], laidByText := true, laidKinds := [.data, .data, .data, .data, .sentinel, .sentinel, .pinned], laidTests := true, laidLooks := .later }
def ListingOnesUptoCardSaid : Prop := Claim7.holds Tryz.pinned (.plain (OpenSpec.upto listingOnesSpec)) listingOnesUptoCard

/-- THE SECOND FORM's CARD OF 'quadratlaw15.ListingCounts'. -/
def listingCountsUptoCard : Claim7 := { stood := { row := listingCountsUptoRow, standIns := [], harness := (true, "ba4b86a48aef375513d90f5518d4890ef424e1674046048a51a812d680fc9f86"), looks := true }, kinds := [], alts := [], laidByText := true, laidKinds := [.data, .data, .data, .data, .sentinel, .sentinel, .pinned], laidTests := true, laidLooks := .later }
def ListingCountsUptoCardSaid : Prop := Claim7.holds Tryz.pinned (.plain (OpenSpec.upto listingCountsSpec)) listingCountsUptoCard

/-- THE SECOND FORM's CARD OF 'quadratlaw15.ListingReads'. -/
def listingReadsUptoCard : Claim7 := { stood := { row := listingReadsUptoRow, standIns := [], harness := (true, "ba4b86a48aef375513d90f5518d4890ef424e1674046048a51a812d680fc9f86"), looks := true }, kinds := [], alts := [], laidByText := true, laidKinds := [.data, .data, .data, .data, .sentinel, .sentinel, .pinned], laidTests := true, laidLooks := .later }
def ListingReadsUptoCardSaid : Prop := Claim7.holds Tryz.pinned (.plain (OpenSpec.upto listingReadsSpec)) listingReadsUptoCard

/-- THE SECOND FORM's CARD OF 'quadratlaw15.ListingOutputs'. -/
def listingOutputsUptoCard : Claim7 := { stood := { row := listingOutputsUptoRow, standIns := [], harness := (true, "ba4b86a48aef375513d90f5518d4890ef424e1674046048a51a812d680fc9f86"), looks := true }, kinds := [], alts := [], laidByText := true, laidKinds := [.data, .data, .data, .data, .sentinel, .sentinel, .pinned], laidTests := true, laidLooks := .later }
def ListingOutputsUptoCardSaid : Prop := Claim7.holds Tryz.pinned (.plain (OpenSpec.upto listingOutputsSpec)) listingOutputsUptoCard

/-- THE SECOND FORM's CARD OF 'quadratlaw15.ListingBack'. -/
def listingBackUptoCard : Claim7 := { stood := { row := listingBackUptoRow, standIns := [], harness := (true, "ba4b86a48aef375513d90f5518d4890ef424e1674046048a51a812d680fc9f86"), looks := true }, kinds := [], alts := [], laidByText := true, laidKinds := [.data, .data, .data, .data, .sentinel, .sentinel, .pinned], laidTests := true, laidLooks := .later }
def ListingBackUptoCardSaid : Prop := Claim7.holds Tryz.pinned (.plain (OpenSpec.upto listingBackSpec)) listingBackUptoCard

/-- THE SECOND FORM's CARD OF 'quadratlaw15.ListingWrites'. -/
def listingWritesUptoCard : Claim7 := { stood := { row := listingWritesUptoRow, standIns := [], harness := (true, "ba4b86a48aef375513d90f5518d4890ef424e1674046048a51a812d680fc9f86"), looks := true }, kinds := [], alts := [], laidByText := true, laidKinds := [.data, .data, .data, .data, .sentinel, .sentinel, .pinned], laidTests := true, laidLooks := .later }
def ListingWritesUptoCardSaid : Prop := Claim7.holds Tryz.pinned (.plain (OpenSpec.upto listingWritesSpec)) listingWritesUptoCard

/-- THE SECOND FORM's CARD OF 'quadratlaw15.ListingNames'. -/
def listingNamesUptoCard : Claim7 := { stood := { row := listingNamesUptoRow, standIns := [], harness := (true, "ba4b86a48aef375513d90f5518d4890ef424e1674046048a51a812d680fc9f86"), looks := true }, kinds := [], alts := [], laidByText := true, laidKinds := [.data, .data, .data, .data, .sentinel, .sentinel, .pinned], laidTests := true, laidLooks := .later }
def ListingNamesUptoCardSaid : Prop := Claim7.holds Tryz.pinned (.plain (OpenSpec.upto listingNamesSpec)) listingNamesUptoCard
end Rows
end Go.Proofs.YtognkiddigibnaaGreatDoor
