/-
  DERIVED. GIVEN WITH THE SEED: THE CARDS: each row of YtmfhkipeapdfmaaGreatDoorRows.lean that lists a variable, with what it lists TIED to the program's text (the seventh form; the later family's looks); each row that meets fmt, with fmt's text TOLD by the authors' own Lean function (tested against real Go, not proved from fmt's source: count such statements apart). THE CARD IS WHAT COUNTS. Prove the row's statement (the work); the ties are given (YtmfhkipeapdfmaaGreatDoorTie.lean); close each card by the builder's one call (the guide's Derived/Test/ToyasCard.lean, 'card_holds'). Laid BY PROGRAM, IN A SANDBOX (cutbox-door.mjs). By AI agents, Wed Nov 11 2026. No macro, syntax, notation, axiom, sorry.
-/
import Derived.Test.YtmfhkipeapdfmaaGreatDoorRows
import GoSem.ClaimSeven
namespace Go.Proofs.YtmfhkipeapdfmaaGreatDoor
namespace Rows

/-- THE TIED CARD OF 'quadratlaw02.DecimalShortest'. -/
def decimalShortestCard : Claim7 := { stood := { row := decimalShortestRow, standIns := [], harness := (true, "d429bbc2e8e6bf5278ad4261b0617f2233cd2cd5b0553bd56e2f9892a2cd8e37"), looks := true }, kinds := [], alts := [], laidByText := true, laidKinds := [.data, .data, .data, .data, .sentinel, .sentinel, .pinned], laidTests := true, laidLooks := .later }
def DecimalShortestCardSaid : Prop := Claim7.holds Tryz.pinned (.plain (OpenSpec.ofChange decimalShortestSpec)) decimalShortestCard

/-- THE TIED CARD OF 'quadratlaw02.DecimalReads'. -/
def decimalReadsCard : Claim7 := { stood := { row := decimalReadsRow, standIns := [], harness := (true, "d429bbc2e8e6bf5278ad4261b0617f2233cd2cd5b0553bd56e2f9892a2cd8e37"), looks := true }, kinds := [], alts := [], laidByText := true, laidKinds := [.data, .data, .data, .data, .sentinel, .sentinel, .pinned], laidTests := true, laidLooks := .later }
def DecimalReadsCardSaid : Prop := Claim7.holds Tryz.pinned (.plain (OpenSpec.ofChange decimalReadsSpec)) decimalReadsCard

/-- THE TIED CARD OF 'quadratlaw02.DecimalModes'. -/
def decimalModesCard : Claim7 := { stood := { row := decimalModesRow, standIns := [], harness := (true, "d429bbc2e8e6bf5278ad4261b0617f2233cd2cd5b0553bd56e2f9892a2cd8e37"), looks := true }, kinds := [], alts := [], laidByText := true, laidKinds := [.data, .data, .data, .data, .sentinel, .sentinel, .pinned], laidTests := true, laidLooks := .later }
def DecimalModesCardSaid : Prop := Claim7.holds Tryz.pinned (.plain (OpenSpec.ofChange decimalModesSpec)) decimalModesCard

/-- THE TIED CARD OF 'quadratlaw02.DecimalDigits'. -/
def decimalDigitsCard : Claim7 := { stood := { row := decimalDigitsRow, standIns := [], harness := (true, "d429bbc2e8e6bf5278ad4261b0617f2233cd2cd5b0553bd56e2f9892a2cd8e37"), looks := true }, kinds := [], alts := [], laidByText := true, laidKinds := [.data, .data, .data, .data, .sentinel, .sentinel, .pinned], laidTests := true, laidLooks := .later }
def DecimalDigitsCardSaid : Prop := Claim7.holds Tryz.pinned (.plain (OpenSpec.ofChange decimalDigitsSpec)) decimalDigitsCard

/-- THE TIED CARD OF 'quadratlaw02.DecimalRises'. -/
def decimalRisesCard : Claim7 := { stood := { row := decimalRisesRow, standIns := [], harness := (true, "d429bbc2e8e6bf5278ad4261b0617f2233cd2cd5b0553bd56e2f9892a2cd8e37"), looks := true }, kinds := [], alts := [], laidByText := true, laidKinds := [.data, .data, .data, .data, .sentinel, .sentinel, .pinned], laidTests := true, laidLooks := .later }
def DecimalRisesCardSaid : Prop := Claim7.holds Tryz.pinned (.plain (OpenSpec.ofChange decimalRisesSpec)) decimalRisesCard

/-- THE TIED CARD OF 'quadratlaw02.DecimalExact'. -/
def decimalExactCard : Claim7 := { stood := { row := decimalExactRow, standIns := [], harness := (true, "d429bbc2e8e6bf5278ad4261b0617f2233cd2cd5b0553bd56e2f9892a2cd8e37"), looks := true }, kinds := [], alts := [], laidByText := true, laidKinds := [.data, .data, .data, .data, .sentinel, .sentinel, .pinned], laidTests := true, laidLooks := .later }
def DecimalExactCardSaid : Prop := Claim7.holds Tryz.pinned (.plain (OpenSpec.ofChange decimalExactSpec)) decimalExactCard

/-- THE TIED CARD OF 'quadratlaw02.DecimalBack'. -/
def decimalBackCard : Claim7 := { stood := { row := decimalBackRow, standIns := [], harness := (true, "d429bbc2e8e6bf5278ad4261b0617f2233cd2cd5b0553bd56e2f9892a2cd8e37"), looks := true }, kinds := [], alts := [], laidByText := true, laidKinds := [.data, .data, .data, .data, .sentinel, .sentinel, .pinned], laidTests := true, laidLooks := .later }
def DecimalBackCardSaid : Prop := Claim7.holds Tryz.pinned (.plain (OpenSpec.ofChange decimalBackSpec)) decimalBackCard

/-- THE TIED CARD OF 'quadratlaw02.DecimalPrints'. -/
def decimalPrintsCard : Claim7 := { stood := { row := decimalPrintsRow, standIns := [], harness := (true, "d429bbc2e8e6bf5278ad4261b0617f2233cd2cd5b0553bd56e2f9892a2cd8e37"), looks := true }, kinds := [], alts := [], laidByText := true, laidKinds := [.data, .data, .data, .data, .sentinel, .sentinel, .pinned], laidTests := true, laidLooks := .later }
def DecimalPrintsCardSaid : Prop := Claim7.holds Tryz.pinned (.plain (OpenSpec.ofChange decimalPrintsSpec)) decimalPrintsCard

/-- THE SECOND FORM's CARD OF 'quadratlaw02.DecimalShortest'. -/
def decimalShortestUptoCard : Claim7 := { stood := { row := decimalShortestUptoRow, standIns := [], harness := (true, "d429bbc2e8e6bf5278ad4261b0617f2233cd2cd5b0553bd56e2f9892a2cd8e37"), looks := true }, kinds := [], alts := [], laidByText := true, laidKinds := [.data, .data, .data, .data, .sentinel, .sentinel, .pinned], laidTests := true, laidLooks := .later }
def DecimalShortestUptoCardSaid : Prop := Claim7.holds Tryz.pinned (.plain (OpenSpec.upto decimalShortestSpec)) decimalShortestUptoCard

/-- THE SECOND FORM's CARD OF 'quadratlaw02.DecimalReads'. -/
def decimalReadsUptoCard : Claim7 := { stood := { row := decimalReadsUptoRow, standIns := [], harness := (true, "d429bbc2e8e6bf5278ad4261b0617f2233cd2cd5b0553bd56e2f9892a2cd8e37"), looks := true }, kinds := [], alts := [], laidByText := true, laidKinds := [.data, .data, .data, .data, .sentinel, .sentinel, .pinned], laidTests := true, laidLooks := .later }
def DecimalReadsUptoCardSaid : Prop := Claim7.holds Tryz.pinned (.plain (OpenSpec.upto decimalReadsSpec)) decimalReadsUptoCard

/-- THE SECOND FORM's CARD OF 'quadratlaw02.DecimalModes'. -/
def decimalModesUptoCard : Claim7 := { stood := { row := decimalModesUptoRow, standIns := [], harness := (true, "d429bbc2e8e6bf5278ad4261b0617f2233cd2cd5b0553bd56e2f9892a2cd8e37"), looks := true }, kinds := [], alts := [], laidByText := true, laidKinds := [.data, .data, .data, .data, .sentinel, .sentinel, .pinned], laidTests := true, laidLooks := .later }
def DecimalModesUptoCardSaid : Prop := Claim7.holds Tryz.pinned (.plain (OpenSpec.upto decimalModesSpec)) decimalModesUptoCard

/-- THE SECOND FORM's CARD OF 'quadratlaw02.DecimalDigits'. -/
def decimalDigitsUptoCard : Claim7 := { stood := { row := decimalDigitsUptoRow, standIns := [], harness := (true, "d429bbc2e8e6bf5278ad4261b0617f2233cd2cd5b0553bd56e2f9892a2cd8e37"), looks := true }, kinds := [], alts := [], laidByText := true, laidKinds := [.data, .data, .data, .data, .sentinel, .sentinel, .pinned], laidTests := true, laidLooks := .later }
def DecimalDigitsUptoCardSaid : Prop := Claim7.holds Tryz.pinned (.plain (OpenSpec.upto decimalDigitsSpec)) decimalDigitsUptoCard

/-- THE SECOND FORM's CARD OF 'quadratlaw02.DecimalRises'. -/
def decimalRisesUptoCard : Claim7 := { stood := { row := decimalRisesUptoRow, standIns := [], harness := (true, "d429bbc2e8e6bf5278ad4261b0617f2233cd2cd5b0553bd56e2f9892a2cd8e37"), looks := true }, kinds := [], alts := [], laidByText := true, laidKinds := [.data, .data, .data, .data, .sentinel, .sentinel, .pinned], laidTests := true, laidLooks := .later }
def DecimalRisesUptoCardSaid : Prop := Claim7.holds Tryz.pinned (.plain (OpenSpec.upto decimalRisesSpec)) decimalRisesUptoCard

/-- THE SECOND FORM's CARD OF 'quadratlaw02.DecimalExact'. -/
def decimalExactUptoCard : Claim7 := { stood := { row := decimalExactUptoRow, standIns := [], harness := (true, "d429bbc2e8e6bf5278ad4261b0617f2233cd2cd5b0553bd56e2f9892a2cd8e37"), looks := true }, kinds := [], alts := [], laidByText := true, laidKinds := [.data, .data, .data, .data, .sentinel, .sentinel, .pinned], laidTests := true, laidLooks := .later }
def DecimalExactUptoCardSaid : Prop := Claim7.holds Tryz.pinned (.plain (OpenSpec.upto decimalExactSpec)) decimalExactUptoCard

/-- THE SECOND FORM's CARD OF 'quadratlaw02.DecimalBack'. -/
def decimalBackUptoCard : Claim7 := { stood := { row := decimalBackUptoRow, standIns := [], harness := (true, "d429bbc2e8e6bf5278ad4261b0617f2233cd2cd5b0553bd56e2f9892a2cd8e37"), looks := true }, kinds := [], alts := [], laidByText := true, laidKinds := [.data, .data, .data, .data, .sentinel, .sentinel, .pinned], laidTests := true, laidLooks := .later }
def DecimalBackUptoCardSaid : Prop := Claim7.holds Tryz.pinned (.plain (OpenSpec.upto decimalBackSpec)) decimalBackUptoCard

/-- THE SECOND FORM's CARD OF 'quadratlaw02.DecimalPrints'. -/
def decimalPrintsUptoCard : Claim7 := { stood := { row := decimalPrintsUptoRow, standIns := [], harness := (true, "d429bbc2e8e6bf5278ad4261b0617f2233cd2cd5b0553bd56e2f9892a2cd8e37"), looks := true }, kinds := [], alts := [], laidByText := true, laidKinds := [.data, .data, .data, .data, .sentinel, .sentinel, .pinned], laidTests := true, laidLooks := .later }
def DecimalPrintsUptoCardSaid : Prop := Claim7.holds Tryz.pinned (.plain (OpenSpec.upto decimalPrintsSpec)) decimalPrintsUptoCard
end Rows
end Go.Proofs.YtmfhkipeapdfmaaGreatDoor
