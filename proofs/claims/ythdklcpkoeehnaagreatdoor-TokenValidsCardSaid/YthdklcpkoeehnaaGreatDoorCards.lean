/-
  DERIVED. GIVEN WITH THE SEED: THE CARDS: each row of YthdklcpkoeehnaaGreatDoorRows.lean that lists a variable, with what it lists TIED to the program's text (the seventh form; the later family's looks); each row that meets fmt, with fmt's text TOLD by the authors' own Lean function (tested against real Go, not proved from fmt's source: count such statements apart). THE CARD IS WHAT COUNTS. Prove the row's statement (the work); the ties are given (YthdklcpkoeehnaaGreatDoorTie.lean); close each card by the builder's one call (the guide's Derived/Test/ToyasCard.lean, 'card_holds'). Laid BY PROGRAM, IN A SANDBOX (cutbox-door.mjs). By AI agents, Wed Nov 11 2026. No macro, syntax, notation, axiom, sorry.
-/
import Derived.Test.YthdklcpkoeehnaaGreatDoorRows
import GoSem.ClaimSeven
namespace Go.Proofs.YthdklcpkoeehnaaGreatDoor
namespace Rows

/-- THE TIED CARD OF 'quadratlaw04.TokenValids'. -/
def tokenValidsCard : Claim7 := { stood := { row := tokenValidsRow, standIns := [], harness := (true, "aff57cbb7a5616698eac88a1c958f52f541e46614df290270c3c46692bce17ab"), looks := true }, kinds := [], alts := [], laidByText := true, laidKinds := [.data, .data, .data, .data, .sentinel, .sentinel, .pinned], laidTests := true, laidLooks := .later }
def TokenValidsCardSaid : Prop := Claim7.holds Tryz.pinned (.plain (OpenSpec.ofChange tokenValidsSpec)) tokenValidsCard

/-- THE TIED CARD OF 'quadratlaw04.TokenWrites'. -/
def tokenWritesCard : Claim7 := { stood := { row := tokenWritesRow, standIns := [], harness := (true, "aff57cbb7a5616698eac88a1c958f52f541e46614df290270c3c46692bce17ab"), looks := true }, kinds := [], alts := [], laidByText := true, laidKinds := [.data, .data, .data, .data, .sentinel, .sentinel, .pinned], laidTests := true, laidLooks := .later }
def TokenWritesCardSaid : Prop := Claim7.holds Tryz.pinned (.plain (OpenSpec.ofChange tokenWritesSpec)) tokenWritesCard

/-- THE SECOND FORM's CARD OF 'quadratlaw04.TokenValids'. -/
def tokenValidsUptoCard : Claim7 := { stood := { row := tokenValidsUptoRow, standIns := [], harness := (true, "aff57cbb7a5616698eac88a1c958f52f541e46614df290270c3c46692bce17ab"), looks := true }, kinds := [], alts := [], laidByText := true, laidKinds := [.data, .data, .data, .data, .sentinel, .sentinel, .pinned], laidTests := true, laidLooks := .later }
def TokenValidsUptoCardSaid : Prop := Claim7.holds Tryz.pinned (.plain (OpenSpec.upto tokenValidsSpec)) tokenValidsUptoCard

/-- THE SECOND FORM's CARD OF 'quadratlaw04.TokenWrites'. -/
def tokenWritesUptoCard : Claim7 := { stood := { row := tokenWritesUptoRow, standIns := [], harness := (true, "aff57cbb7a5616698eac88a1c958f52f541e46614df290270c3c46692bce17ab"), looks := true }, kinds := [], alts := [], laidByText := true, laidKinds := [.data, .data, .data, .data, .sentinel, .sentinel, .pinned], laidTests := true, laidLooks := .later }
def TokenWritesUptoCardSaid : Prop := Claim7.holds Tryz.pinned (.plain (OpenSpec.upto tokenWritesSpec)) tokenWritesUptoCard
end Rows
end Go.Proofs.YthdklcpkoeehnaaGreatDoor
