/-
  DERIVED. GIVEN WITH THE SEED: THE CARDS: each row of YtoecgpemlfoogaaDoorRows.lean that lists a variable, with what it lists TIED to the program's text (the seventh form; the later family's looks); each row that meets fmt, with fmt's text TOLD by the authors' own Lean function (tested against real Go, not proved from fmt's source: count such statements apart). THE CARD IS WHAT COUNTS. Prove the row's statement (the work); the ties are given (YtoecgpemlfoogaaDoorTie.lean); close each card by the builder's one call (the guide's Derived/Test/ToyasCard.lean, 'card_holds'). Laid BY PROGRAM, IN A SANDBOX (cutbox-door.mjs). By AI agents, Wed Nov 11 2026. No macro, syntax, notation, axiom, sorry.
-/
import Derived.Test.YtoecgpemlfoogaaDoorRows
import GoSem.ClaimSeven
namespace Go.Proofs.YtoecgpemlfoogaaDoor
namespace Rows

/-- THE TIED CARD OF 'quadratlaw03.FormComments'. -/
def formCommentsCard : Claim7 := { stood := { row := formCommentsRow, standIns := [], harness := (true, "2c8fb08a00138ce3a767427dc0d7e6c36c1a5101edfc47fcedb152a5a0003ec4"), looks := true }, kinds := [], alts := [], laidByText := true, laidKinds := [.data, .data, .data, .data, .sentinel, .sentinel, .pinned], laidTests := true, laidLooks := .later }
def FormCommentsCardSaid : Prop := Claim7.holds Tryd.pinned (.plain (OpenSpec.ofChange formCommentsSpec)) formCommentsCard

/-- THE TIED CARD OF 'quadratlaw03.FormQuotes'. -/
def formQuotesCard : Claim7 := { stood := { row := formQuotesRow, standIns := [], harness := (true, "2c8fb08a00138ce3a767427dc0d7e6c36c1a5101edfc47fcedb152a5a0003ec4"), looks := true }, kinds := [], alts := [], laidByText := true, laidKinds := [.data, .data, .data, .data, .sentinel, .sentinel, .pinned], laidTests := true, laidLooks := .later }
def FormQuotesCardSaid : Prop := Claim7.holds Tryd.pinned (.plain (OpenSpec.ofChange formQuotesSpec)) formQuotesCard

/-- THE SECOND FORM's CARD OF 'quadratlaw03.FormComments'. -/
def formCommentsUptoCard : Claim7 := { stood := { row := formCommentsUptoRow, standIns := [], harness := (true, "2c8fb08a00138ce3a767427dc0d7e6c36c1a5101edfc47fcedb152a5a0003ec4"), looks := true }, kinds := [], alts := [], laidByText := true, laidKinds := [.data, .data, .data, .data, .sentinel, .sentinel, .pinned], laidTests := true, laidLooks := .later }
def FormCommentsUptoCardSaid : Prop := Claim7.holds Tryd.pinned (.plain (OpenSpec.upto formCommentsSpec)) formCommentsUptoCard

/-- THE SECOND FORM's CARD OF 'quadratlaw03.FormQuotes'. -/
def formQuotesUptoCard : Claim7 := { stood := { row := formQuotesUptoRow, standIns := [], harness := (true, "2c8fb08a00138ce3a767427dc0d7e6c36c1a5101edfc47fcedb152a5a0003ec4"), looks := true }, kinds := [], alts := [], laidByText := true, laidKinds := [.data, .data, .data, .data, .sentinel, .sentinel, .pinned], laidTests := true, laidLooks := .later }
def FormQuotesUptoCardSaid : Prop := Claim7.holds Tryd.pinned (.plain (OpenSpec.upto formQuotesSpec)) formQuotesUptoCard
end Rows
end Go.Proofs.YtoecgpemlfoogaaDoor
