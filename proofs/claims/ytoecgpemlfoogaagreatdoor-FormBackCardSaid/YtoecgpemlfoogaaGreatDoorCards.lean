/-
  DERIVED. GIVEN WITH THE SEED: THE CARDS: each row of YtoecgpemlfoogaaGreatDoorRows.lean that lists a variable, with what it lists TIED to the program's text (the seventh form; the later family's looks); each row that meets fmt, with fmt's text TOLD by the authors' own Lean function (tested against real Go, not proved from fmt's source: count such statements apart). THE CARD IS WHAT COUNTS. Prove the row's statement (the work); the ties are given (YtoecgpemlfoogaaGreatDoorTie.lean); close each card by the builder's one call (the guide's Derived/Test/ToyasCard.lean, 'card_holds'). Laid BY PROGRAM, IN A SANDBOX (cutbox-door.mjs). By AI agents, Wed Nov 11 2026. No macro, syntax, notation, axiom, sorry.
-/
import Derived.Test.YtoecgpemlfoogaaGreatDoorRows
import GoSem.ClaimSeven
namespace Go.Proofs.YtoecgpemlfoogaaGreatDoor
namespace Rows

/-- THE TIED CARD OF 'quadratlaw03.FormOlds'. -/
def formOldsCard : Claim7 := { stood := { row := formOldsRow, standIns := [], harness := (true, "b3b75d3e1fb4fa33286284f61d84af873dc38b71d4113483106fd6415247b205"), looks := true }, kinds := [], alts := [], laidByText := true, laidKinds := [.data, .data, .data, .data, .sentinel, .sentinel, .pinned], laidTests := true, laidLooks := .later }
def FormOldsCardSaid : Prop := Claim7.holds Tryz.pinned (.plain (OpenSpec.ofChange formOldsSpec)) formOldsCard

/-- THE TIED CARD OF 'quadratlaw03.FormWrites'. -/
def formWritesCard : Claim7 := { stood := { row := formWritesRow, standIns := [], harness := (true, "b3b75d3e1fb4fa33286284f61d84af873dc38b71d4113483106fd6415247b205"), looks := true }, kinds := [], alts := [], laidByText := true, laidKinds := [.data, .data, .data, .data, .sentinel, .sentinel, .pinned], laidTests := true, laidLooks := .later }
def FormWritesCardSaid : Prop := Claim7.holds Tryz.pinned (.plain (OpenSpec.ofChange formWritesSpec)) formWritesCard

/-- THE TIED CARD OF 'quadratlaw03.FormNews'. -/
def formNewsCard : Claim7 := { stood := { row := formNewsRow, standIns := [], harness := (true, "b3b75d3e1fb4fa33286284f61d84af873dc38b71d4113483106fd6415247b205"), looks := true }, kinds := [], alts := [], laidByText := true, laidKinds := [.data, .data, .data, .data, .sentinel, .sentinel, .pinned], laidTests := true, laidLooks := .later }
def FormNewsCardSaid : Prop := Claim7.holds Tryz.pinned (.plain (OpenSpec.ofChange formNewsSpec)) formNewsCard

/-- THE TIED CARD OF 'quadratlaw03.FormGives'. -/
def formGivesCard : Claim7 := { stood := { row := formGivesRow, standIns := [], harness := (true, "b3b75d3e1fb4fa33286284f61d84af873dc38b71d4113483106fd6415247b205"), looks := true }, kinds := [], alts := [], laidByText := true, laidKinds := [.data, .data, .data, .data, .sentinel, .sentinel, .pinned], laidTests := true, laidLooks := .later }
def FormGivesCardSaid : Prop := Claim7.holds Tryz.pinned (.plain (OpenSpec.ofChange formGivesSpec)) formGivesCard

/-- THE TIED CARD OF 'quadratlaw03.FormBack'. -/
def formBackCard : Claim7 := { stood := { row := formBackRow, standIns := [], harness := (true, "b3b75d3e1fb4fa33286284f61d84af873dc38b71d4113483106fd6415247b205"), looks := true }, kinds := [], alts := [], laidByText := true, laidKinds := [.data, .data, .data, .data, .sentinel, .sentinel, .pinned], laidTests := true, laidLooks := .later }
def FormBackCardSaid : Prop := Claim7.holds Tryz.pinned (.plain (OpenSpec.ofChange formBackSpec)) formBackCard

/-- THE SECOND FORM's CARD OF 'quadratlaw03.FormOlds'. -/
def formOldsUptoCard : Claim7 := { stood := { row := formOldsUptoRow, standIns := [], harness := (true, "b3b75d3e1fb4fa33286284f61d84af873dc38b71d4113483106fd6415247b205"), looks := true }, kinds := [], alts := [], laidByText := true, laidKinds := [.data, .data, .data, .data, .sentinel, .sentinel, .pinned], laidTests := true, laidLooks := .later }
def FormOldsUptoCardSaid : Prop := Claim7.holds Tryz.pinned (.plain (OpenSpec.upto formOldsSpec)) formOldsUptoCard

/-- THE SECOND FORM's CARD OF 'quadratlaw03.FormWrites'. -/
def formWritesUptoCard : Claim7 := { stood := { row := formWritesUptoRow, standIns := [], harness := (true, "b3b75d3e1fb4fa33286284f61d84af873dc38b71d4113483106fd6415247b205"), looks := true }, kinds := [], alts := [], laidByText := true, laidKinds := [.data, .data, .data, .data, .sentinel, .sentinel, .pinned], laidTests := true, laidLooks := .later }
def FormWritesUptoCardSaid : Prop := Claim7.holds Tryz.pinned (.plain (OpenSpec.upto formWritesSpec)) formWritesUptoCard

/-- THE SECOND FORM's CARD OF 'quadratlaw03.FormNews'. -/
def formNewsUptoCard : Claim7 := { stood := { row := formNewsUptoRow, standIns := [], harness := (true, "b3b75d3e1fb4fa33286284f61d84af873dc38b71d4113483106fd6415247b205"), looks := true }, kinds := [], alts := [], laidByText := true, laidKinds := [.data, .data, .data, .data, .sentinel, .sentinel, .pinned], laidTests := true, laidLooks := .later }
def FormNewsUptoCardSaid : Prop := Claim7.holds Tryz.pinned (.plain (OpenSpec.upto formNewsSpec)) formNewsUptoCard

/-- THE SECOND FORM's CARD OF 'quadratlaw03.FormGives'. -/
def formGivesUptoCard : Claim7 := { stood := { row := formGivesUptoRow, standIns := [], harness := (true, "b3b75d3e1fb4fa33286284f61d84af873dc38b71d4113483106fd6415247b205"), looks := true }, kinds := [], alts := [], laidByText := true, laidKinds := [.data, .data, .data, .data, .sentinel, .sentinel, .pinned], laidTests := true, laidLooks := .later }
def FormGivesUptoCardSaid : Prop := Claim7.holds Tryz.pinned (.plain (OpenSpec.upto formGivesSpec)) formGivesUptoCard

/-- THE SECOND FORM's CARD OF 'quadratlaw03.FormBack'. -/
def formBackUptoCard : Claim7 := { stood := { row := formBackUptoRow, standIns := [], harness := (true, "b3b75d3e1fb4fa33286284f61d84af873dc38b71d4113483106fd6415247b205"), looks := true }, kinds := [], alts := [], laidByText := true, laidKinds := [.data, .data, .data, .data, .sentinel, .sentinel, .pinned], laidTests := true, laidLooks := .later }
def FormBackUptoCardSaid : Prop := Claim7.holds Tryz.pinned (.plain (OpenSpec.upto formBackSpec)) formBackUptoCard
end Rows
end Go.Proofs.YtoecgpemlfoogaaGreatDoor
