/-
  No cell of these rows narrows 'for every input' (looked for: loops, veiled, ifaces, maps, wideKeys, modest, calm, conditions, laid).
  DERIVED. THE GIVEN ROWS OF THIS SEAT. 8 by the template 'for every input the law returns true; each argument reads behind the call as it read before'; 0 by the template 'total and deterministic' (their statements: YtemmhailjfdfdaaGreatTotals.lean).
  GIVEN WITH THE SEED: the statements are not yours to turn. If you find one false, say at which input.
  Laid BY PROGRAM, IN A SANDBOX (cutbox-rows.mjs): the forced cells as the released guide's own fill.sh prints them over the translation e2fb01ea013b915b… (all of the seat's roots in one cut). By AI agents, Wed Nov 11 2026. No macro, syntax, notation, axiom, sorry.
-/
import Derived.Test.YtemmhailjfdfdaaGreatChecked
import GoSem.Claim
import GoSem.ClaimJoined
import GoSem.ClaimMapViews
import Derived.JoinedTies
import Derived.KernelRfl
namespace Go.Proofs.YtemmhailjfdfdaaGreat
/- THE CELL 'sum', in the pinned program and in every row, IS THE sha256 OF THE DUMP (.gsa) THAT YtemmhailjfdfdaaGreatProg.lean LOADS. Nothing in Lean hashes anything: it is a label: what it is worth is what the hold of that sum in a sandbox is worth. -/
noncomputable def Tryz.pinned : Pinned := { name := "ytemmhailjfdfdaagreat", sum := "e2fb01ea013b915b44384a53714b1edc145b878fdf4f5b98234ab8f1e90f03b0", checked := Tryz.checked }
namespace Rows
def none {H : Type} : Left H := { results := [], args := [] }

/-- 'quadratlaw07.ArrayCalls': WHATEVER THE INPUT: true; the input reads as it did. -/
def arrayCallsSpec : ChangeSpec := { name := "arrayCalls", fn := fun _ => fun
  | [d1, d2] => { results := [.lit (.bool true)], args := [d1, d2] }
  | _ => none }
def arrayCallsRow : OpenClaim := { program := "ytemmhailjfdfdaagreat", sum := "e2fb01ea013b915b44384a53714b1edc145b878fdf4f5b98234ab8f1e90f03b0", func := "quadrat/quadratlaw07.ArrayCalls", spec := "arrayCalls", inPlace := ["math/bits.Add64", "math/bits.Sub64"], unfollowed := true, recurses := true, named := ["math/bits.divideError", "math/bits.overflowError"], apart := false }
def ArrayCallsSaid : Prop := arrayCallsRow.holds Tryz.pinned (OpenSpec.ofChange arrayCallsSpec)

/-- ITS FALSE NEIGHBOUR: 'it returns false'. Refute it at one input. -/
def arrayCallsWrong : ChangeSpec := { name := "arrayCalls", fn := fun _ => fun
  | [d1, d2] => { results := [.lit (.bool false)], args := [d1, d2] }
  | _ => none }
def ArrayCallsWrongFalsely : Prop := arrayCallsRow.holds Tryz.pinned (OpenSpec.ofChange arrayCallsWrong)

/-- 'quadratlaw07.ArrayNames': WHATEVER THE INPUT: true; the input reads as it did. -/
def arrayNamesSpec : ChangeSpec := { name := "arrayNames", fn := fun _ => fun
  | [d] => { results := [.lit (.bool true)], args := [d] }
  | _ => none }
def arrayNamesRow : OpenClaim := { program := "ytemmhailjfdfdaagreat", sum := "e2fb01ea013b915b44384a53714b1edc145b878fdf4f5b98234ab8f1e90f03b0", func := "quadrat/quadratlaw07.ArrayNames", spec := "arrayNames", inPlace := ["math/bits.Add64", "math/bits.Sub64"], unfollowed := true, recurses := true, named := ["math/bits.divideError", "math/bits.overflowError"], apart := false }
def ArrayNamesSaid : Prop := arrayNamesRow.holds Tryz.pinned (OpenSpec.ofChange arrayNamesSpec)

/-- ITS FALSE NEIGHBOUR: 'it returns false'. Refute it at one input. -/
def arrayNamesWrong : ChangeSpec := { name := "arrayNames", fn := fun _ => fun
  | [d] => { results := [.lit (.bool false)], args := [d] }
  | _ => none }
def ArrayNamesWrongFalsely : Prop := arrayNamesRow.holds Tryz.pinned (OpenSpec.ofChange arrayNamesWrong)

/-- 'quadratlaw07.ArrayShapes': WHATEVER THE INPUT: true; the input reads as it did. -/
def arrayShapesSpec : ChangeSpec := { name := "arrayShapes", fn := fun _ => fun
  | [d1, d2] => { results := [.lit (.bool true)], args := [d1, d2] }
  | _ => none }
def arrayShapesRow : OpenClaim := { program := "ytemmhailjfdfdaagreat", sum := "e2fb01ea013b915b44384a53714b1edc145b878fdf4f5b98234ab8f1e90f03b0", func := "quadrat/quadratlaw07.ArrayShapes", spec := "arrayShapes", inPlace := ["math/bits.Add64", "math/bits.Sub64"], unfollowed := true, recurses := true, named := ["math/bits.divideError", "math/bits.overflowError"], apart := false }
def ArrayShapesSaid : Prop := arrayShapesRow.holds Tryz.pinned (OpenSpec.ofChange arrayShapesSpec)

/-- ITS FALSE NEIGHBOUR: 'it returns false'. Refute it at one input. -/
def arrayShapesWrong : ChangeSpec := { name := "arrayShapes", fn := fun _ => fun
  | [d1, d2] => { results := [.lit (.bool false)], args := [d1, d2] }
  | _ => none }
def ArrayShapesWrongFalsely : Prop := arrayShapesRow.holds Tryz.pinned (OpenSpec.ofChange arrayShapesWrong)

/-- 'quadratlaw07.ArrayDoes': WHATEVER THE INPUT: true; the input reads as it did. -/
def arrayDoesSpec : ChangeSpec := { name := "arrayDoes", fn := fun _ => fun
  | [d1, d2, d3] => { results := [.lit (.bool true)], args := [d1, d2, d3] }
  | _ => none }
def arrayDoesRow : OpenClaim := { program := "ytemmhailjfdfdaagreat", sum := "e2fb01ea013b915b44384a53714b1edc145b878fdf4f5b98234ab8f1e90f03b0", func := "quadrat/quadratlaw07.ArrayDoes", spec := "arrayDoes", inPlace := ["math/bits.Add64", "math/bits.Sub64"], unfollowed := true, recurses := true, named := ["math/bits.divideError", "math/bits.overflowError"], apart := false }
def ArrayDoesSaid : Prop := arrayDoesRow.holds Tryz.pinned (OpenSpec.ofChange arrayDoesSpec)

/-- ITS FALSE NEIGHBOUR: 'it returns false'. Refute it at one input. -/
def arrayDoesWrong : ChangeSpec := { name := "arrayDoes", fn := fun _ => fun
  | [d1, d2, d3] => { results := [.lit (.bool false)], args := [d1, d2, d3] }
  | _ => none }
def ArrayDoesWrongFalsely : Prop := arrayDoesRow.holds Tryz.pinned (OpenSpec.ofChange arrayDoesWrong)

/-- 'quadratlaw07.ArrayTurns': WHATEVER THE INPUT: true; the input reads as it did. -/
def arrayTurnsSpec : ChangeSpec := { name := "arrayTurns", fn := fun _ => fun
  | [d1, d2] => { results := [.lit (.bool true)], args := [d1, d2] }
  | _ => none }
def arrayTurnsRow : OpenClaim := { program := "ytemmhailjfdfdaagreat", sum := "e2fb01ea013b915b44384a53714b1edc145b878fdf4f5b98234ab8f1e90f03b0", func := "quadrat/quadratlaw07.ArrayTurns", spec := "arrayTurns", inPlace := ["math/bits.Add64", "math/bits.Sub64"], unfollowed := true, recurses := true, named := ["math/bits.divideError", "math/bits.overflowError"], apart := false }
def ArrayTurnsSaid : Prop := arrayTurnsRow.holds Tryz.pinned (OpenSpec.ofChange arrayTurnsSpec)

/-- ITS FALSE NEIGHBOUR: 'it returns false'. Refute it at one input. -/
def arrayTurnsWrong : ChangeSpec := { name := "arrayTurns", fn := fun _ => fun
  | [d1, d2] => { results := [.lit (.bool false)], args := [d1, d2] }
  | _ => none }
def ArrayTurnsWrongFalsely : Prop := arrayTurnsRow.holds Tryz.pinned (OpenSpec.ofChange arrayTurnsWrong)

/-- 'quadratlaw07.ArrayFirst': WHATEVER THE INPUT: true; the input reads as it did. -/
def arrayFirstSpec : ChangeSpec := { name := "arrayFirst", fn := fun _ => fun
  | [d1, d2, d3] => { results := [.lit (.bool true)], args := [d1, d2, d3] }
  | _ => none }
def arrayFirstRow : OpenClaim := { program := "ytemmhailjfdfdaagreat", sum := "e2fb01ea013b915b44384a53714b1edc145b878fdf4f5b98234ab8f1e90f03b0", func := "quadrat/quadratlaw07.ArrayFirst", spec := "arrayFirst", inPlace := ["math/bits.Add64", "math/bits.Sub64"], unfollowed := true, recurses := true, named := ["math/bits.divideError", "math/bits.overflowError"], apart := false }
def ArrayFirstSaid : Prop := arrayFirstRow.holds Tryz.pinned (OpenSpec.ofChange arrayFirstSpec)

/-- ITS FALSE NEIGHBOUR: 'it returns false'. Refute it at one input. -/
def arrayFirstWrong : ChangeSpec := { name := "arrayFirst", fn := fun _ => fun
  | [d1, d2, d3] => { results := [.lit (.bool false)], args := [d1, d2, d3] }
  | _ => none }
def ArrayFirstWrongFalsely : Prop := arrayFirstRow.holds Tryz.pinned (OpenSpec.ofChange arrayFirstWrong)

/-- 'quadratlaw07.ArrayValues': WHATEVER THE INPUT: true; the input reads as it did. -/
def arrayValuesSpec : ChangeSpec := { name := "arrayValues", fn := fun _ => fun
  | [d1, d2, d3] => { results := [.lit (.bool true)], args := [d1, d2, d3] }
  | _ => none }
def arrayValuesRow : OpenClaim := { program := "ytemmhailjfdfdaagreat", sum := "e2fb01ea013b915b44384a53714b1edc145b878fdf4f5b98234ab8f1e90f03b0", func := "quadrat/quadratlaw07.ArrayValues", spec := "arrayValues", inPlace := ["math/bits.Add64", "math/bits.Sub64"], unfollowed := true, recurses := true, named := ["math/bits.divideError", "math/bits.overflowError"], apart := false }
def ArrayValuesSaid : Prop := arrayValuesRow.holds Tryz.pinned (OpenSpec.ofChange arrayValuesSpec)

/-- ITS FALSE NEIGHBOUR: 'it returns false'. Refute it at one input. -/
def arrayValuesWrong : ChangeSpec := { name := "arrayValues", fn := fun _ => fun
  | [d1, d2, d3] => { results := [.lit (.bool false)], args := [d1, d2, d3] }
  | _ => none }
def ArrayValuesWrongFalsely : Prop := arrayValuesRow.holds Tryz.pinned (OpenSpec.ofChange arrayValuesWrong)

/-- 'quadratlaw07.ArraySingles': WHATEVER THE INPUT: true; the input reads as it did. -/
def arraySinglesSpec : ChangeSpec := { name := "arraySingles", fn := fun _ => fun
  | [d1, d2, d3] => { results := [.lit (.bool true)], args := [d1, d2, d3] }
  | _ => none }
def arraySinglesRow : OpenClaim := { program := "ytemmhailjfdfdaagreat", sum := "e2fb01ea013b915b44384a53714b1edc145b878fdf4f5b98234ab8f1e90f03b0", func := "quadrat/quadratlaw07.ArraySingles", spec := "arraySingles", inPlace := ["math/bits.Add64", "math/bits.Sub64"], unfollowed := true, recurses := true, named := ["math/bits.divideError", "math/bits.overflowError"], apart := false }
def ArraySinglesSaid : Prop := arraySinglesRow.holds Tryz.pinned (OpenSpec.ofChange arraySinglesSpec)

/-- ITS FALSE NEIGHBOUR: 'it returns false'. Refute it at one input. -/
def arraySinglesWrong : ChangeSpec := { name := "arraySingles", fn := fun _ => fun
  | [d1, d2, d3] => { results := [.lit (.bool false)], args := [d1, d2, d3] }
  | _ => none }
def ArraySinglesWrongFalsely : Prop := arraySinglesRow.holds Tryz.pinned (OpenSpec.ofChange arraySinglesWrong)

/- THE SECOND FORM. 'bulk': how many values and letters a reading holds, each counted each time it is reached (what is shared counts as often as it is met; a slice's spare places count too). A statement '..UptoSaid' is the law's where the arguments, and the package variables that the reading takes, are together of bulk at most 1048576: NARROWER than '..Said'. Prove '..Said' where nothing that the law and all that it calls make is longer than what came in: it says more and counts as full. Else prove '..UptoSaid'. A law counts once. -/
mutual
def uptoBulk {H : Type} : DataW H → Nat
  | .lit (.string bytes) => bytes.length + 1
  | .lit _ => 1
  | .nil => 1
  | .ptr d => uptoBulk d + 1
  | .slice elems spare => uptoBulkAll elems + uptoBulkAll spare + 1
  | .agg parts => uptoBulkAll parts + 1
  | .iface _ d => uptoBulk d + 1
  | .map entries => uptoBulkEntries entries + 1
  | .held _ => 1
def uptoBulkAll {H : Type} : List (DataW H) → Nat
  | [] => 0
  | d :: r => uptoBulk d + uptoBulkAll r
def uptoBulkEntries {H : Type} : List (Lit × DataW H) → Nat
  | [] => 0
  | x :: r => uptoBulkEntry x + uptoBulkEntries r
def uptoBulkEntry {H : Type} : Lit × DataW H → Nat
  | (.string bytes, d) => bytes.length + uptoBulk d + 1
  | (_, d) => uptoBulk d + 1
 end
def uptoSmall : (H : Type) → List (DataW H) → Bool := fun _ ds => decide (uptoBulkAll ds ≤ 1048576)
def OpenSpec.upto (s : _root_.Go.ChangeSpec) : _root_.Go.OpenSpec := { _root_.Go.OpenSpec.ofChange s with cond := some uptoSmall }

/-- 'quadratlaw07.ArrayCalls', WHERE WHAT IT READS IS OF BULK AT MOST 1048576: true; the input reads as it did. -/
def arrayCallsUptoRow : OpenClaim := { program := "ytemmhailjfdfdaagreat", sum := "e2fb01ea013b915b44384a53714b1edc145b878fdf4f5b98234ab8f1e90f03b0", func := "quadrat/quadratlaw07.ArrayCalls", spec := "arrayCalls", inPlace := ["math/bits.Add64", "math/bits.Sub64"], unfollowed := true, recurses := true, named := ["math/bits.divideError", "math/bits.overflowError"], apart := false, narrowed := true }
def ArrayCallsUptoSaid : Prop := arrayCallsUptoRow.holds Tryz.pinned (OpenSpec.upto arrayCallsSpec)

/-- 'quadratlaw07.ArrayNames', WHERE WHAT IT READS IS OF BULK AT MOST 1048576: true; the input reads as it did. -/
def arrayNamesUptoRow : OpenClaim := { program := "ytemmhailjfdfdaagreat", sum := "e2fb01ea013b915b44384a53714b1edc145b878fdf4f5b98234ab8f1e90f03b0", func := "quadrat/quadratlaw07.ArrayNames", spec := "arrayNames", inPlace := ["math/bits.Add64", "math/bits.Sub64"], unfollowed := true, recurses := true, named := ["math/bits.divideError", "math/bits.overflowError"], apart := false, narrowed := true }
def ArrayNamesUptoSaid : Prop := arrayNamesUptoRow.holds Tryz.pinned (OpenSpec.upto arrayNamesSpec)

/-- 'quadratlaw07.ArrayShapes', WHERE WHAT IT READS IS OF BULK AT MOST 1048576: true; the input reads as it did. -/
def arrayShapesUptoRow : OpenClaim := { program := "ytemmhailjfdfdaagreat", sum := "e2fb01ea013b915b44384a53714b1edc145b878fdf4f5b98234ab8f1e90f03b0", func := "quadrat/quadratlaw07.ArrayShapes", spec := "arrayShapes", inPlace := ["math/bits.Add64", "math/bits.Sub64"], unfollowed := true, recurses := true, named := ["math/bits.divideError", "math/bits.overflowError"], apart := false, narrowed := true }
def ArrayShapesUptoSaid : Prop := arrayShapesUptoRow.holds Tryz.pinned (OpenSpec.upto arrayShapesSpec)

/-- 'quadratlaw07.ArrayDoes', WHERE WHAT IT READS IS OF BULK AT MOST 1048576: true; the input reads as it did. -/
def arrayDoesUptoRow : OpenClaim := { program := "ytemmhailjfdfdaagreat", sum := "e2fb01ea013b915b44384a53714b1edc145b878fdf4f5b98234ab8f1e90f03b0", func := "quadrat/quadratlaw07.ArrayDoes", spec := "arrayDoes", inPlace := ["math/bits.Add64", "math/bits.Sub64"], unfollowed := true, recurses := true, named := ["math/bits.divideError", "math/bits.overflowError"], apart := false, narrowed := true }
def ArrayDoesUptoSaid : Prop := arrayDoesUptoRow.holds Tryz.pinned (OpenSpec.upto arrayDoesSpec)

/-- 'quadratlaw07.ArrayTurns', WHERE WHAT IT READS IS OF BULK AT MOST 1048576: true; the input reads as it did. -/
def arrayTurnsUptoRow : OpenClaim := { program := "ytemmhailjfdfdaagreat", sum := "e2fb01ea013b915b44384a53714b1edc145b878fdf4f5b98234ab8f1e90f03b0", func := "quadrat/quadratlaw07.ArrayTurns", spec := "arrayTurns", inPlace := ["math/bits.Add64", "math/bits.Sub64"], unfollowed := true, recurses := true, named := ["math/bits.divideError", "math/bits.overflowError"], apart := false, narrowed := true }
def ArrayTurnsUptoSaid : Prop := arrayTurnsUptoRow.holds Tryz.pinned (OpenSpec.upto arrayTurnsSpec)

/-- 'quadratlaw07.ArrayFirst', WHERE WHAT IT READS IS OF BULK AT MOST 1048576: true; the input reads as it did. -/
def arrayFirstUptoRow : OpenClaim := { program := "ytemmhailjfdfdaagreat", sum := "e2fb01ea013b915b44384a53714b1edc145b878fdf4f5b98234ab8f1e90f03b0", func := "quadrat/quadratlaw07.ArrayFirst", spec := "arrayFirst", inPlace := ["math/bits.Add64", "math/bits.Sub64"], unfollowed := true, recurses := true, named := ["math/bits.divideError", "math/bits.overflowError"], apart := false, narrowed := true }
def ArrayFirstUptoSaid : Prop := arrayFirstUptoRow.holds Tryz.pinned (OpenSpec.upto arrayFirstSpec)

/-- 'quadratlaw07.ArrayValues', WHERE WHAT IT READS IS OF BULK AT MOST 1048576: true; the input reads as it did. -/
def arrayValuesUptoRow : OpenClaim := { program := "ytemmhailjfdfdaagreat", sum := "e2fb01ea013b915b44384a53714b1edc145b878fdf4f5b98234ab8f1e90f03b0", func := "quadrat/quadratlaw07.ArrayValues", spec := "arrayValues", inPlace := ["math/bits.Add64", "math/bits.Sub64"], unfollowed := true, recurses := true, named := ["math/bits.divideError", "math/bits.overflowError"], apart := false, narrowed := true }
def ArrayValuesUptoSaid : Prop := arrayValuesUptoRow.holds Tryz.pinned (OpenSpec.upto arrayValuesSpec)

/-- 'quadratlaw07.ArraySingles', WHERE WHAT IT READS IS OF BULK AT MOST 1048576: true; the input reads as it did. -/
def arraySinglesUptoRow : OpenClaim := { program := "ytemmhailjfdfdaagreat", sum := "e2fb01ea013b915b44384a53714b1edc145b878fdf4f5b98234ab8f1e90f03b0", func := "quadrat/quadratlaw07.ArraySingles", spec := "arraySingles", inPlace := ["math/bits.Add64", "math/bits.Sub64"], unfollowed := true, recurses := true, named := ["math/bits.divideError", "math/bits.overflowError"], apart := false, narrowed := true }
def ArraySinglesUptoSaid : Prop := arraySinglesUptoRow.holds Tryz.pinned (OpenSpec.upto arraySinglesSpec)

end Rows
end Go.Proofs.YtemmhailjfdfdaaGreat
