import Derived.Test.YthdklcpkoeehnaaDoorQT18
import Derived.Test.YthdklcpkoeehnaaDoorRows
import Derived.ProofKit
import Derived.LaidHandle
import Derived.Lay
import Derived.SizedLaws
import Derived.Handed
namespace Go.Q
open Go Go.Proofs Go.RowKit Go.ChangeShapes Go.WideShapes
set_option maxRecDepth 100000

theorem tryd_slice : Tryd.prog.underlying 23 = some (.slice 32) := by kernel_rfl
theorem tryd_cells : Tryd.prog.cellsOf 32 = 2 := by kernel_rfl
theorem tryd_own : ownKnob Tryd.prog.godebug = none := by kernel_rfl
theorem tryd_laidOut : laidOutB Tryd.prog = true := by kernel_rfl
theorem tryd_params : Tryd.f4.params = #[23, 23] := by kernel_rfl

abbrev lays : List (String × DataW Unit) := YthdklcpkoeehnaaDoor.Rows.tokenSamesRow.laid
noncomputable def laidWorld (os : Os) : World := (World.holding Tryd.prog os ⟨#[], #[], []⟩).layVars Tryd.prog lays
theorem laid_met (os : Os) (args : Array Value) : laidMetH Tryd.prog lays ((laidWorld os).forCall (fun _ _ => 0) ⟨#[], args, []⟩).memory := by
  refine laidMetH_of_parts (laidMet_layVars (w0 := World.holding Tryd.prog os ⟨#[], #[], []⟩) (lays.map (·.1)) [] ?_ ?_ ?_ ?_) (by kernel_rfl)
  · rfl
  · kernel_rfl
  · kernel_rfl
  · exact LaidIn.none
end Go.Q
