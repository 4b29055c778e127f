/- What this seat knows of the world's variables: bytealg.MaxLen is an integer. -/
import Derived.Test.YtoecgpemlfoogaaDoorFA
namespace Go.Q
open Go
theorem cell_same0 {w w' : World} {b off : Nat} (h : w'.heap[b]? = w.heap[b]?) : w'.cell? ⟨b, off, none⟩ = w.cell? ⟨b, off, none⟩ := by
  unfold World.cell?; simp only [h]
instance seatKnow : Know := ⟨fun b => b = 0, fun w => ∃ m : Int, w.cell? ⟨0, 0, none⟩ = some (.int .i64 m), fun hw ⟨m, h⟩ => ⟨m, by rw [cell_same0 (hw 0 rfl)]; exact h⟩⟩
end Go.Q
