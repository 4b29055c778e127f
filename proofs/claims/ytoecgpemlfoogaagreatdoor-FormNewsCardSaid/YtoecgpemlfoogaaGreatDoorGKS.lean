/- What this seat knows of the world's variables: bytealg.MaxLen is an integer; strconv's two errors are values. -/
import Derived.Test.YtoecgpemlfoogaaGreatDoorFA
namespace Go.Q
open Go
theorem cell_same0 {w w' : World} {b off : Nat} (h : w'.heap[b]? = w.heap[b]?) : w'.cell? ⟨b, off, none⟩ = w.cell? ⟨b, off, none⟩ := by
  unfold World.cell?; simp only [h]
instance seatKnow : Know := ⟨fun b => b = 0 ∨ b = 4 ∨ b = 5,
  fun w => (∃ m : Int, w.cell? ⟨0, 0, none⟩ = some (.int .i64 m)) ∧ (∃ t p, w.cell? ⟨4, 0, none⟩ = some (.iface t p)) ∧ (∃ t p, w.cell? ⟨5, 0, none⟩ = some (.iface t p)),
  fun hw ⟨⟨m, h⟩, ⟨t1, p1, h1⟩, ⟨t2, p2, h2⟩⟩ => ⟨⟨m, by rw [cell_same0 (hw 0 (.inl rfl))]; exact h⟩, ⟨t1, p1, by rw [cell_same0 (hw 4 (.inr (.inl rfl)))]; exact h1⟩, ⟨t2, p2, by rw [cell_same0 (hw 5 (.inr (.inr rfl)))]; exact h2⟩⟩⟩
end Go.Q
