import Derived.Test.YtognkiddigibnaaGreatDoorFA
namespace Go.Q
open Go
theorem cell_same0 {w w':World} {b off:Nat} (h:w'.heap[b]? = w.heap[b]?):w'.cell? ⟨b,off,none⟩ = w.cell? ⟨b,off,none⟩:=by
  unfold World.cell?; simp only [h]
instance seatKnow:Know:=⟨fun b=>b = 0 ∨ b = 1 ∨ b = 2,
  fun w=>(∃ m:Int,w.cell? ⟨0,0,none⟩ = some (.int .i64 m)) ∧ (∃ t p,w.cell? ⟨1,0,none⟩ = some (.iface t p)) ∧ (∃ t p,w.cell? ⟨2,0,none⟩ = some (.iface t p)),
  fun hw ⟨⟨m,h⟩,⟨t1,p1,h1⟩,⟨t2,p2,h2⟩⟩=>⟨⟨m,by rw [cell_same0 (hw 0 (.inl rfl))]; exact h⟩,⟨t1,p1,by rw [cell_same0 (hw 1 (.inr (.inl rfl)))]; exact h1⟩,⟨t2,p2,by rw [cell_same0 (hw 2 (.inr (.inr rfl)))]; exact h2⟩⟩⟩
end Go.Q
