import Derived.Test.YtoecgpemlfoogaaGreatDoorFA
import Derived.Lib.ItoaNum
namespace Go.Q
open Go
theorem cell_same0 {w w':World} {b off:Nat} (h:w'.heap[b]? = w.heap[b]?):w'.cell? ⟨b,off,none⟩ = w.cell? ⟨b,off,none⟩:=by
  unfold World.cell?; simp only [h]
def pow10Cells:Array Value:=(Lib.pow10Tab.map fun z=>Value.int .u64 z).toArray
def tabAt1 (w:World):Prop:=(match w.heap[1]? with | some (Obj.cells cs _ _)=>some cs | _=>none) = some pow10Cells
instance seatKnow:Know:=⟨fun b=>b = 0 ∨ b = 1 ∨ b = 4 ∨ b = 5,
  fun w=>(∃ m:Int,w.cell? ⟨0,0,none⟩ = some (.int .i64 m)) ∧ (∃ t p,w.cell? ⟨4,0,none⟩ = some (.iface t p)) ∧ (∃ t p,w.cell? ⟨5,0,none⟩ = some (.iface t p)) ∧ tabAt1 w,
  fun hw ⟨⟨m,h⟩,⟨t1,p1,h1⟩,⟨t2,p2,h2⟩,h0⟩=>⟨⟨m,by rw [cell_same0 (hw 0 (.inl rfl))]; exact h⟩,⟨t1,p1,by rw [cell_same0 (hw 4 (.inr (.inr (.inl rfl))))]; exact h1⟩,⟨t2,p2,by rw [cell_same0 (hw 5 (.inr (.inr (.inr rfl))))]; exact h2⟩,by unfold tabAt1 at *; rw [hw 1 (.inr (.inl rfl))]; exact h0⟩⟩
end Go.Q
