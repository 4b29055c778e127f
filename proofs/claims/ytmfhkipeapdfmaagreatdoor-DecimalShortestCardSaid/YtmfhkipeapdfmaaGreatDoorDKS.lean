import Derived.Test.YtmfhkipeapdfmaaGreatDoorFA
import Derived.Lib.ItoaNum
import Derived.Shelf.Spec.TrailingZeros
namespace Go.Q
open Go
theorem cell_same0 {w w':World} {b off:Nat} (h:w'.heap[b]? = w.heap[b]?):w'.cell? ⟨b,off,none⟩ = w.cell? ⟨b,off,none⟩:=by
  unfold World.cell?; simp only [h]
def pow10Cells:Array Value:=(Lib.pow10Tab.map fun z=>Value.int .u64 z).toArray
def tabAt (w:World):Prop:=(match w.heap[2]? with | some (Obj.cells cs _ _)=>some cs | _=>none) = some pow10Cells
def dbAt (w:World):Prop:=Go.Proofs.TabAt 0 Lib.deBruijn64tab w
instance seatKnow:Know:=⟨fun b=>b = 0 ∨ b = 1 ∨ b = 2,
  fun w=>(∃ m:Int,w.cell? ⟨1,0,none⟩ = some (.int .i64 m)) ∧ tabAt w ∧ dbAt w,
  fun hw ⟨⟨m,h⟩,h0,h2⟩=>⟨⟨m,by rw [cell_same0 (hw 1 (.inr (.inl rfl)))]; exact h⟩,by unfold tabAt at *; rw [hw 2 (.inr (.inr rfl))]; exact h0,
    by unfold dbAt Go.Proofs.TabAt at *; intro j hj; rw [cell_same0 (hw 0 (.inl rfl))]; exact h2 j hj⟩⟩
end Go.Q
