/- What the seat knows of the world's variables follows from the world's shape. -/
import Derived.Test.YtoecgpemlfoogaaDoorFKS
import Derived.Test.YtoecgpemlfoogaaDoorProg
import Derived.Shelf.Vars
namespace Go.Q
open Go Go.Proofs
set_option maxRecDepth 100000
theorem know_open {W : World} (h : W.ShapedOpen Tryd.prog) : Knows (fun b => b < W.heap.size) W := by
  obtain ⟨m, hm⟩ := cell_of_shapedOpen_int (P := Tryd.prog) (w := W) (g := 0) (t := 3) (zero := #[.int .i64 0]) (k := .i64) h (of_decide_eq_true (by kernel_rfl)) (by kernel_rfl) rfl (by kernel_rfl) (by kernel_rfl) (by kernel_rfl)
  refine ⟨fun b hb => ?_, m, hm⟩
  obtain rfl : b = 0 := hb
  unfold World.cell? at hm
  rcases Nat.lt_or_ge 0 W.heap.size with h1 | h1
  · exact h1
  · rw [Array.getElem?_eq_none h1] at hm; simp at hm
end Go.Q
