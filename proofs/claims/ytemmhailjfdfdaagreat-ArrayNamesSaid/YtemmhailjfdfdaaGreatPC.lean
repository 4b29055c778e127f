/- Plain laws on bytes. -/
import Derived.Test.YtemmhailjfdfdaaGreatFD
import Derived.Test.YtemmhailjfdfdaaGreatPS
namespace Go.Q
open Go

theorem chk_pos {ρ : Type} {c : Prop} {X : Option ρ} (h : c) : chk c X = X := if_pos h
theorem w64n {x : Int} (h0 : 0 ≤ x) (h : x < 9223372036854775808) : IntKind.i64.wrap x = x := w64 ⟨by omega, h⟩
theorem eqL (s t : ByteArray) : (s.toList == t.toList) = (L s == L t) := by rw [toList_L, toList_L]
end Go.Q
