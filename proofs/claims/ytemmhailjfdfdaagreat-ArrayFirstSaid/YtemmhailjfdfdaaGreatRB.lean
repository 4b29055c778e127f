/- The reference's floats, taken apart; its sums. -/
import Derived.Test.YtemmhailjfdfdaaGreatRA
namespace Go.Q
open Go
set_option maxRecDepth 100000
set_option maxHeartbeats 4000000

section
variable {c : Int} (hc : c = 0 ∨ c = 1 ∨ c = 2 ∨ c = 3)
include hc
end

def I64 (a : Int) : Prop := -9223372036854775808 ≤ a ∧ a < 9223372036854775808

end Go.Q
namespace Go.Q
open Go
set_option maxRecDepth 100000
set_option maxHeartbeats 4000000

end Go.Q
namespace Go.Q
open Go
set_option maxRecDepth 100000
set_option maxHeartbeats 4000000

section
variable {kind mode : Int} {p w : Nat} (h : kindS kind p w) (hm : 0 ≤ mode ∧ mode < 4)
include h hm

end
end Go.Q
namespace Go.Q
open Go
set_option maxRecDepth 100000
set_option maxHeartbeats 4000000

section
variable {kind mode : Int} {p w : Nat} (h : kindS kind p w)
include h
end
end Go.Q
namespace Go.Q
open Go
set_option maxRecDepth 100000
set_option maxHeartbeats 4000000

section
variable {kind mode : Int} {p w : Nat} (h : kindS kind p w)
include h

end
end Go.Q
namespace Go.Q
open Go
set_option maxRecDepth 100000
set_option maxHeartbeats 4000000

theorem wrap_mod {v : Nat} (hv : v < 18446744073709551616) : IntKind.i64.wrap (v : Int) % 18446744073709551616 = v ∧ I64 (IntKind.i64.wrap (v : Int)) := by
  unfold I64
  rcases Nat.lt_or_ge v 9223372036854775808 with q | q
  · rw [wi (by omega) (by omega)]; omega
  · rw [wi_neg (by omega) (by omega)]; omega

section
variable {kind mode : Int} {p w : Nat} (h : kindS kind p w)
include h

end
end Go.Q
