/- The reference's natural numbers: lists of binary digits. -/
import Derived.Test.YtemmhailjfdfdaaGreatFN
namespace Go.Q
open Go
set_option maxRecDepth 100000
set_option maxHeartbeats 4000000

theorem bd_high {n i : Nat} (h : bl n ≤ i) : n / 2 ^ i = 0 := Nat.div_eq_of_lt (bl_le_iff.1 h)
theorem div_low {n i : Nat} (h : i < bl n) : 0 < n / 2 ^ i := by
  have h0 : 0 < n := by
    rcases Nat.eq_zero_or_pos n with h1 | h1
    · rw [h1] at h; cases h
    · exact h1
  have := bl_le h0
  rw [Nat.lt_iff_add_one_le, Nat.zero_add, Nat.le_div_iff_mul_le (Nat.two_pow_pos i), Nat.one_mul]
  exact Nat.le_trans (Nat.pow_le_pow_right (by decide) (by omega)) this
theorem bl_div (n k : Nat) : bl (n / 2 ^ k) = bl n - k := by
  rcases Nat.lt_or_ge k (bl n) with h | h
  · have h0 := div_low h
    have := bl_ref (n := n / 2 ^ k) (k := k) (r := n % 2 ^ k) h0 (Nat.mod_lt _ (Nat.two_pow_pos k))
    rw [Nat.mul_comm, Nat.div_add_mod] at this
    omega
  · rw [bd_high h, show bl n - k = 0 by omega]; rfl
end Go.Q
namespace Go.Q
open Go
set_option maxRecDepth 100000
set_option maxHeartbeats 4000000

end Go.Q
namespace Go.Q
open Go
set_option maxRecDepth 100000
set_option maxHeartbeats 4000000

theorem letkE {α ρ : Type} (x : α) (X : α → Option ρ) : letk x X = X x := Eq.trans rfl rfl
theorem condT {α : Type} (x y : α) : cond true x y = x := Eq.trans rfl rfl
theorem condF {α : Type} (x y : α) : cond false x y = y := Eq.trans rfl rfl
theorem bindS {α β : Type} (x : α) (f : α → Option β) : Option.bind (some x) f = f x := Eq.trans rfl rfl
section
variable {kind : Int} {p w : Nat} (h : kindS kind p w)
include h
end

end Go.Q
namespace Go.Q
open Go
set_option maxRecDepth 100000
set_option maxHeartbeats 4000000

end Go.Q
