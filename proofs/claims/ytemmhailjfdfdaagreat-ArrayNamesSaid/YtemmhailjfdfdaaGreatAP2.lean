/- ArrayNames: the law's function answers true. -/
import Derived.Test.YtemmhailjfdfdaaGreatAP1
import Derived.Test.YtemmhailjfdfdaaGreatAG2
namespace Go.Q
open Go
set_option maxRecDepth 10000
set_option maxHeartbeats 2000000

theorem names_l0 (name : ByteArray) : ∀ k n : Nat, n + k = nms.length → Law7.ArrayNames.l0 name (BL nms) (BL nms) n = some true := by
  intro k
  have hl : nms.length = 26 := rfl
  induction k with
  | zero =>
    intro n hn
    rw [Law7.ArrayNames.l0_eq, Law7.ArrayNames.s0]
    simp only [letk, BL_len]
    rw [decide_eq_false (by omega : ¬ (n : Int) < (nms.length : Int))]
    simp only [cond, Arr.Arity_eq, Ref7.Arity_eq, Option.bind_some, beq_self_eq_true, Law7.Awake_eq, Option.map_some, Sum.elim_inr]
  | succ k ih =>
    intro n hn
    have hlt : n < nms.length := by omega
    rw [Law7.ArrayNames.l0_eq, Law7.ArrayNames.s0]
    simp only [letk, BL_len]
    rw [decide_eq_true (by omega : (n : Int) < (nms.length : Int))]
    simp only [cond]
    rw [chk_pos (by omega), Int.toNat_natCast, BL_get hlt]
    simp only [Option.bind_some, Arr.Arity_eq, Ref7.Arity_eq]
    rw [chk_pos (by omega), chk_pos (by omega), chk_pos (by omega), w64n (by omega) (by omega)]
    simp only [Option.bind_some, beq_self_eq_true, Bool.not_true, bne_self_eq_false, Sum.elim_inl]
    exact ih (n + 1) (by omega)

theorem ArrayNames_eq (name : ByteArray) : Law7.ArrayNames name = some true := by
  unfold Law7.ArrayNames
  rw [Arr.Names_eq, Ref7.Names_eq]
  simp only [Option.bind_some, letk, bne_self_eq_false, cond]
  exact names_l0 name nms.length 0 (by omega)
end Go.Q
