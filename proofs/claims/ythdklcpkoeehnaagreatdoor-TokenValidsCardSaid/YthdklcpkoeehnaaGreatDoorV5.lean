/- TokenValids, for every token and every text. -/
import Derived.Test.YthdklcpkoeehnaaGreatDoorV4
namespace Go.Q
open Go Go.Proofs
theorem contains_dD : ∀ l : BS, Lib.containsAny l [100, 68] = l.any fun c => c == 100 || c == 68 := by
  intro l
  unfold Lib.containsAny
  induction l with
  | nil => rfl
  | cons c l ih =>
    have hge := Lib.indexAny_ge [100, 68] l
    rw [List.any_cons, ← ih]
    rw [show Lib.indexAny (c :: l) [100, 68] = if ([(100 : UInt8), 68].contains c) = true then 0 else if (Lib.indexAny l [100, 68] == -1) = true then -1 else Lib.indexAny l [100, 68] + 1 from rfl]
    have hc : [(100 : UInt8), 68].contains c = (c == 100 || c == 68) := by
      simp [List.contains, List.elem]
      cases c == 100 <;> cases c == 68 <;> rfl
    rw [hc]
    cases (c == 100 || c == 68) with
    | true => rfl
    | false =>
      simp only [Bool.false_eq_true, if_false, Bool.false_or]
      by_cases h : Lib.indexAny l [100, 68] = -1
      · rw [if_pos (beq_iff_eq.2 h), h]
      · rw [if_neg (by rw [beq_iff_eq]; exact h)]
        rw [decide_eq_true (by omega : 0 ≤ Lib.indexAny l [100, 68] + 1), decide_eq_true (by omega : 0 ≤ Lib.indexAny l [100, 68])]
theorem TokenValids_eq (t : api.Token) (s : ByteArray) : Law4.TokenValids t s = some true := by
  refine valids_of t s (fun h => ?_)
  unfold Strs.ContainsAny
  rw [chk_pos ⟨by omega, rfl⟩]
  exact congrArg some (contains_dD _)
end Go.Q
