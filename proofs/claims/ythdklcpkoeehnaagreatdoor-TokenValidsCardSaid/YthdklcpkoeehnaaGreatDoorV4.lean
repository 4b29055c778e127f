import Derived.Test.YthdklcpkoeehnaaGreatDoorVA
namespace Go.Q
open Go Go.Proofs
set_option maxRecDepth 10000

theorem bool_ne (b : Bool) : (!(b == b)) = false := by cases b <;> rfl
theorem valids_of (t : api.Token) (s : ByteArray) (hK : t.Text.size ≤ 300 → Strs.ContainsAny t.Text ⟨#[100, 68]⟩ = some ((L t.Text).any fun c => c == 100 || c == 68)) : Law4.TokenValids t s = some true := by
  unfold Law4.TokenValids
  simp only [letk, Law4.Awake_eq, Option.bind_some]
  by_cases ht : (t.Text.size : Int) > 300
  · rw [decide_eq_true ht]; rfl
  by_cases hs : (s.size : Int) > 300
  · rw [decide_eq_false ht, decide_eq_true hs]; rfl
  rw [decide_eq_false ht, decide_eq_false hs, cond_false, cond_false]
  unfold Law4.TokenValids.j0
  rw [Tok.Valid_eq _ (by show t.Text.size < _; omega), Ref4.Valid_eq _ (by show t.Text.size < _; omega)]
  simp only [Option.bind_some, letk]
  rw [bool_ne, cond_false, Tok.IsName_eq _ (by omega), Ref4.IsName_eq _ (by omega)]
  simp only [Option.bind_some]
  rw [bool_ne, cond_false, Ref4.Kind8_eq _ (by omega)]
  unfold Tok.Kind8
  rw [hK (by omega)]
  simp only [Option.bind_some]
  rw [bool_ne, cond_false]
  exact valids_j1 s (by omega)
end Go.Q
