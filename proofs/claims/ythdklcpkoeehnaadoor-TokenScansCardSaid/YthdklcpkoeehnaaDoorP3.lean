import Derived.Test.YthdklcpkoeehnaaDoorP2
namespace Go.Q
open Go Go.Proofs

theorem num_j0 (u : BS) (n : Nat) (r : Bool) (hu : u.length < 2 ^ 60) (hn : n ≤ u.length) : Tok.number.j0 (B u) n r = some (((n + expo (u.drop n) : Nat) : Int), r || decide (0 < expo (u.drop n))) := by
  unfold Tok.number.j0
  rw [chk_pos ⟨by omega, by rw [size_B]; omega⟩]
  simp only [letk, Int.toNat_natCast, ext_D1]
  have h1 := expo_le (u.drop n)
  rw [List.length_drop] at h1
  rw [Tok.exponent_eq _ (by rw [size_B, List.length_drop]; omega)]
  simp only [Option.bind_some, L_B, gt_iff_lt]
  by_cases h : 0 < expo (u.drop n)
  · rw [decide_eq_true (by omega : (0 : Int) < (expo (u.drop n) : Int)), decide_eq_true h, w64n (by omega) (by omega)]
    simp
  · have h0 : expo (u.drop n) = 0 := by omega
    rw [h0]
    simp

theorem num_j3 (u : BS) (n : Nat) (r : Bool) (hu : u.length < 2 ^ 60) (hn : n < u.length) : Tok.number.j3 (B u) n r =
    some ((((if r then (n + (1 + preL pDigit (u.drop (n + 1)))) + expo (u.drop (n + (1 + preL pDigit (u.drop (n + 1))))) else n + expo (u.drop n) : Nat)) : Int),
      r || decide (0 < expo (u.drop n))) := by
  unfold Tok.number.j3
  cases r with
  | false => simp only [cond]; rw [num_j0 u n false hu (by omega)]; simp
  | true =>
    simp only [cond, letk]
    have h1 := preL_le pDigit (u.drop (n + 1))
    rw [List.length_drop] at h1
    rw [w64n (by omega) (by omega), chk_pos ⟨by omega, by rw [size_B]; omega⟩, show ((n : Int) + 1).toNat = n + 1 by omega, ext_D1, Tok.run_eq Tok.isDigit_eq _ (by rw [size_B, List.length_drop]; omega)]
    simp only [Option.bind_some, L_B]
    rw [w64n (x := 1 + _) (by omega) (by omega), w64n (by omega) (by omega)]
    have := num_j0 u (n + (1 + preL pDigit (u.drop (n + 1)))) true hu (by omega)
    rw [show (((n + (1 + preL pDigit (u.drop (n + 1))) : Nat)) : Int) = (n : Int) + (1 + (preL pDigit (u.drop (n + 1)) : Int)) by omega] at this
    rw [this]
    simp

theorem Tok.number_eq (s : ByteArray) (hs : s.size < 2 ^ 60) : Tok.number s = some ((numN (L s) : Int), numR (L s)) := by
  obtain ⟨u, rfl⟩ : ∃ u, s = B u := ⟨L s, (B_L s).symm⟩
  rw [L_B]
  rw [size_B] at hs
  have hsz : (B u).size = u.length := rfl
  have hle := preL_le pDigit u
  unfold Tok.number
  rw [Tok.run_eq Tok.isDigit_eq _ (by rw [size_B]; omega)]
  simp only [Option.bind_some, letk, L_B]
  have no : hasPoint u = false → Tok.number.j1 (B u) (preL pDigit u : Nat) false = some ((numN u : Int), numR u) := fun h => by
    unfold Tok.number.j1 numN numR pointN
    rw [h]
    simp only [cond, Bool.false_eq_true, if_false]
    rw [num_j0 u _ false hs hle]
  by_cases hlt : preL pDigit u < u.length
  · rw [decide_eq_true (by omega : ((preL pDigit u : Nat) : Int) < ((B u).size : Int))]
    simp only [cond]
    rw [chk_pos (by omega), show bt (B u) (preL pDigit u : Nat) = ((u.getD (preL pDigit u) 0).toNat : Int) from rfl, (u8n _).2.2.1]
    cases h46 : u.getD (preL pDigit u) 0 == 46 with
    | false => exact no (by unfold hasPoint; rw [h46]; simp)
    | true =>
      simp only []
      rw [chk_pos (by omega), Int.toNat_natCast, ext_D1, Tok.word_eq _ (by rw [size_B, List.length_drop]; omega)]
      simp only [Option.bind_some, eqL, L_B, L_e]
      cases hw : wordOf (u.drop (preL pDigit u)) == [] with
      | false =>
        have hw' : ¬ wordOf (u.drop (preL pDigit u)) = [] := beq_eq_false_iff_ne.1 hw
        exact no (by unfold hasPoint; rw [decide_eq_false hw']; simp)
      | true =>
        have hw' : wordOf (u.drop (preL pDigit u)) = [] := beq_iff_eq.1 hw
        unfold Tok.number.j1
        simp only [cond, letk]
        have hp : hasPoint u = pointOk (u.drop (preL pDigit u + 1)) := by
          unfold hasPoint; rw [decide_eq_true hlt, h46, decide_eq_true hw']; simp
        -- what stands behind the point
        have fin : ∀ r : Bool, r = pointOk (u.drop (preL pDigit u + 1)) → Tok.number.j3 (B u) (preL pDigit u : Nat) r = some ((numN u : Int), numR u) := by
          rintro r rfl
          rw [num_j3 u _ _ hs hlt]
          unfold numN numR pointN
          rw [hp]
          cases h : pointOk (u.drop (preL pDigit u + 1)) <;> simp
        rw [w64n (by omega) (by omega)]
        have hnl : (u.drop (preL pDigit u + 1)).length = u.length - (preL pDigit u + 1) := List.length_drop
        by_cases hn : preL pDigit u + 1 < u.length
        · rw [decide_eq_true (by omega : ((preL pDigit u : Nat) : Int) + 1 < ((B u).size : Int))]
          simp only []
          rw [w64n (by omega) (by omega), chk_pos (by omega)]
          have hnext : (B u).extract ((preL pDigit u : Nat) + 1 : Int).toNat ((preL pDigit u : Nat) + 2 : Int).toNat = B [(u.drop (preL pDigit u + 1)).getD 0 0] := by
            rw [← B_L ((B u).extract _ _), L_ext, L_B, show (((preL pDigit u : Nat) : Int) + 1).toNat = preL pDigit u + 1 by omega, show (((preL pDigit u : Nat) : Int) + 2).toNat = preL pDigit u + 2 by omega]
            congr 1
            rw [List.drop_take, show preL pDigit u + 2 - (preL pDigit u + 1) = 1 by omega]
            cases h : u.drop (preL pDigit u + 1) with
            | nil => rw [h] at hnl; simp at hnl; omega
            | cons a r => rfl
          rw [hnext]
          unfold Tok.number.j2
          simp only [letk, eqL, L_B, L_e]
          rw [show (([(u.drop (preL pDigit u + 1)).getD 0 0] : BS) == []) = false from rfl]
          simp only [cond]
          rw [chk_pos ⟨by omega, by rw [size_B]; show (0 : Int) < 1; omega⟩, show bt (B [(u.drop (preL pDigit u + 1)).getD 0 0]) 0 = (((u.drop (preL pDigit u + 1)).getD 0 0).toNat : Int) from rfl, Tok.isLetter_eq]
          simp only [Option.bind_some]
          have hne : ¬ u.drop (preL pDigit u + 1) = [] := by intro h; rw [h] at hnl; simp at hnl; omega
          cases hlet : pLetter (((u.drop (preL pDigit u + 1)).getD 0 0).toNat : Int) with
          | false => exact fin true (by unfold pointOk; rw [hlet]; simp)
          | true =>
            simp only [Bool.not_true]
            rw [contE _ rfl]
            simp only [Option.bind_some, L_B]
            exact fin _ (by unfold pointOk; rw [hlet, decide_eq_false hne]; rfl)
        · rw [decide_eq_false (by omega : ¬ ((preL pDigit u : Nat) : Int) + 1 < ((B u).size : Int))]
          simp only []
          have hne : u.drop (preL pDigit u + 1) = [] := List.drop_of_length_le (by omega)
          unfold Tok.number.j2
          simp only [letk, beq_self_eq_true]
          exact fin true (by unfold pointOk; rw [decide_eq_true hne]; rfl)
  · rw [decide_eq_false (by omega : ¬ ((preL pDigit u : Nat) : Int) < ((B u).size : Int))]
    exact no (by unfold hasPoint; rw [decide_eq_false hlt]; rfl)
end Go.Q
