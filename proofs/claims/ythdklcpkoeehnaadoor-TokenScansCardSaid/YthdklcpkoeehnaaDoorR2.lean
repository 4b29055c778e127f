import Derived.Test.YthdklcpkoeehnaaDoorR1
namespace Go.Q
open Go Go.Proofs
set_option maxRecDepth 10000

/-- What stands behind digits is a point of the number, as the reference says. -/
def hasPt (u : BS) : Bool :=
  (u.getD (preL pDigit u) 0 == 46) && (decide (wordOf (u.drop (preL pDigit u)) = []) && !(decide (0 < preL pDigit u) && (pLetter ((u.getD (preL pDigit u + 1) 0).toNat : Int) && !isExp (u.getD (preL pDigit u + 1) 0))))
def ptN (u : BS) : Nat := if hasPt u then preL pDigit u + (1 + preL pDigit (u.drop (preL pDigit u + 1))) else preL pDigit u
def manyN (u : BS) : Nat := if hasPt u then preL pDigit u + preL pDigit (u.drop (preL pDigit u + 1)) else preL pDigit u
def refN (u : BS) : Nat := ptN u + powN (u.drop (ptN u))
def refR (u : BS) : Bool := hasPt u || decide (0 < powN (u.drop (ptN u)))
def refBad (u : BS) : Bool := pPart ((u.getD (refN u) 0).toNat : Int) || (if refR u then decide (60 < manyN u) else decide (10 < manyN u))
def refNum (u : BS) : Option ((BS × BS) × Nat) := if refBad u then none else some ((if refR u then kReal else kInt, small (u.take (refN u))), refN u)

def NextR (r : Option (api.Token × Int × Bool)) (o : Option ((BS × BS) × Nat)) : Prop :=
  match o with
  | some (t, n) => r = some (toTok t, (n : Int), true)
  | none => ∃ t n, r = some (t, n, false)

theorem powN_le (u : BS) : powN u ≤ u.length := by
  unfold powN
  split
  · omega
  · split
    · omega
    · rename_i h1 h2
      have := preL_le pDigit (u.drop (expoN u))
      rw [List.length_drop] at this
      omega
theorem hasPt_lt {u : BS} (h : hasPt u = true) : preL pDigit u < u.length := by
  unfold hasPt at h
  simp only [Bool.and_eq_true, beq_iff_eq] at h
  rcases Nat.lt_or_ge (preL pDigit u) u.length with h1 | h1
  · exact h1
  · rw [getD_past h1] at h
    exact absurd h.1 (by decide)
theorem ptN_le (u : BS) : ptN u ≤ u.length := by
  unfold ptN
  have h1 := preL_le pDigit u
  have h2 := preL_le pDigit (u.drop (preL pDigit u + 1))
  rw [List.length_drop] at h2
  split
  · rename_i h
    have := hasPt_lt h
    omega
  · exact h1
theorem refN_le (u : BS) : refN u ≤ u.length := by
  have h1 := ptN_le u
  have h2 := powN_le (u.drop (ptN u))
  rw [List.length_drop] at h2
  unfold refN; omega
theorem wordsFind (l : BS) : (Go.Q.words.find? (wtest l)).getD [] = wordOf l := rfl

section
variable (l : BS) (i : Nat) (hl : l.length < 2 ^ 31) (hi : i < l.length)
include hl hi
theorem number_j1 (a b : ByteArray) (n many : Nat) (r : Bool) (hn : n ≤ (l.drop i).length) (_hm : many ≤ l.length) :
    Ref4.number.j1 (B l) i many a b n (B (if r then kReal else kInt)) = some (if pPart (((l.drop i).getD n 0).toNat : Int) || (if r then decide (60 < many) else decide (10 < many)) then ((⟨⟨#[]⟩, ⟨#[]⟩⟩ : api.Token), 0, false) else (toTok (if r then kReal else kInt, small ((l.drop i).take n)), (n : Int), true)) := by
  have hsz : (B l).size = l.length := rfl
  have hn' : i + n ≤ l.length := by rw [List.length_drop] at hn; omega
  have j3 : ∀ k, Ref4.number.j3 (B l) i n (B k) a b true = some ((⟨⟨#[]⟩, ⟨#[]⟩⟩ : api.Token), 0, false) := fun k => rfl
  have j2 : ∀ k, Ref4.number.j3 (B l) i n (B k) a b false = some (toTok (k, small ((l.drop i).take n)), (n : Int), true) := by
    intro k
    unfold Ref4.number.j3 Ref4.number.j2
    simp only [letk, cond]
    rw [w64n (x := (i : Int) + n) (by omega) (by omega), chk_pos (by omega), show (i : Int) + n = ((i + n : Nat) : Int) by omega, Int.toNat_natCast, Int.toNat_natCast]
    rw [show (B l).extract i (i + n) = B ((l.drop i).take n) by rw [← B_L ((B l).extract i (i + n)), L_ext, L_B, List.drop_take, Nat.add_sub_cancel_left]]
    rw [Ref4.Lower_eq _ (by rw [size_B, List.length_take, List.length_drop]; omega), L_B]
    rfl
  unfold Ref4.number.j1
  simp only [letk]
  rw [w64n (x := (i : Int) + n) (by omega) (by omega), show (i : Int) + n = ((i + n : Nat) : Int) by omega, Ref4.at_eq]
  simp only [Option.bind_some]
  rw [Ref4.isInner_eq, getD_dropZ]
  simp only [Option.bind_some, eqL, L_B]
  cases hp : pPart ((l.getD (i + n) 0).toNat : Int) with
  | true => simp only [cond_true, Bool.true_or, if_true]; exact j3 _
  | false =>
    simp only [cond_false, Bool.false_or]
    cases r with
    | true =>
      simp only [if_true]
      rw [show (kReal == L ⟨#[105, 110, 116]⟩) = false from rfl, show (kReal == L ⟨#[114, 101, 97, 108]⟩) = true from rfl, cond_false, cond_true, show decide ((many : Int) > 60) = decide (60 < many) by rw [decide_eq_decide]; omega]
      cases decide (60 < many) with
      | true => exact j3 _
      | false => exact j2 _
    | false =>
      simp only [Bool.false_eq_true, if_false]
      rw [show (kInt == L ⟨#[105, 110, 116]⟩) = true from rfl, show (kInt == L ⟨#[114, 101, 97, 108]⟩) = false from rfl, cond_true, show decide ((many : Int) > 10) = decide (10 < many) by rw [decide_eq_decide]; omega]
      cases decide (10 < many) with
      | true => exact j3 _
      | false => exact j2 _

theorem number_j0 (a b : ByteArray) (n many : Nat) (r : Bool) (hn : n ≤ (l.drop i).length) (hm : many ≤ l.length) :
    Ref4.number.j0 (B l) i a b n many (B (if r then kReal else kInt)) = some (if pPart (((l.drop i).getD (n + powN ((l.drop i).drop n)) 0).toNat : Int) || (if r || decide (0 < powN ((l.drop i).drop n)) then decide (60 < many) else decide (10 < many)) then ((⟨⟨#[]⟩, ⟨#[]⟩⟩ : api.Token), 0, false)
      else (toTok (if r || decide (0 < powN ((l.drop i).drop n)) then kReal else kInt, small ((l.drop i).take (n + powN ((l.drop i).drop n)))), ((n + powN ((l.drop i).drop n) : Nat) : Int), true)) := by
  have hn' : i + n ≤ l.length := by rw [List.length_drop] at hn; omega
  have hp := powN_le ((l.drop i).drop n)
  rw [List.length_drop, List.length_drop] at hp
  unfold Ref4.number.j0
  simp only [letk]
  rw [w64n (x := (i : Int) + n) (by omega) (by omega), show (i : Int) + n = ((i + n : Nat) : Int) by omega, Ref4.power_eq l _ (by omega) (by omega)]
  simp only [Option.bind_some]
  rw [show (l.drop (i + n)) = (l.drop i).drop n by rw [List.drop_drop]]
  generalize powN ((l.drop i).drop n) = k at *
  by_cases hk : 0 < k
  · rw [decide_eq_true (by omega : (k : Int) > 0), cond_true, w64n (by omega) (by omega), show (n : Int) + k = ((n + k : Nat) : Int) by omega]
    have := number_j1 l i hl hi a b (n + k) many true (by rw [List.length_drop]; omega) hm
    rw [decide_eq_true hk]
    simp only [Bool.or_true, if_true] at this ⊢
    exact this
  · obtain rfl : k = 0 := by omega
    rw [decide_eq_false (by omega : ¬ ((0 : Nat) : Int) > 0), cond_false]
    simp only [Nat.add_zero, Nat.lt_irrefl, decide_false, Bool.or_false]
    exact number_j1 l i hl hi a b n many r hn hm

theorem number_next : NextR (Ref4.number (B l) i) (refNum (l.drop i)) := by
  have hsz : (B l).size = l.length := rfl
  have key : Ref4.number (B l) i = some (if refBad (l.drop i) then ((⟨⟨#[]⟩, ⟨#[]⟩⟩ : api.Token), 0, false) else (toTok (if refR (l.drop i) then kReal else kInt, small ((l.drop i).take (refN (l.drop i)))), (refN (l.drop i) : Int), true)) := by
    have h1 := preL_le pDigit (l.drop i)
    have h2 := preL_le pDigit ((l.drop i).drop (preL pDigit (l.drop i) + 1))
    rw [List.length_drop] at h1
    rw [List.length_drop, List.length_drop] at h2
    have j4 : Ref4.number.j4 (B l) i (preL pDigit (l.drop i) : Nat) ⟨#[]⟩ ⟨#[]⟩ (hasPt (l.drop i)) = some (if refBad (l.drop i) then ((⟨⟨#[]⟩, ⟨#[]⟩⟩ : api.Token), 0, false) else (toTok (if refR (l.drop i) then kReal else kInt, small ((l.drop i).take (refN (l.drop i)))), (refN (l.drop i) : Int), true)) := by
      unfold Ref4.number.j4 refBad refR refN manyN
      cases hp : hasPt (l.drop i) with
      | true =>
        have h3 := hasPt_lt hp
        rw [List.length_drop] at h3
        have hpt : ptN (l.drop i) = preL pDigit (l.drop i) + (1 + preL pDigit ((l.drop i).drop (preL pDigit (l.drop i) + 1))) := by unfold ptN; rw [hp]; rfl
        rw [hpt]
        simp only [letk, cond_true, if_true]
        generalize preL pDigit (l.drop i) = n0 at *
        rw [w64n (x := (i : Int) + (n0 : Nat)) (by omega) (by omega), w64n (x := (i : Int) + (n0 : Nat) + 1) (by omega) (by omega), show (i : Int) + (n0 : Nat) + 1 = ((i + n0 + 1 : Nat) : Int) by omega, Ref4.digits_eq l _ (by omega) (by omega)]
        simp only [Option.bind_some]
        have e : l.drop (i + n0 + 1) = (l.drop i).drop (n0 + 1) := by rw [List.drop_drop]; rfl
        rw [e]
        generalize hk : preL pDigit ((l.drop i).drop (n0 + 1)) = k at *
        rw [w64n (x := (n0 : Int) + (k : Nat)) (by omega) (by omega), w64n (x := (1 : Int) + (k : Nat)) (by omega) (by omega), w64n (by omega) (by omega), show (n0 : Int) + (1 + (k : Nat)) = ((n0 + (1 + k) : Nat) : Int) by omega, show (n0 : Int) + (k : Nat) = ((n0 + k : Nat) : Int) by omega]
        have := number_j0 l i hl hi ⟨#[]⟩ ⟨#[]⟩ (n0 + (1 + k)) (n0 + k) true (by rw [List.length_drop]; omega) (by omega)
        simp only [if_true, Bool.true_or] at this ⊢
        exact this
      | false =>
        have hpt : ptN (l.drop i) = preL pDigit (l.drop i) := by unfold ptN; rw [hp]; rfl
        rw [hpt]
        simp only [letk, cond_false, Bool.false_eq_true, if_false]
        have := number_j0 l i hl hi ⟨#[]⟩ ⟨#[]⟩ (preL pDigit (l.drop i)) (preL pDigit (l.drop i)) false (by rw [List.length_drop]; omega) (by omega)
        simp only [Bool.false_eq_true, if_false, Bool.false_or] at this ⊢
        exact this
    unfold Ref4.number
    rw [Ref4.digits_eq l i (by omega) (by omega)]
    simp only [Option.bind_some, letk]
    rw [w64n (x := (i : Int) + (preL pDigit (l.drop i) : Nat)) (by omega) (by omega), show (i : Int) + (preL pDigit (l.drop i) : Nat) = ((i + preL pDigit (l.drop i) : Nat) : Int) by omega, Ref4.at_eq]
    simp only [Option.bind_some]
    rw [(u8n _).2.2.1]
    have eg : l.getD (i + preL pDigit (l.drop i)) 0 = (l.drop i).getD (preL pDigit (l.drop i)) 0 := (getD_dropZ _ _ _).symm
    rw [eg, Ref4.words_eq]
    simp only [Option.bind_some]
    rw [chk_pos (by omega), Int.toNat_natCast, ext_D1]
    rw [Ref4.starts_eq _ _ (by rw [List.length_drop]; omega) (by decide)]
    simp only [Option.bind_some]
    rw [wordsFind, eqL, L_B, Ref4.stray_eq l _ _ (by omega)]
    simp only [Option.bind_some]
    have eg1 : l.getD (i + preL pDigit (l.drop i) + 1) 0 = (l.drop i).getD (preL pDigit (l.drop i) + 1) 0 := by rw [getD_dropZ]; rfl
    rw [eg1, show l.drop (i + preL pDigit (l.drop i)) = (l.drop i).drop (preL pDigit (l.drop i)) by rw [List.drop_drop]]
    unfold hasPt at j4
    cases h46 : (l.drop i).getD (preL pDigit (l.drop i)) 0 == 46 with
    | false => rw [h46] at j4; exact j4
    | true =>
      rw [h46] at j4
      by_cases hw : wordOf ((l.drop i).drop (preL pDigit (l.drop i))) = []
      · rw [hw] at j4 ⊢
        rw [show (([] : BS) == L ⟨#[]⟩) = true from rfl]
        exact j4
      · rw [decide_eq_false hw] at j4
        rw [show (wordOf ((l.drop i).drop (preL pDigit (l.drop i))) == L ⟨#[]⟩) = false from beq_eq_false_iff_ne.2 hw]
        exact j4
  unfold NextR refNum
  rw [key]
  cases refBad (l.drop i) with
  | true => exact ⟨_, _, rfl⟩
  | false => rfl
end
end Go.Q
