import Derived.Test.YthdklcpkoeehnaaGreatDoorPB
namespace Go.Q
open Go Go.Proofs
set_option maxRecDepth 10000

/-! the functions of the reference, in plain words -/

theorem Ref4.isDigit_eq (c : Int) : Ref4.isDigit c = some (pDigit c) := by
  unfold Ref4.isDigit pDigit
  simp only [letk, ge_iff_le]
  cases decide (48 ≤ c) <;> simp
theorem Ref4.isLetter_eq (c : Int) : Ref4.isLetter c = some (pLetter c) := by
  unfold Ref4.isLetter pLetter
  simp only [letk, ge_iff_le]
  cases decide (97 ≤ c) <;> cases decide (c ≤ 122) <;> cases decide (65 ≤ c) <;> simp
theorem Ref4.isInner_eq (c : Int) : Ref4.isInner c = some (pPart c) := by
  unfold Ref4.isInner pPart
  rw [Ref4.isLetter_eq, Ref4.isDigit_eq]
  simp only [Option.bind_some, letk]
  cases pLetter c <;> cases pDigit c <;> simp
  rw [Bool.eq_iff_iff]; simp
theorem getD_past {l : BS} {i : Nat} (h : l.length ≤ i) : l.getD i 0 = 0 := by
  rw [List.getD_eq_getElem?_getD, List.getElem?_eq_none h]; rfl
theorem Ref4.at_eq (l : BS) (i : Nat) : Ref4.at_ (B l) i = some ((l.getD i 0).toNat : Int) := by
  have hsz : (B l).size = l.length := rfl
  unfold Ref4.at_
  simp only [letk]
  by_cases h : i < l.length
  · rw [decide_eq_true (by omega : (i : Int) < ((B l).size : Int)), cond_true, chk_pos (by omega)]
    rfl
  · rw [decide_eq_false (by omega : ¬ (i : Int) < ((B l).size : Int)), cond_false, getD_past (by omega)]
    rfl
theorem small_app (a b : BS) : small (a ++ b) = small a ++ small b := by simp [small]
theorem small_len (a : BS) : (small a).length = a.length := by simp [small]
theorem low_step (c : UInt8) (_ac : BS) (X : ByteArray → Option ((ByteArray × Int) ⊕ ByteArray)) :
    (bif decide ((c.toNat : Int) ≥ 65) then letk (decide ((c.toNat : Int) ≤ 90)) fun t => bif t then letk (IntKind.u8.wrap ((c.toNat : Int) + 32)) fun x => X (ofInts [x]) else X (ofInts [(c.toNat : Int)]) else X (ofInts [(c.toNat : Int)])) = X (B [low c]) := by
  have e1 : ∀ d : UInt8, ofInts [(d.toNat : Int)] = B [d] := fun d => ofInts_nat [d]
  have hc := c.toNat_lt
  by_cases h1 : 65 ≤ c.toNat ∧ c.toNat ≤ 90
  · have e2 : low c = c + 32 := by
      have := bytes_all (fun c => !(decide (65 ≤ c.toNat) && decide (c.toNat ≤ 90)) || low c == c + 32) (by decide +kernel) c
      simp only [decide_eq_true h1.1, decide_eq_true h1.2, Bool.and_self, Bool.not_true, Bool.false_or, beq_iff_eq] at this
      exact this
    have dn : (c + 32).toNat = c.toNat + 32 := by
      rw [UInt8.toNat_add, show (32 : UInt8).toNat = 32 from rfl]; omega
    rw [decide_eq_true (by omega : (c.toNat : Int) ≥ 65), cond_true, decide_eq_true (by omega : (c.toNat : Int) ≤ 90)]
    simp only [letk, cond]
    rw [u8w _ (by omega) (by omega), show (c.toNat : Int) + 32 = ((c + 32).toNat : Int) by rw [dn]; omega, e1, e2]
  · have e2 : low c = c := low_same c (by omega)
    rw [e2]
    by_cases h2 : 65 ≤ c.toNat
    · rw [decide_eq_true (by omega : (c.toNat : Int) ≥ 65), cond_true, decide_eq_false (by omega : ¬ (c.toNat : Int) ≤ 90)]
      simp only [letk, cond, e1]
    · rw [decide_eq_false (by omega : ¬ (c.toNat : Int) ≥ 65), cond_false, e1]
theorem lower_s0 (l ac : BS) (n : Nat) (hn : n < l.length) (hl : l.length < 2 ^ 40) (ha : ac.length < 2 ^ 40) : Ref4.Lower.s0 (B l) (B ac) n = some (.inl (B (ac ++ [low (l.getD n 0)]), ((n + 1 : Nat) : Int))) := by
  have hsz : (B l).size = l.length := rfl
  unfold Ref4.Lower.s0
  simp only [letk]
  rw [decide_eq_true (by omega : (n : Int) < ((B l).size : Int)), cond_true, chk_pos (by omega), show bt (B l) n = ((l.getD n 0).toNat : Int) from rfl]
  have := low_step (l.getD n 0) ac (fun t26 => chk ((((B ac).size + t26.size : Nat) : Int) ≤ 9223372036854775807) (some (.inl (B ac ++ t26, IntKind.i64.wrap ((n : Int) + 1)))))
  unfold Ref4.Lower.j0
  simp only [letk] at this ⊢
  rw [this, chk_pos (by rw [size_B, size_B]; simp only [List.length_cons, List.length_nil]; omega), w64n (by omega) (by omega), B_appR]
  rfl
theorem lower_l0 (l : BS) (hl : l.length < 2 ^ 39) : ∀ k n : Nat, n + k = l.length → Ref4.Lower.l0 (B l) (B (small (l.take n))) n = some (B (small l)) := by
  have hsz : (B l).size = l.length := rfl
  intro k
  induction k with
  | zero =>
    intro n hn
    rw [Ref4.Lower.l0_eq, Ref4.Lower.s0]
    simp only [letk]
    rw [decide_eq_false (by omega : ¬ (n : Int) < ((B l).size : Int)), List.take_of_length_le (by omega)]
    rfl
  | succ k ih =>
    intro n hn
    rw [Ref4.Lower.l0_eq, lower_s0 l _ n (by omega) (by omega) (by rw [small_len, List.length_take]; omega)]
    simp only [Option.bind_some, Sum.elim_inl]
    have e : small (l.take (n + 1)) = small (l.take n) ++ [low (l.getD n 0)] := by
      rw [List.take_succ_eq_append_getElem (by omega : n < l.length), show l.getD n 0 = l[n] by rw [List.getD_eq_getElem?_getD, List.getElem?_eq_getElem (by omega)]; rfl, small_app]
      rfl
    rw [← e]
    exact ih (n + 1) (by omega)
theorem Ref4.Lower_eq (s : ByteArray) (hs : s.size < 2 ^ 39) : Ref4.Lower s = some (B (small (L s))) := by
  unfold Ref4.Lower
  have := lower_l0 (L s) (by rw [L_len]; exact hs) (L s).length 0 (by omega)
  rw [B_L] at this
  exact this
theorem digits_l0 (l : BS) (i : Nat) (hl : l.length < 2 ^ 40) (hi : i < 2 ^ 40) : ∀ k n : Nat, l.length ≤ n + i + k → n + i ≤ l.length + i → Ref4.digits.l0 (B l) i n = some ((n + preL pDigit (l.drop (i + n)) : Nat) : Int) := by
  have h0 : pDigit 0 = false := by decide
  have key : ∀ n : Nat, n ≤ l.length → Ref4.digits.s0 (B l) i n = (if i + n < l.length ∧ pDigit ((l.getD (i + n) 0).toNat : Int) = true then some (.inl ((n + 1 : Nat) : Int)) else some (.inr (n : Int))) := by
    intro n hn
    unfold Ref4.digits.s0
    simp only [letk]
    rw [w64n (x := (i : Int) + n) (by omega) (by omega), show (i : Int) + n = ((i + n : Nat) : Int) by omega, Ref4.at_eq]
    simp only [Option.bind_some]
    rw [Ref4.isDigit_eq]
    simp only [Option.bind_some]
    by_cases h : i + n < l.length
    · cases hd : pDigit ((l.getD (i + n) 0).toNat : Int) with
      | true => rw [if_pos ⟨h, rfl⟩, cond_true, w64n (by omega) (by omega)]; rfl
      | false => rw [if_neg (fun e => by cases e.2), cond_false]
    · rw [getD_past (by omega), if_neg (fun e => h e.1), show pDigit (((0 : UInt8).toNat : Nat) : Int) = false from h0, cond_false]
  intro k
  induction k with
  | zero =>
    intro n h1 h2
    rw [Ref4.digits.l0_eq, key n (by omega), if_neg (fun e => by omega), List.drop_of_length_le (by omega)]
    rfl
  | succ k ih =>
    intro n h1 h2
    rw [Ref4.digits.l0_eq, key n (by omega)]
    by_cases h : i + n < l.length
    · rw [preL_step _ h]
      cases hd : pDigit ((l.getD (i + n) 0).toNat : Int) with
      | true =>
        rw [if_pos ⟨h, rfl⟩]
        simp only [Option.bind_some, Sum.elim_inl, if_true]
        rw [ih (n + 1) (by omega) (by omega), show n + 1 + preL pDigit (l.drop (i + (n + 1))) = n + (1 + preL pDigit (l.drop (i + n + 1))) by rw [show i + (n + 1) = i + n + 1 by omega]; omega]
      | false =>
        rw [if_neg (fun e => by cases e.2)]
        simp
    · rw [if_neg (fun e => h e.1), List.drop_of_length_le (by omega)]
      rfl
theorem Ref4.digits_eq (l : BS) (i : Nat) (hl : l.length < 2 ^ 40) (hi : i < 2 ^ 40) : Ref4.digits (B l) i = some ((preL pDigit (l.drop i) : Nat) : Int) := by
  unfold Ref4.digits
  have := digits_l0 l i hl hi l.length 0 (by omega) (by omega)
  rw [show ((0 : Nat) : Int) = 0 from rfl] at this
  rw [this, Nat.zero_add, Nat.add_zero]
theorem Ref4.words_eq : Ref4.words = some (BL Go.Q.words) := rfl
theorem Ref4.ops_eq : Ref4.ops = some (BL Go.Q.signs) := rfl
theorem starts_l0 (ws : List BS) (l : BS) (hl : l.length < 2 ^ 39) (hw : ws.length < 2 ^ 40) : ∀ k n : Nat, n + k = ws.length → (∀ j (h1 : j < ws.length), j < n → wtest l ws[j] = false) →
    Ref4.starts.l0 (BL ws) (B l) n = some (B ((ws.find? (wtest l)).getD [])) := by
  have hsz : (B l).size = l.length := rfl
  intro k
  induction k with
  | zero =>
    intro n hn hj
    rw [Ref4.starts.l0_eq, Ref4.starts.s0]
    simp only [letk]
    rw [BL_len, decide_eq_false (by omega : ¬ (n : Int) < (ws.length : Int)), find_no (p := wtest l) hj (by omega)]
    rfl
  | succ k ih =>
    intro n hn hj
    have hlt : n < ws.length := by omega
    rw [Ref4.starts.l0_eq, Ref4.starts.s0]
    simp only [letk]
    rw [BL_len, decide_eq_true (by omega : (n : Int) < (ws.length : Int)), cond_true, chk_pos (by omega), Int.toNat_natCast, BL_get hlt]
    simp only [Option.bind_some]
    have hw1 : (B ws[n]).size = ws[n].length := rfl
    have j0 : ∀ b, wtest l ws[n] = b → (Ref4.starts.j0 (BL ws) (B l) n b).bind (Sum.elim (fun n => Ref4.starts.l0 (BL ws) (B l) n) some) = some (B ((ws.find? (wtest l)).getD [])) := by
      intro b hb
      unfold Ref4.starts.j0
      cases b with
      | true =>
        rw [cond_true, chk_pos (by omega), Int.toNat_natCast, BL_get hlt, find_at (p := wtest l) hj hlt hb]
        rfl
      | false =>
        rw [cond_false]
        simp only [letk]
        rw [w64n (by omega) (by omega)]
        exact ih (n + 1) (by omega) (no_succ (p := wtest l) hj hlt hb)
    by_cases h : ws[n].length ≤ l.length
    · rw [decide_eq_true (by omega : ((B ws[n]).size : Int) ≤ ((B l).size : Int)), cond_true, chk_pos (by omega), Int.toNat_natCast, hw1, ext_T1, Ref4.Lower_eq _ (by rw [size_B, List.length_take]; omega)]
      simp only [Option.bind_some]
      rw [chk_pos (by omega), eqL, L_B, L_B, L_B]
      exact j0 _ (by simp [wtest, h])
    · rw [decide_eq_false (by omega : ¬ ((B ws[n]).size : Int) ≤ ((B l).size : Int)), cond_false]
      exact j0 _ (by simp [wtest, h])
theorem Ref4.starts_eq (ws : List BS) (l : BS) (hl : l.length < 2 ^ 39) (hw : ws.length < 2 ^ 40) : Ref4.starts (BL ws) (B l) = some (B ((ws.find? (wtest l)).getD [])) := by
  unfold Ref4.starts
  exact starts_l0 ws l hl hw ws.length 0 (by omega) (fun j _ h => by omega)
theorem u8b (c : UInt8) : ((c.toNat : Int) != 101) = !(c == 101) ∧ ((c.toNat : Int) != 69) = !(c == 69) ∧ ((c.toNat : Int) != 100) = !(c == 100) ∧ ((c.toNat : Int) != 68) = !(c == 68) := by
  have h := fun n hn => beq_u8 c n hn
  refine ⟨?_, ?_, ?_, ?_⟩
  · exact congrArg not (h 101 (by omega))
  · exact congrArg not (h 69 (by omega))
  · exact congrArg not (h 100 (by omega))
  · exact congrArg not (h 68 (by omega))
theorem Ref4.stray_eq (l : BS) (i a : Nat) (hi : i < 2 ^ 40) : Ref4.stray (B l) i a = some (decide (0 < a) && (pLetter ((l.getD (i + 1) 0).toNat : Int) && !isExp (l.getD (i + 1) 0))) := by
  unfold Ref4.stray isExp
  simp only [letk]
  rw [w64n (x := (i : Int) + 1) (by omega) (by omega), show (i : Int) + 1 = ((i + 1 : Nat) : Int) by omega, Ref4.at_eq]
  simp only [Option.bind_some]
  rw [Ref4.isLetter_eq, (u8b _).1, (u8b _).2.1, (u8b _).2.2.1, (u8b _).2.2.2]
  simp only [Option.bind_some]
  rw [show decide ((a : Int) > 0) = decide (0 < a) by simp []]
  cases decide (0 < a) <;> cases pLetter ((l.getD (i + 1) 0).toNat : Int) <;> cases l.getD (i + 1) 0 == 101 <;> cases l.getD (i + 1) 0 == 69 <;> cases l.getD (i + 1) 0 == 100 <;> cases l.getD (i + 1) 0 == 68 <;> rfl
/-- The length of an exponent as the reference counts it. -/
def powN (l : BS) : Nat := if isExp (l.getD 0 0) = false then 0 else
  if preL pDigit (l.drop (expoN l)) = 0 then 0 else expoN l + min (preL pDigit (l.drop (expoN l))) 3
theorem getD_dropZ (l : BS) (i j : Nat) : (l.drop i).getD j 0 = l.getD (i + j) 0 := by
  simp [List.getD_eq_getElem?_getD, List.getElem?_drop]
theorem power_j1 (l : BS) (i n : Nat) (hl : l.length < 2 ^ 40) (hi : i + n < 2 ^ 40) : Ref4.power.j1 (B l) i n = some ((if preL pDigit (l.drop (i + n)) = 0 then 0 else n + min (preL pDigit (l.drop (i + n))) 3 : Nat) : Int) := by
  unfold Ref4.power.j1
  simp only [letk]
  rw [w64n (x := (i : Int) + n) (by omega) (by omega), show (i : Int) + n = ((i + n : Nat) : Int) by omega, Ref4.digits_eq l _ hl hi]
  simp only [Option.bind_some]
  have hle := preL_le pDigit (l.drop (i + n))
  rw [List.length_drop] at hle
  generalize preL pDigit (l.drop (i + n)) = k at *
  by_cases h : k = 0
  · subst h; rfl
  · rw [int_bne (by omega : ¬ (k : Int) = 0), cond_false, if_neg h]
    by_cases h3 : 3 < k
    · rw [if_pos (by omega : (3 : Int) < (k : Int)), w64n (by omega) (by omega), Nat.min_eq_right (by omega)]; rfl
    · rw [if_neg (by omega : ¬ (3 : Int) < (k : Int)), w64n (by omega) (by omega), Nat.min_eq_left (by omega)]; rfl
theorem Ref4.power_eq (l : BS) (i : Nat) (hl : l.length < 2 ^ 39) (hi : i < 2 ^ 39) : Ref4.power (B l) i = some ((powN (l.drop i) : Nat) : Int) := by
  have j0 : isExp (l.getD i 0) = true → Ref4.power.j0 (B l) i = some ((powN (l.drop i) : Nat) : Int) := by
    intro he
    unfold Ref4.power.j0 powN
    rw [getD_dropZ, Nat.add_zero, he]
    simp only [letk, Bool.true_eq_false, if_false]
    rw [w64n (x := (i : Int) + 1) (by omega) (by omega), show (i : Int) + 1 = ((i + 1 : Nat) : Int) by omega, Ref4.at_eq]
    simp only [Option.bind_some]
    rw [(u8n _).1, (u8n _).2.1, w64n (x := (1 : Int) + 1) (by omega) (by omega)]
    have e1 : expoN (l.drop i) = if isSign (l.getD (i + 1) 0) then 2 else 1 := by
      unfold expoN
      rw [getD_dropZ, List.length_drop]
      by_cases h : 1 < l.length - i
      · rw [decide_eq_true h, Bool.true_and]
      · rw [decide_eq_false h, Bool.false_and, getD_past (by omega)]
        rfl
    rw [e1, List.drop_drop]
    unfold isSign
    have a1 := power_j1 l i 1 (by omega) (by omega)
    have a2 := power_j1 l i 2 (by omega) (by omega)
    cases h1 : l.getD (i + 1) 0 == 43 with
    | true => exact a2
    | false =>
      cases h2 : l.getD (i + 1) 0 == 45 with
      | true => exact a2
      | false => exact a1
  unfold Ref4.power
  rw [Ref4.at_eq]
  simp only [Option.bind_some, letk]
  rw [(u8b _).1, (u8b _).2.1, (u8b _).2.2.1, (u8b _).2.2.2]
  have hx : isExp (l.getD i 0) = (l.getD i 0 == 101 || l.getD i 0 == 69 || l.getD i 0 == 100 || l.getD i 0 == 68) := rfl
  cases h1 : l.getD i 0 == 101 with
  | true => exact j0 (by rw [hx, h1]; rfl)
  | false =>
    cases h2 : l.getD i 0 == 69 with
    | true => exact j0 (by rw [hx, h2]; simp)
    | false =>
      cases h3 : l.getD i 0 == 100 with
      | true => exact j0 (by rw [hx, h3]; simp)
      | false =>
        cases h4 : l.getD i 0 == 68 with
        | true => exact j0 (by rw [hx, h4]; simp)
        | false =>
          have : isExp ((l.drop i).getD 0 0) = false := by rw [getD_dropZ, Nat.add_zero, hx, h1, h2, h3, h4]; rfl
          unfold powN
          rw [if_pos this]
          rfl
end Go.Q
namespace Go.Q
open Go Go.Proofs
set_option maxRecDepth 10000

/-- What stands behind digits is a point of the number, as the reference says. -/
def hasPt (u : BS) : Bool :=
  (u.getD (preL pDigit u) 0 == 46) && (decide (wordOf (u.drop (preL pDigit u)) = []) && !(decide (0 < preL pDigit u) && (pLetter ((u.getD (preL pDigit u + 1) 0).toNat : Int) && !isExp (u.getD (preL pDigit u + 1) 0))))
def ptN (u : BS) : Nat := if hasPt u then preL pDigit u + (1 + preL pDigit (u.drop (preL pDigit u + 1))) else preL pDigit u
def manyN (u : BS) : Nat := if hasPt u then preL pDigit u + preL pDigit (u.drop (preL pDigit u + 1)) else preL pDigit u
def refN (u : BS) : Nat := ptN u + powN (u.drop (ptN u))
def refR (u : BS) : Bool := hasPt u || decide (0 < powN (u.drop (ptN u)))
def refBad (u : BS) : Bool := pPart ((u.getD (refN u) 0).toNat : Int) || (if refR u then decide (60 < manyN u) else decide (10 < manyN u))
def refNum (u : BS) : Option ((BS × BS) × Nat) := if refBad u then none else some ((if refR u then kReal else kInt, small (u.take (refN u))), refN u)

def NextR (r : Option (api.Token × Int × Bool)) (o : Option ((BS × BS) × Nat)) : Prop :=
  match o with
  | some (t, n) => r = some (toTok t, (n : Int), true)
  | none => ∃ t n, r = some (t, n, false)

theorem powN_le (u : BS) : powN u ≤ u.length := by
  unfold powN
  split
  · omega
  · split
    · omega
    · rename_i h1 h2
      have := preL_le pDigit (u.drop (expoN u))
      rw [List.length_drop] at this
      omega
theorem hasPt_lt {u : BS} (h : hasPt u = true) : preL pDigit u < u.length := by
  unfold hasPt at h
  simp only [Bool.and_eq_true, beq_iff_eq] at h
  rcases Nat.lt_or_ge (preL pDigit u) u.length with h1 | h1
  · exact h1
  · rw [getD_past h1] at h
    exact absurd h.1 (by decide)
theorem ptN_le (u : BS) : ptN u ≤ u.length := by
  unfold ptN
  have h1 := preL_le pDigit u
  have h2 := preL_le pDigit (u.drop (preL pDigit u + 1))
  rw [List.length_drop] at h2
  split
  · rename_i h
    have := hasPt_lt h
    omega
  · exact h1
theorem refN_le (u : BS) : refN u ≤ u.length := by
  have h1 := ptN_le u
  have h2 := powN_le (u.drop (ptN u))
  rw [List.length_drop] at h2
  unfold refN; omega
theorem wordsFind (l : BS) : (Go.Q.words.find? (wtest l)).getD [] = wordOf l := rfl

section
variable (l : BS) (i : Nat) (hl : l.length < 2 ^ 31) (hi : i < l.length)
include hl hi
theorem number_j1 (a b : ByteArray) (n many : Nat) (r : Bool) (hn : n ≤ (l.drop i).length) (_hm : many ≤ l.length) :
    Ref4.number.j1 (B l) i many a b n (B (if r then kReal else kInt)) = some (if pPart (((l.drop i).getD n 0).toNat : Int) || (if r then decide (60 < many) else decide (10 < many)) then ((⟨⟨#[]⟩, ⟨#[]⟩⟩ : api.Token), 0, false) else (toTok (if r then kReal else kInt, small ((l.drop i).take n)), (n : Int), true)) := by
  have hsz : (B l).size = l.length := rfl
  have hn' : i + n ≤ l.length := by rw [List.length_drop] at hn; omega
  have j3 : ∀ k, Ref4.number.j3 (B l) i n (B k) a b true = some ((⟨⟨#[]⟩, ⟨#[]⟩⟩ : api.Token), 0, false) := fun k => rfl
  have j2 : ∀ k, Ref4.number.j3 (B l) i n (B k) a b false = some (toTok (k, small ((l.drop i).take n)), (n : Int), true) := by
    intro k
    unfold Ref4.number.j3 Ref4.number.j2
    simp only [letk, cond]
    rw [w64n (x := (i : Int) + n) (by omega) (by omega), chk_pos (by omega), show (i : Int) + n = ((i + n : Nat) : Int) by omega, Int.toNat_natCast, Int.toNat_natCast]
    rw [show (B l).extract i (i + n) = B ((l.drop i).take n) by rw [← B_L ((B l).extract i (i + n)), L_ext, L_B, List.drop_take, Nat.add_sub_cancel_left]]
    rw [Ref4.Lower_eq _ (by rw [size_B, List.length_take, List.length_drop]; omega), L_B]
    rfl
  unfold Ref4.number.j1
  simp only [letk]
  rw [w64n (x := (i : Int) + n) (by omega) (by omega), show (i : Int) + n = ((i + n : Nat) : Int) by omega, Ref4.at_eq]
  simp only [Option.bind_some]
  rw [Ref4.isInner_eq, getD_dropZ]
  simp only [Option.bind_some, eqL, L_B]
  cases hp : pPart ((l.getD (i + n) 0).toNat : Int) with
  | true => simp only [cond_true, Bool.true_or, if_true]; exact j3 _
  | false =>
    simp only [cond_false, Bool.false_or]
    cases r with
    | true =>
      simp only [if_true]
      rw [show (kReal == L ⟨#[105, 110, 116]⟩) = false from rfl, show (kReal == L ⟨#[114, 101, 97, 108]⟩) = true from rfl, cond_false, cond_true, show decide ((many : Int) > 60) = decide (60 < many) by rw [decide_eq_decide]; omega]
      cases decide (60 < many) with
      | true => exact j3 _
      | false => exact j2 _
    | false =>
      simp only [Bool.false_eq_true, if_false]
      rw [show (kInt == L ⟨#[105, 110, 116]⟩) = true from rfl, show (kInt == L ⟨#[114, 101, 97, 108]⟩) = false from rfl, cond_true, show decide ((many : Int) > 10) = decide (10 < many) by rw [decide_eq_decide]; omega]
      cases decide (10 < many) with
      | true => exact j3 _
      | false => exact j2 _

theorem number_j0 (a b : ByteArray) (n many : Nat) (r : Bool) (hn : n ≤ (l.drop i).length) (hm : many ≤ l.length) :
    Ref4.number.j0 (B l) i a b n many (B (if r then kReal else kInt)) = some (if pPart (((l.drop i).getD (n + powN ((l.drop i).drop n)) 0).toNat : Int) || (if r || decide (0 < powN ((l.drop i).drop n)) then decide (60 < many) else decide (10 < many)) then ((⟨⟨#[]⟩, ⟨#[]⟩⟩ : api.Token), 0, false)
      else (toTok (if r || decide (0 < powN ((l.drop i).drop n)) then kReal else kInt, small ((l.drop i).take (n + powN ((l.drop i).drop n)))), ((n + powN ((l.drop i).drop n) : Nat) : Int), true)) := by
  have hn' : i + n ≤ l.length := by rw [List.length_drop] at hn; omega
  have hp := powN_le ((l.drop i).drop n)
  rw [List.length_drop, List.length_drop] at hp
  unfold Ref4.number.j0
  simp only [letk]
  rw [w64n (x := (i : Int) + n) (by omega) (by omega), show (i : Int) + n = ((i + n : Nat) : Int) by omega, Ref4.power_eq l _ (by omega) (by omega)]
  simp only [Option.bind_some]
  rw [show (l.drop (i + n)) = (l.drop i).drop n by rw [List.drop_drop]]
  generalize powN ((l.drop i).drop n) = k at *
  by_cases hk : 0 < k
  · rw [decide_eq_true (by omega : (k : Int) > 0), cond_true, w64n (by omega) (by omega), show (n : Int) + k = ((n + k : Nat) : Int) by omega]
    have := number_j1 l i hl hi a b (n + k) many true (by rw [List.length_drop]; omega) hm
    rw [decide_eq_true hk]
    simp only [Bool.or_true, if_true] at this ⊢
    exact this
  · obtain rfl : k = 0 := by omega
    rw [decide_eq_false (by omega : ¬ ((0 : Nat) : Int) > 0), cond_false]
    simp only [Nat.add_zero, Nat.lt_irrefl, decide_false, Bool.or_false]
    exact number_j1 l i hl hi a b n many r hn hm

theorem number_next : NextR (Ref4.number (B l) i) (refNum (l.drop i)) := by
  have hsz : (B l).size = l.length := rfl
  have key : Ref4.number (B l) i = some (if refBad (l.drop i) then ((⟨⟨#[]⟩, ⟨#[]⟩⟩ : api.Token), 0, false) else (toTok (if refR (l.drop i) then kReal else kInt, small ((l.drop i).take (refN (l.drop i)))), (refN (l.drop i) : Int), true)) := by
    have h1 := preL_le pDigit (l.drop i)
    have h2 := preL_le pDigit ((l.drop i).drop (preL pDigit (l.drop i) + 1))
    rw [List.length_drop] at h1
    rw [List.length_drop, List.length_drop] at h2
    have j4 : Ref4.number.j4 (B l) i (preL pDigit (l.drop i) : Nat) ⟨#[]⟩ ⟨#[]⟩ (hasPt (l.drop i)) = some (if refBad (l.drop i) then ((⟨⟨#[]⟩, ⟨#[]⟩⟩ : api.Token), 0, false) else (toTok (if refR (l.drop i) then kReal else kInt, small ((l.drop i).take (refN (l.drop i)))), (refN (l.drop i) : Int), true)) := by
      unfold Ref4.number.j4 refBad refR refN manyN
      cases hp : hasPt (l.drop i) with
      | true =>
        have h3 := hasPt_lt hp
        rw [List.length_drop] at h3
        have hpt : ptN (l.drop i) = preL pDigit (l.drop i) + (1 + preL pDigit ((l.drop i).drop (preL pDigit (l.drop i) + 1))) := by unfold ptN; rw [hp]; rfl
        rw [hpt]
        simp only [letk, cond_true, if_true]
        generalize preL pDigit (l.drop i) = n0 at *
        rw [w64n (x := (i : Int) + (n0 : Nat)) (by omega) (by omega), w64n (x := (i : Int) + (n0 : Nat) + 1) (by omega) (by omega), show (i : Int) + (n0 : Nat) + 1 = ((i + n0 + 1 : Nat) : Int) by omega, Ref4.digits_eq l _ (by omega) (by omega)]
        simp only [Option.bind_some]
        have e : l.drop (i + n0 + 1) = (l.drop i).drop (n0 + 1) := by rw [List.drop_drop]; rfl
        rw [e]
        generalize hk : preL pDigit ((l.drop i).drop (n0 + 1)) = k at *
        rw [w64n (x := (n0 : Int) + (k : Nat)) (by omega) (by omega), w64n (x := (1 : Int) + (k : Nat)) (by omega) (by omega), w64n (by omega) (by omega), show (n0 : Int) + (1 + (k : Nat)) = ((n0 + (1 + k) : Nat) : Int) by omega, show (n0 : Int) + (k : Nat) = ((n0 + k : Nat) : Int) by omega]
        have := number_j0 l i hl hi ⟨#[]⟩ ⟨#[]⟩ (n0 + (1 + k)) (n0 + k) true (by rw [List.length_drop]; omega) (by omega)
        simp only [if_true, Bool.true_or] at this ⊢
        exact this
      | false =>
        have hpt : ptN (l.drop i) = preL pDigit (l.drop i) := by unfold ptN; rw [hp]; rfl
        rw [hpt]
        simp only [letk, cond_false, Bool.false_eq_true, if_false]
        have := number_j0 l i hl hi ⟨#[]⟩ ⟨#[]⟩ (preL pDigit (l.drop i)) (preL pDigit (l.drop i)) false (by rw [List.length_drop]; omega) (by omega)
        simp only [Bool.false_eq_true, if_false, Bool.false_or] at this ⊢
        exact this
    unfold Ref4.number
    rw [Ref4.digits_eq l i (by omega) (by omega)]
    simp only [Option.bind_some, letk]
    rw [w64n (x := (i : Int) + (preL pDigit (l.drop i) : Nat)) (by omega) (by omega), show (i : Int) + (preL pDigit (l.drop i) : Nat) = ((i + preL pDigit (l.drop i) : Nat) : Int) by omega, Ref4.at_eq]
    simp only [Option.bind_some]
    rw [(u8n _).2.2.1]
    have eg : l.getD (i + preL pDigit (l.drop i)) 0 = (l.drop i).getD (preL pDigit (l.drop i)) 0 := (getD_dropZ _ _ _).symm
    rw [eg, Ref4.words_eq]
    simp only [Option.bind_some]
    rw [chk_pos (by omega), Int.toNat_natCast, ext_D1]
    rw [Ref4.starts_eq _ _ (by rw [List.length_drop]; omega) (by decide)]
    simp only [Option.bind_some]
    rw [wordsFind, eqL, L_B, Ref4.stray_eq l _ _ (by omega)]
    simp only [Option.bind_some]
    have eg1 : l.getD (i + preL pDigit (l.drop i) + 1) 0 = (l.drop i).getD (preL pDigit (l.drop i) + 1) 0 := by rw [getD_dropZ]; rfl
    rw [eg1, show l.drop (i + preL pDigit (l.drop i)) = (l.drop i).drop (preL pDigit (l.drop i)) by rw [List.drop_drop]]
    unfold hasPt at j4
    cases h46 : (l.drop i).getD (preL pDigit (l.drop i)) 0 == 46 with
    | false => rw [h46] at j4; exact j4
    | true =>
      rw [h46] at j4
      by_cases hw : wordOf ((l.drop i).drop (preL pDigit (l.drop i))) = []
      · rw [hw] at j4 ⊢
        rw [show (([] : BS) == L ⟨#[]⟩) = true from rfl]
        exact j4
      · rw [decide_eq_false hw] at j4
        rw [show (wordOf ((l.drop i).drop (preL pDigit (l.drop i))) == L ⟨#[]⟩) = false from beq_eq_false_iff_ne.2 hw]
        exact j4
  unfold NextR refNum
  rw [key]
  cases refBad (l.drop i) with
  | true => exact ⟨_, _, rfl⟩
  | false => rfl
end
end Go.Q
namespace Go.Q
open Go Go.Proofs
set_option maxRecDepth 10000

theorem wtest_nil (u : BS) : wtest u [] = true := by simp [wtest, small]
theorem wtest_no (x : UInt8) (o : BS) : wtest [] (x :: o) = false := by simp [wtest]
theorem wtest_cons (c x : UInt8) (u o : BS) : wtest (c :: u) (x :: o) = ((low c == x) && wtest u o) := by
  unfold wtest small
  rw [Bool.eq_iff_iff]
  simp only [List.length_cons, List.take_succ_cons, List.map_cons, Bool.and_eq_true, decide_eq_true_eq, beq_iff_eq, List.cons.injEq, Nat.add_le_add_iff_right]
  constructor
  · rintro ⟨h1, h2, h3⟩; exact ⟨h2, h1, h3⟩
  · rintro ⟨h2, h1, h3⟩; exact ⟨h1, h2, h3⟩
theorem wtest_plain : ∀ (o u : BS), (∀ x ∈ o, plainB x = true) → wtest u o = List.isPrefixOf o u
  | [], u, _ => by rw [wtest_nil]; cases u <;> rfl
  | x :: o, [], _ => by rw [wtest_no]; rfl
  | x :: o, c :: u, h => by
    rw [wtest_cons, wtest_plain o u (fun y hy => h y (List.mem_cons_of_mem _ hy))]
    have hx := h x (List.mem_cons_self ..)
    unfold plainB at hx
    simp only [Bool.and_eq_true, Bool.not_eq_true'] at hx
    have := low_plain (c := c) hx.1
    show _ = ((x == c) && List.isPrefixOf o u)
    congr 1
    rw [Bool.eq_iff_iff, beq_iff_eq, beq_iff_eq, this]
    exact eq_comm
theorem signs_find (u : BS) : Go.Q.signs.find? (wtest u) = Go.Q.signs.find? (·.isPrefixOf u) :=
  find_congr (fun o ho => wtest_plain o u (signs_plain o ho))

def refNext (u : BS) : Option ((BS × BS) × Nat) :=
  if pLetter ((u.getD 0 0).toNat : Int) then (if preL pPart u ≤ 12 then some ((kName, small (u.take (preL pPart u))), preL pPart u) else none)
  else if pDigit ((u.getD 0 0).toNat : Int) = true ∨ u.getD 0 0 = 46 ∧ pDigit ((u.getD 1 0).toNat : Int) = true then refNum u
  else if u.getD 0 0 = 39 ∨ u.getD 0 0 = 34 then (if (quoted u).2 = 0 then none else some ((kText, (quoted u).1), (quoted u).2))
  else if u.getD 0 0 = 46 then (if wordOf u = [] then none else some ((if wordOf u ∈ Go.Q.words.drop 4 then kLog else kOp, wordOf u), (wordOf u).length))
  else match Go.Q.signs.find? (·.isPrefixOf u) with
    | some o => some ((kOp, o), o.length)
    | none => none

section
variable (l : BS) (i : Nat) (hl : l.length < 2 ^ 31) (hi : i < l.length)
include hl hi
theorem rquoted_l0 (hq0 : l.getD i 0 ≠ 0) : ∀ k (n : Nat) (out : BS), l.length - i - n ≤ k → i + n ≤ l.length → QInv (l.drop i) out n →
    Ref4.quoted.l0 (B l) i (B out) ((i + n : Nat) : Int) = some (B (Go.Q.quoted (l.drop i)).1, ((Go.Q.quoted (l.drop i)).2 : Int), decide ((Go.Q.quoted (l.drop i)).2 ≠ 0)) := by
  have hsz : (B l).size = l.length := rfl
  have hbt : ∀ n : Nat, bt (B l) n = ((l.getD n 0).toNat : Int) := fun n => rfl
  have hlen : (l.drop i).length = l.length - i := List.length_drop
  have e0 : (l.drop i).getD 0 0 = l.getD i 0 := by rw [getD_dropZ]; rfl
  have en : ∀ n, (l.drop i).getD n 0 = l.getD (i + n) 0 := fun n => getD_dropZ l i n
  have ext : ∀ n, n < l.length → (B l).extract ((n : Nat) : Int).toNat ((n + 1 : Nat) : Int).toNat = B [l.getD n 0] := fun n hn => by
    rw [Int.toNat_natCast, Int.toNat_natCast, ← B_L ((B l).extract n (n + 1)), L_ext, L_B, List.drop_take, Nat.add_sub_cancel_left, drop_cons hn]
    rfl
  intro k
  induction k with
  | zero =>
    intro n out hn hle hq
    rw [Ref4.quoted.l0_eq, Ref4.quoted.s0]
    simp only [letk]
    rw [decide_eq_false (by omega : ¬ ((i + n : Nat) : Int) < ((B l).size : Int)), hq.none (by omega)]
    rfl
  | succ k ih =>
    intro n out hn hle hq
    have hq1 := hq.1
    have hq2 := hq.2.1
    rw [Ref4.quoted.l0_eq, Ref4.quoted.s0]
    simp only [letk]
    by_cases hlt : i + n < l.length
    · rw [decide_eq_true (by omega : ((i + n : Nat) : Int) < ((B l).size : Int)), cond_true, chk_pos (by omega), chk_pos (by omega), hbt, hbt, bne_u8, w64n (x := ((i + n : Nat) : Int) + 1) (by omega) (by omega), show ((i + n : Nat) : Int) + 1 = ((i + n + 1 : Nat) : Int) by omega, ext _ hlt]
      by_cases hc : l.getD (i + n) 0 = l.getD i 0
      · rw [show (l.getD (i + n) 0 != l.getD i 0) = false by rw [hc]; exact bne_self_eq_false _, cond_false, Ref4.at_eq]
        simp only [Option.bind_some]
        rw [chk_pos (by omega), bne_u8]
        by_cases h2 : l.getD (i + n + 1) 0 = l.getD i 0
        · have hlt2 : i + n + 1 < l.length := by
            rcases Nat.lt_or_ge (i + n + 1) l.length with h | h
            · exact h
            · rw [getD_past h] at h2; exact absurd h2.symm hq0
          rw [show (l.getD (i + n + 1) 0 != l.getD i 0) = false by rw [h2]; exact bne_self_eq_false _, cond_false, chk_pos (by omega), chk_pos (by rw [size_B, size_B]; simp only [List.length_cons, List.length_nil]; omega)]
          simp only [Option.bind_some, Sum.elim_inl]
          rw [w64n (by omega) (by omega), B_appR, hc, ← e0, show ((i + n + 1 : Nat) : Int) + 1 = ((i + (n + 1 + 1) : Nat) : Int) by omega]
          exact ih (n + 1 + 1) _ (by omega) (by omega) (hq.twice (by omega) (by rw [en, e0]; exact hc) (by rw [en, e0]; exact h2))
        · rw [show (l.getD (i + n + 1) 0 != l.getD i 0) = true from bne_iff_ne.2 h2, cond_true]
          simp only [Option.bind_some, Sum.elim_inr]
          rw [w64n (by omega) (by omega), hq.ends (by omega) (by rw [en, e0]; exact hc) (.inr (by rw [en, e0]; exact h2)), show ((i + n + 1 : Nat) : Int) - i = ((n + 1 : Nat) : Int) by omega]
          simp
      · rw [show (l.getD (i + n) 0 != l.getD i 0) = true from bne_iff_ne.2 hc, cond_true, chk_pos (by omega), chk_pos (by rw [size_B, size_B]; simp only [List.length_cons, List.length_nil]; omega)]
        simp only [Option.bind_some, Sum.elim_inl]
        rw [B_appR, ← en]
        exact ih (n + 1) _ (by omega) (by omega) (hq.other (by omega) (by rw [en, e0]; exact hc))
    · rw [decide_eq_false (by omega : ¬ ((i + n : Nat) : Int) < ((B l).size : Int)), hq.none (by omega)]
      rfl
theorem rquoted_eq (hq0 : l.getD i 0 ≠ 0) : Ref4.quoted (B l) i = some (B (Go.Q.quoted (l.drop i)).1, ((Go.Q.quoted (l.drop i)).2 : Int), decide ((Go.Q.quoted (l.drop i)).2 ≠ 0)) := by
  unfold Ref4.quoted
  simp only [letk]
  rw [w64n (by omega) (by omega)]
  exact rquoted_l0 l i hl hi hq0 (l.length - i) 1 [] (by omega) (by omega) (QInv.start _)

theorem rname_l0 (a b : ByteArray) : ∀ k n : Nat, l.length ≤ i + n + k → i + n ≤ l.length →
    Ref4.next_.l0 (B l) i a b n = some (toTok (kName, small ((l.drop i).take (n + preL pPart (l.drop (i + n))))), ((n + preL pPart (l.drop (i + n)) : Nat) : Int), decide (n + preL pPart (l.drop (i + n)) ≤ 12)) := by
  have hsz : (B l).size = l.length := rfl
  have h0 : pPart (((0 : UInt8).toNat : Nat) : Int) = false := by decide
  have stop : ∀ n : Nat, i + n ≤ l.length → (Option.bind ((letk (IntKind.i64.wrap ((i : Int) + (n : Nat))) fun t33 =>
    chk (0 ≤ (i : Int) ∧ (i : Int) ≤ t33 ∧ t33 ≤ ((B l).size : Int)) <|
    letk ((B l).extract (i : Int).toNat t33.toNat) fun t34 =>
    Option.bind (Ref4.Lower t34) fun t35 =>
    letk (decide ((n : Int) ≤ (12 : Int))) fun t39 =>
    some ((⟨⟨#[110, 97, 109, 101]⟩, t35⟩ : api.Token), (n : Int), t39)).map (Sum.inr (α := ByteArray × ByteArray × Int))) (Sum.elim (fun v => Ref4.next_.l0 (B l) i v.1 v.2.1 v.2.2) some)) = some (toTok (kName, small ((l.drop i).take n)), (n : Int), decide (n ≤ 12)) := by
    intro n hn
    simp only [letk]
    rw [w64n (x := (i : Int) + (n : Nat)) (by omega) (by omega), chk_pos (by omega), show (i : Int) + (n : Nat) = ((i + n : Nat) : Int) by omega, Int.toNat_natCast, Int.toNat_natCast]
    rw [show (B l).extract i (i + n) = B ((l.drop i).take n) by rw [← B_L ((B l).extract i (i + n)), L_ext, L_B, List.drop_take, Nat.add_sub_cancel_left]]
    rw [Ref4.Lower_eq _ (by rw [size_B, List.length_take, List.length_drop]; omega), L_B]
    simp only [Option.bind_some, Option.map_some, Sum.elim_inr]
    rw [show decide ((n : Int) ≤ 12) = decide (n ≤ 12) by rw [decide_eq_decide]; omega]
    rfl
  have past : ∀ n : Nat, l.length ≤ i + n → preL pPart (l.drop (i + n)) = 0 := fun n h => by rw [List.drop_of_length_le h]; rfl
  have no : ∀ n : Nat, i + n ≤ l.length → pPart ((l.getD (i + n) 0).toNat : Int) = false → Ref4.next_.l0 (B l) i a b n = some (toTok (kName, small ((l.drop i).take n)), (n : Int), decide (n ≤ 12)) := by
    intro n hn hp
    have := stop n hn
    rw [Ref4.next_.l0_eq, Ref4.next_.s0]
    simp only [letk] at this ⊢
    rw [w64n (x := (i : Int) + (n : Nat)) (by omega) (by omega), show (i : Int) + (n : Nat) = ((i + n : Nat) : Int) by omega, Ref4.at_eq]
    simp only [Option.bind_some]
    rw [Ref4.isInner_eq, hp]
    simp only [Option.bind_some, cond_false]
    rw [w64n (x := (i : Int) + (n : Nat)) (by omega) (by omega), show (i : Int) + (n : Nat) = ((i + n : Nat) : Int) by omega] at this
    exact this
  intro k
  induction k with
  | zero =>
    intro n h1 h2
    rw [no n h2 (by rw [getD_past (by omega)]; exact h0), past n (by omega)]
    rfl
  | succ k ih =>
    intro n h1 h2
    rcases Nat.lt_or_ge (i + n) l.length with h3 | h3
    · cases hp : pPart ((l.getD (i + n) 0).toNat : Int) with
      | false =>
        rw [no n h2 hp, preL_step _ h3, hp]
        rfl
      | true =>
        rw [preL_step _ h3, hp, Ref4.next_.l0_eq, Ref4.next_.s0]
        simp only [letk]
        rw [w64n (x := (i : Int) + (n : Nat)) (by omega) (by omega), show (i : Int) + (n : Nat) = ((i + n : Nat) : Int) by omega, Ref4.at_eq]
        simp only [Option.bind_some]
        rw [Ref4.isInner_eq, hp]
        simp only [Option.bind_some, cond_true, Sum.elim_inl, if_true]
        rw [w64n (by omega) (by omega), show (n : Int) + 1 = ((n + 1 : Nat) : Int) by omega, ih (n + 1) (by omega) (by omega)]
        rw [show n + 1 + preL pPart (l.drop (i + (n + 1))) = n + (1 + preL pPart (l.drop (i + n + 1))) by rw [show i + (n + 1) = i + n + 1 by omega]; omega]
    · rw [no n h2 (by rw [getD_past (by omega)]; exact h0), past n (by omega)]
      rfl

theorem next_eq : NextR (Ref4.next_ (B l) i) (refNext (l.drop i)) := by
  have hsz : (B l).size = l.length := rfl
  have e0 : (l.drop i).getD 0 0 = l.getD i 0 := by rw [getD_dropZ]; rfl
  have e1 : (l.drop i).getD 1 0 = l.getD (i + 1) 0 := by rw [getD_dropZ]
  unfold Ref4.next_ refNext
  rw [chk_pos (by omega), e0, e1]
  simp only [letk]
  rw [show bt (B l) (i : Int) = ((l.getD i 0).toNat : Int) from rfl, Ref4.isLetter_eq]
  simp only [Option.bind_some]
  cases hL : pLetter ((l.getD i 0).toNat : Int) with
  | true =>
    rw [cond_true, if_pos rfl]
    have := rname_l0 l i hl hi ⟨#[]⟩ ⟨#[]⟩ l.length 0 (by omega) (by omega)
    rw [show ((0 : Nat) : Int) = 0 from rfl] at this
    rw [this]
    simp only [Nat.zero_add, Nat.add_zero]
    by_cases h12 : preL pPart (l.drop i) ≤ 12
    · rw [if_pos h12, decide_eq_true h12]; rfl
    · rw [if_neg h12, decide_eq_false h12]; exact ⟨_, _, rfl⟩
  | false =>
    simp only [cond_false, Bool.false_eq_true, if_false]
    rw [Ref4.isDigit_eq]
    simp only [Option.bind_some]
    have num : NextR (Ref4.next_.j1 (B l) i ((l.getD i 0).toNat : Int) ⟨#[]⟩ ⟨#[]⟩ true) (refNum (l.drop i)) := by
      have := number_next l i hl hi
      unfold Ref4.next_.j1
      rw [cond_true]
      unfold NextR at this ⊢
      cases hr : refNum (l.drop i) with
      | none => rw [hr] at this; obtain ⟨t, n, h⟩ := this; rw [h]; exact ⟨_, _, rfl⟩
      | some p => rw [hr] at this; simp only at this ⊢; rw [this]; rfl
    have rest : ¬ (pDigit ((l.getD i 0).toNat : Int) = true ∨ l.getD i 0 = 46 ∧ pDigit ((l.getD (i + 1) 0).toNat : Int) = true) → NextR (Ref4.next_.j1 (B l) i ((l.getD i 0).toNat : Int) ⟨#[]⟩ ⟨#[]⟩ false)
        (if l.getD i 0 = 39 ∨ l.getD i 0 = 34 then (if (quoted (l.drop i)).2 = 0 then none else some ((kText, (quoted (l.drop i)).1), (quoted (l.drop i)).2))
  else if l.getD i 0 = 46 then (if wordOf (l.drop i) = [] then none else some ((if wordOf (l.drop i) ∈ Go.Q.words.drop 4 then kLog else kOp, wordOf (l.drop i)), (wordOf (l.drop i)).length))
  else match Go.Q.signs.find? (·.isPrefixOf (l.drop i)) with
    | some o => some ((kOp, o), o.length)
    | none => none) := by
      intro hnum
      have quot : (l.getD i 0 = 39 ∨ l.getD i 0 = 34) → NextR (Ref4.next_.j2 (B l) i ((l.getD i 0).toNat : Int) ⟨#[]⟩ ⟨#[]⟩ true) (if (quoted (l.drop i)).2 = 0 then none else some ((kText, (quoted (l.drop i)).1), (quoted (l.drop i)).2)) := by
        intro h
        unfold Ref4.next_.j2
        rw [cond_true, rquoted_eq l i hl hi (by rcases h with h | h <;> rw [h] <;> decide)]
        simp only [Option.bind_some]
        by_cases hz : (quoted (l.drop i)).2 = 0
        · rw [if_pos hz, decide_eq_false (fun h => h hz)]; exact ⟨_, _, rfl⟩
        · rw [if_neg hz, decide_eq_true hz]; rfl
      unfold Ref4.next_.j1
      simp only [letk, cond_false]
      rw [(u8n _).2.2.2.2.1, (u8n _).2.2.2.2.2]
      cases h39 : l.getD i 0 == 39 with
      | true =>
        have h := beq_iff_eq.1 h39
        rw [cond_true, if_pos (.inl h)]
        exact quot (.inl h)
      | false =>
        rw [cond_false]
        cases h34 : l.getD i 0 == 34 with
        | true =>
          have h := beq_iff_eq.1 h34
          rw [if_pos (.inr h)]
          exact quot (.inr h)
        | false =>
          rw [if_neg (fun h => h.elim (beq_eq_false_iff_ne.1 h39) (beq_eq_false_iff_ne.1 h34))]
          unfold Ref4.next_.j2
          simp only [letk, cond_false]
          rw [(u8n _).2.2.1]
          have hdl : (l.drop i).length < 2 ^ 39 := by rw [List.length_drop]; omega
          cases h46 : l.getD i 0 == 46 with
          | true =>
            rw [cond_true, if_pos (beq_iff_eq.1 h46), Ref4.words_eq]
            simp only [Option.bind_some]
            rw [chk_pos (by omega), Int.toNat_natCast, ext_D1, Ref4.starts_eq _ _ hdl (by decide)]
            simp only [Option.bind_some]
            rw [wordsFind, eqL, eqL, L_B]
            have e4 : Go.Q.words.drop 4 = [[46, 116, 114, 117, 101, 46], [46, 102, 97, 108, 115, 101, 46]] := rfl
            rw [e4]
            have j3 : ∀ k : BS, NextR (Ref4.next_.j3 ⟨#[]⟩ ⟨#[]⟩ (B (wordOf (l.drop i))) (B k)) (if wordOf (l.drop i) = [] then none else some ((k, wordOf (l.drop i)), (wordOf (l.drop i)).length)) := by
              intro k
              unfold Ref4.next_.j3
              simp only [letk]
              rw [eqL, L_B, L_e]
              by_cases hw : wordOf (l.drop i) = []
              · rw [if_pos hw, hw]; exact ⟨_, _, rfl⟩
              · rw [if_neg hw, beq_eq_false_iff_ne.2 hw]; rfl
            by_cases ht : wordOf (l.drop i) = [46, 116, 114, 117, 101, 46]
            · rw [show (wordOf (l.drop i) == L ⟨#[46, 116, 114, 117, 101, 46]⟩) = true from beq_iff_eq.2 ht, cond_true, if_pos (c := _ ∈ _) (by rw [ht]; simp)]
              exact j3 kLog
            · rw [show (wordOf (l.drop i) == L ⟨#[46, 116, 114, 117, 101, 46]⟩) = false from beq_eq_false_iff_ne.2 ht, cond_false]
              by_cases hf : wordOf (l.drop i) = [46, 102, 97, 108, 115, 101, 46]
              · rw [show (wordOf (l.drop i) == L ⟨#[46, 102, 97, 108, 115, 101, 46]⟩) = true from beq_iff_eq.2 hf, cond_true, if_pos (c := _ ∈ _) (by rw [hf]; simp)]
                exact j3 kLog
              · rw [show (wordOf (l.drop i) == L ⟨#[46, 102, 97, 108, 115, 101, 46]⟩) = false from beq_eq_false_iff_ne.2 hf, cond_false, if_neg (c := _ ∈ _) (by simp [ht, hf])]
                exact j3 kOp
          | false =>
            rw [cond_false, if_neg (beq_eq_false_iff_ne.1 h46)]
            unfold Ref4.next_.j0
            rw [Ref4.ops_eq]
            simp only [Option.bind_some, letk]
            rw [chk_pos (by omega), Int.toNat_natCast, ext_D1, Ref4.starts_eq _ _ hdl (by decide)]
            simp only [Option.bind_some]
            rw [signs_find, eqL, L_B, L_e]
            have hne : ∀ o ∈ Go.Q.signs, o ≠ [] := by decide
            cases hf : Go.Q.signs.find? (·.isPrefixOf (l.drop i)) with
            | none => exact ⟨_, _, rfl⟩
            | some o =>
              have := hne o (List.mem_of_find?_eq_some hf)
              simp only [Option.getD_some]
              rw [beq_eq_false_iff_ne.2 this]
              rfl
    cases hd : pDigit ((l.getD i 0).toNat : Int) with
    | true =>
      rw [cond_true, if_pos (.inl rfl)]
      exact num
    | false =>
      rw [hd] at rest
      simp only [cond_false, Bool.false_eq_true, false_or] at rest ⊢
      rw [(u8n _).2.2.1]
      cases h46 : l.getD i 0 == 46 with
      | true =>
        rw [cond_true, w64n (by omega) (by omega), show (i : Int) + 1 = ((i + 1 : Nat) : Int) by omega, Ref4.at_eq]
        simp only [Option.bind_some]
        rw [Ref4.isDigit_eq]
        simp only [Option.bind_some]
        cases hd1 : pDigit ((l.getD (i + 1) 0).toNat : Int) with
        | true =>
          rw [if_pos ⟨beq_iff_eq.1 h46, rfl⟩]
          exact num
        | false =>
          rw [hd1] at rest
          rw [if_neg (fun h => by cases h.2)]
          exact rest (fun h => by cases h.2)
      | false =>
        have hn := beq_eq_false_iff_ne.1 h46
        rw [cond_false, if_neg (fun h => hn h.1)]
        exact rest (fun h => hn h.1)
end
end Go.Q
namespace Go.Q
open Go Go.Proofs
set_option maxRecDepth 10000

/-! what a real looks like -/

def Digs (l : BS) : Prop := ∀ c ∈ l, pDigit (c.toNat : Int) = true
theorem preL_digs {p : Int → Bool} : ∀ (d r : BS), (∀ c ∈ d, p (c.toNat : Int) = true) → preL p (d ++ r) = d.length + preL p r
  | [], r, _ => by simp
  | c :: d, r, h => by
    have ih := preL_digs d r (fun c hc => h c (List.mem_cons_of_mem _ hc))
    simp only [preL] at ih ⊢
    rw [List.cons_append, List.takeWhile_cons, if_pos (h c (List.mem_cons_self ..)), List.length_cons, List.length_cons, ih]
    omega
theorem preL_stop {p : Int → Bool} {c : UInt8} {r : BS} (h : p (c.toNat : Int) = false) : preL p (c :: r) = 0 := by
  simp only [preL, List.takeWhile_cons, h, Bool.false_eq_true, if_false, List.length_nil]
theorem preL_nil {p : Int → Bool} : preL p [] = 0 := rfl
theorem dig_all (c : UInt8) (h : pDigit (c.toNat : Int) = true) : low c = c ∧ c ≠ 46 ∧ isSign c = false ∧ isExp c = false ∧ pLetter (c.toNat : Int) = false ∧ pPart (c.toNat : Int) = true ∧ c ≠ 101 ∧ c ≠ 100 := by
  have h2 := bytes_all (fun c => !(pDigit (c.toNat : Int)) || (low c == c && c != 46 && !(isSign c) && !(isExp c) && !(pLetter (c.toNat : Int)) && pPart (c.toNat : Int) && c != 101 && c != 100)) (by decide +kernel) c
  simp only [h, Bool.not_true, Bool.false_or, Bool.and_eq_true, beq_iff_eq, bne_iff_ne, Bool.not_eq_true'] at h2
  obtain ⟨⟨⟨⟨⟨⟨⟨a, b⟩, c⟩, d⟩, e⟩, f⟩, g⟩, i⟩ := h2
  exact ⟨a, b, c, d, e, f, g, i⟩
theorem exp_all (c : UInt8) (h : isExp c = true) : (low c = 101 ∨ low c = 100) ∧ isExp (low c) = true ∧ pDigit (c.toNat : Int) = false ∧ c ≠ 46 ∧ pPart (c.toNat : Int) = true := by
  have h2 := bytes_all (fun c => !(isExp c) || ((low c == 101 || low c == 100) && isExp (low c) && !(pDigit (c.toNat : Int)) && c != 46 && pPart (c.toNat : Int))) (by decide +kernel) c
  simp only [h, Bool.not_true, Bool.false_or, Bool.and_eq_true, Bool.or_eq_true, beq_iff_eq, bne_iff_ne, Bool.not_eq_true'] at h2
  obtain ⟨⟨⟨⟨a, b⟩, c⟩, d⟩, e⟩ := h2
  exact ⟨a, b, c, d, e⟩
theorem sign_all (c : UInt8) (h : isSign c = true) : low c = c ∧ pDigit (c.toNat : Int) = false ∧ c ≠ 46 ∧ pLetter (c.toNat : Int) = false := by
  have h2 := bytes_all (fun c => !(isSign c) || (low c == c && !(pDigit (c.toNat : Int)) && c != 46 && !(pLetter (c.toNat : Int)))) (by decide +kernel) c
  simp only [h, Bool.not_true, Bool.false_or, Bool.and_eq_true, beq_iff_eq, bne_iff_ne, Bool.not_eq_true'] at h2
  obtain ⟨⟨⟨a, b⟩, c⟩, d⟩ := h2
  exact ⟨a, b, c, d⟩

/-- The end of a real: nothing, or an exponent of k digits. -/
structure Rest (r : BS) (k : Nat) : Prop where
  digit : preL pDigit r = 0
  dot : r.getD 0 0 ≠ 46
  len : expo r = r.length
  tail : decTail r = decide (k ≤ 4)
  word : wordOf (46 :: r) = []
  point : pointOk r = true
  sm : small r = r
  ix : r = [] ∧ k = 0 ∨ ∃ c t, r = c :: t ∧ ([101, 100] : BS).contains c = true ∧ preL pDigit (trimS t) = k

theorem Rest.none : Rest [] 0 := ⟨rfl, by decide, rfl, rfl, by decide, rfl, rfl, .inl ⟨rfl, rfl⟩⟩

theorem word_none {c d : UInt8} {r : BS} (hc : c = 101 ∨ c = 100) (hd : pLetter (d.toNat : Int) = false) : wordOf (46 :: c :: d :: r) = [] := by
  have hq : low d ≠ 113 := by
    have h2 := bytes_all (fun d => pLetter (d.toNat : Int) || low d != 113) (by decide +kernel) d
    simpa [hd] using h2
  unfold wordOf
  have : words.find? (wtest (46 :: c :: d :: r)) = none := by
    rw [List.find?_eq_none]
    intro w hw
    simp only [words, List.mem_cons, List.not_mem_nil, or_false] at hw
    rw [Bool.not_eq_true]
    rcases hc with rfl | rfl <;> rcases hw with rfl | rfl | rfl | rfl | rfl | rfl <;> simp only [wtest_cons] <;>
      first
      | rw [show (low 46 == 46) = true from by decide, show (low 101 == 101) = true from by decide, beq_eq_false_iff_ne.2 hq]; rfl
      | rw [show (low 46 == 46) = true from by decide]; rfl
  rw [this]; rfl

theorem Rest.some {c : UInt8} {s d : BS} (hc : c = 101 ∨ c = 100) (hs : s = [] ∨ ∃ x, s = [x] ∧ isSign x = true) (hd : Digs d) (h0 : d ≠ []) : Rest (c :: (s ++ d)) d.length := by
  obtain ⟨y, d', rfl⟩ : ∃ y d', d = y :: d' := by cases d with | nil => exact absurd rfl h0 | cons y d' => exact ⟨y, d', rfl⟩
  have hy := hd y (List.mem_cons_self ..)
  obtain ⟨y1, y2, y3, y4, y5, y6, y7, y8⟩ := dig_all y hy
  have hE : isExp c = true := by rcases hc with rfl | rfl <;> rfl
  have cD : pDigit (c.toNat : Int) = false := by rcases hc with rfl | rfl <;> rfl
  have c46 : c ≠ 46 := by rcases hc with rfl | rfl <;> decide
  have cl : low c = c := by rcases hc with rfl | rfl <;> rfl
  have call : ([101, 100] : BS).contains c = true := by rcases hc with rfl | rfl <;> rfl
  have hpd : preL pDigit (y :: d') = (y :: d').length := by
    have := preL_digs (p := pDigit) (y :: d') [] hd
    rwa [List.append_nil, preL_nil, Nat.add_zero] at this
  have smd : small (y :: d') = y :: d' := by
    unfold small
    conv => rhs; rw [← List.map_id (y :: d')]
    exact List.map_congr_left (fun x hx => (dig_all x (hd x hx)).1)
  have un : unsign (s ++ y :: d') = y :: d' := by
    unfold unsign
    rcases hs with rfl | ⟨x, rfl, hx⟩
    · simp [y3]
    · simp [hx]
  have tr : trimS (s ++ y :: d') = y :: d' := by
    unfold trimS
    rcases hs with rfl | ⟨x, rfl, hx⟩
    · simp [y3]
    · simp [hx, y3]
  have eN : expoN (c :: (s ++ y :: d')) = 1 + s.length := by
    unfold expoN
    rcases hs with rfl | ⟨x, rfl, hx⟩
    · simp [y3]
    · simp [hx]
  have dr : (c :: (s ++ y :: d')).drop (1 + s.length) = y :: d' := by
    rw [Nat.add_comm, List.drop_succ_cons, List.drop_left]
  refine ⟨preL_stop cD, c46, ?_, ?_, ?_, ?_, ?_, .inr ⟨c, _, rfl, call, by rw [tr, hpd]⟩⟩
  · unfold expo
    rw [if_neg (by simp [hE]), eN, dr, hpd, if_neg (by simp)]
    simp only [List.length_cons, List.length_append]; omega
  · unfold decTail
    rw [if_neg (by simp), if_pos (by exact hE)]
    rw [show (c :: (s ++ y :: d')).drop 1 = s ++ y :: d' from rfl, un, hpd]
    simp
  · rcases hs with rfl | ⟨x, rfl, hx⟩
    · exact word_none hc y5
    · exact word_none hc (sign_all x hx).2.2.2
  · unfold pointOk
    rw [show (c :: (s ++ y :: d')).getD 0 0 = c from rfl, hE]; simp
  · show low c :: small (s ++ y :: d') = _
    rw [cl, small_app, smd]
    rcases hs with rfl | ⟨x, rfl, hx⟩
    · rfl
    · rw [show small [x] = [low x] from rfl, (sign_all x hx).1]

theorem small_digs {d : BS} (h : Digs d) : small d = d := by
  unfold small
  conv => rhs; rw [← List.map_id d]
  exact List.map_congr_left (fun x hx => (dig_all x (h x hx)).1)
theorem index_app (chars : BS) : ∀ (a r : BS), (∀ c ∈ a, chars.contains c = false) → Lib.indexAny (a ++ r) chars = if Lib.indexAny r chars = -1 then -1 else a.length + Lib.indexAny r chars
  | [], r, _ => by
    simp only [List.nil_append, List.length_nil]
    split <;> simp_all
  | c :: a, r, h => by
    have ih := index_app chars a r (fun c hc => h c (List.mem_cons_of_mem _ hc))
    have hc := h c (List.mem_cons_self ..)
    rw [List.cons_append, Lib.indexAny, hc]
    simp only [Bool.false_eq_true, if_false]
    rw [ih]
    have hge := Lib.indexAny_ge chars r
    by_cases hr : Lib.indexAny r chars = -1
    · rw [if_pos hr, if_pos hr]; rfl
    · rw [if_neg hr, if_neg (by rw [beq_iff_eq]; omega)]
      simp only [List.length_cons]; omega

/-- What of a real's text is true: its first digits d, its point and what follows it (p), its end r. -/
theorem real_of (d p r : BS) (k : Nat) (hd : Digs d) (hr : Rest r k) (hp : p = [] ∧ d ≠ [] ∧ r ≠ [] ∨ ∃ d2, p = 46 :: d2 ∧ Digs d2 ∧ (d ≠ [] ∨ d2 ≠ [])) :
    isRealL (d ++ (p ++ r)) = (decide (d.length + (p.length - 1) ≤ 60) && decide (k ≤ 3)) := by
  have hne : ∀ c ∈ d, ([101, 100] : BS).contains c = false := fun c hc => by
    obtain ⟨_, _, _, _, _, _, a, b⟩ := dig_all c (hd c hc)
    simp [a, b]
  -- the digits ahead
  have pstop : preL pDigit (p ++ r) = 0 := by
    rcases hp with ⟨rfl, _, _⟩ | ⟨d2, rfl, _, _⟩
    · rw [List.nil_append]; exact hr.digit
    · exact preL_stop (by decide)
  have pre : preL pDigit (d ++ (p ++ r)) = d.length := by rw [preL_digs d _ hd, pstop, Nat.add_zero]
  have dr0 : (d ++ (p ++ r)).drop d.length = p ++ r := List.drop_left
  have at0 : (d ++ (p ++ r)).getD d.length 0 = (p ++ r).getD 0 0 := by
    have := getD_dropZ (d ++ (p ++ r)) d.length 0
    rw [dr0] at this
    rw [this]; rfl
  have hw0 : d ++ (p ++ r) ≠ [] := by
    rcases hp with ⟨rfl, h, _⟩ | ⟨d2, rfl, _, _⟩
    · simp [h]
    · simp
  have first : pDigit (((d ++ (p ++ r)).getD 0 0).toNat : Int) = true ∨ (d ++ (p ++ r)).getD 0 0 = 46 := by
    cases d with
    | cons y d' => exact .inl (hd y (List.mem_cons_self ..))
    | nil =>
      rcases hp with ⟨rfl, h, _⟩ | ⟨d2, rfl, _, _⟩
      · exact absurd rfl h
      · exact .inr rfl
  have sm : small (d ++ (p ++ r)) = d ++ (p ++ r) := by
    rw [small_app, small_app, small_digs hd, hr.sm]
    rcases hp with ⟨rfl, _, _⟩ | ⟨d2, rfl, h2, _⟩
    · rfl
    · show d ++ ((low 46 :: small d2) ++ r) = _
      rw [small_digs h2]; rfl
  -- the decimal
  have first' : ∀ x : UInt8, (pDigit (x.toNat : Int) = true ∨ x = 46) → isSign x = false ∧ x ≠ 105 ∧ x ≠ 110 := by
    intro x hx
    have h2 := bytes_all (fun x => !(pDigit (x.toNat : Int) || x == 46) || (!(isSign x) && x != 105 && x != 110)) (by decide +kernel) x
    have h3 : (pDigit (x.toNat : Int) || x == 46) = true := by simpa using hx
    simp only [h3, Bool.not_true, Bool.false_or, Bool.and_eq_true, bne_iff_ne, Bool.not_eq_true'] at h2
    exact ⟨h2.1.1, h2.1.2, h2.2⟩
  obtain ⟨f1, f2, f3⟩ := first' _ first
  have un : unsign (d ++ (p ++ r)) = d ++ (p ++ r) := by unfold unsign; rw [f1]; simp
  have dec : decIs (d ++ (p ++ r)) = (decide (d.length + (p.length - 1) ≤ 60) && decide (k ≤ 4)) := by
    unfold decIs
    rw [un, decide_eq_false (fun e => f2 (by rw [e]; rfl)), decide_eq_false (fun e => f3 (by rw [e]; rfl)), Bool.false_or, Bool.false_or]
    unfold decBody
    simp only [pre, dr0]
    rcases hp with ⟨rfl, h, h3⟩ | ⟨d2, rfl, h2, h4⟩
    · have hl := List.length_pos_iff.2 h
      rw [List.nil_append, if_neg (by simp only [Bool.and_eq_true, beq_iff_eq]; exact fun e => hr.dot e.1), hr.tail]
      simp only [List.length_nil, Nat.zero_sub, Nat.add_zero]
      by_cases h60 : d.length > 60
      · rw [if_pos (by simp [h60]), decide_eq_false (by omega), Bool.false_and]
      · rw [if_neg (by simp only [Bool.or_eq_true, decide_eq_true_eq]; omega), decide_eq_true (show d.length ≤ 60 by omega), Bool.true_and]
    · have hlt : d.length < (d ++ (46 :: d2 ++ r)).length := by simp
      have dr1 : (d ++ (46 :: d2 ++ r)).drop (d.length + 1) = d2 ++ r := by rw [← List.drop_drop, List.drop_left]; rfl
      have p2 : preL pDigit (d2 ++ r) = d2.length := by rw [preL_digs d2 _ h2, hr.digit, Nat.add_zero]
      have dr2 : (d ++ (46 :: d2 ++ r)).drop (d.length + 1 + d2.length) = r := by rw [← List.drop_drop, dr1, List.drop_left]
      have hl : 0 < d.length + d2.length := by
        rcases h4 with h | h
        · have := List.length_pos_iff.2 h; omega
        · have := List.length_pos_iff.2 h; omega
      rw [if_pos (by simp []), dr1, p2, dr2, hr.tail]
      simp only [List.length_cons, Nat.add_sub_cancel]
      by_cases h60 : d.length + d2.length > 60
      · rw [if_pos (by simp [h60]), decide_eq_false (by omega), Bool.false_and]
      · rw [if_neg (by simp only [Bool.or_eq_true, decide_eq_true_eq]; omega), decide_eq_true (show d.length + d2.length ≤ 60 by omega), Bool.true_and]
  -- the number
  have num : numR (d ++ (p ++ r)) = true ∧ numN (d ++ (p ++ r)) = (d ++ (p ++ r)).length := by
    rcases hp with ⟨rfl, h, h3⟩ | ⟨d2, rfl, h2, h4⟩
    · have hpt : hasPoint (d ++ ([] ++ r)) = false := by
        unfold hasPoint
        rw [pre, at0, List.nil_append, show (r.getD 0 0 == 46) = false from beq_eq_false_iff_ne.2 hr.dot]
        simp
      have hpn : pointN (d ++ ([] ++ r)) = d.length := by unfold pointN; rw [hpt, pre]; rfl
      have hl := List.length_pos_iff.2 h3
      unfold numR numN
      rw [hpt, hpn, dr0, List.nil_append, hr.len]
      exact ⟨by simp [hl], by simp⟩
    · have hlt : d.length < (d ++ (46 :: d2 ++ r)).length := by simp
      have dr1 : (d ++ (46 :: d2 ++ r)).drop (d.length + 1) = d2 ++ r := by rw [← List.drop_drop, List.drop_left]; rfl
      have p2 : preL pDigit (d2 ++ r) = d2.length := by rw [preL_digs d2 _ h2, hr.digit, Nat.add_zero]
      have dr2 : (d ++ (46 :: d2 ++ r)).drop (d.length + (1 + d2.length)) = r := by rw [← Nat.add_assoc, ← List.drop_drop, dr1, List.drop_left]
      have hwd : wordOf (46 :: d2 ++ r) = [] := by
        cases d2 with
        | nil => exact hr.word
        | cons y d2' =>
          obtain ⟨y1, _, _, _, y5, _, _, _⟩ := dig_all y (h2 y (List.mem_cons_self ..))
          have : words.find? (wtest (46 :: (y :: d2' ++ r))) = none := by
            rw [List.find?_eq_none]
            intro w hw
            have hq := bytes_all (fun y => pLetter (y.toNat : Int) || (low y != 97 && low y != 111 && low y != 110 && low y != 101 && low y != 116 && low y != 102)) (by decide +kernel) y
            simp only [y5, Bool.false_or, Bool.and_eq_true, bne_iff_ne] at hq
            obtain ⟨⟨⟨⟨⟨q1, q2⟩, q3⟩, q4⟩, q5⟩, q6⟩ := hq
            simp only [words, List.mem_cons, List.not_mem_nil, or_false] at hw
            rw [Bool.not_eq_true]
            rcases hw with rfl | rfl | rfl | rfl | rfl | rfl <;> rw [List.cons_append, wtest_cons, wtest_cons]
            · rw [beq_eq_false_iff_ne.2 q1]; simp
            · rw [beq_eq_false_iff_ne.2 q2]; simp
            · rw [beq_eq_false_iff_ne.2 q3]; simp
            · rw [beq_eq_false_iff_ne.2 q4]; simp
            · rw [beq_eq_false_iff_ne.2 q5]; simp
            · rw [beq_eq_false_iff_ne.2 q6]; simp
          unfold wordOf
          rw [List.cons_append, this]; rfl
      have hpo : pointOk (d2 ++ r) = true := by
        cases d2 with
        | nil => exact hr.point
        | cons y d2' =>
          obtain ⟨_, _, _, _, y5, _, _, _⟩ := dig_all y (h2 y (List.mem_cons_self ..))
          unfold pointOk
          rw [show ((y :: d2') ++ r).getD 0 0 = y from rfl, y5]; simp
      have hpt : hasPoint (d ++ (46 :: d2 ++ r)) = true := by
        unfold hasPoint
        rw [pre, at0, dr0, dr1, hwd, hpo, decide_eq_true hlt]
        rfl
      have hpn : pointN (d ++ (46 :: d2 ++ r)) = d.length + (1 + d2.length) := by unfold pointN; rw [hpt, pre, dr1, p2]; rfl
      unfold numR numN
      rw [hpt, hpn, dr2, hr.len]
      refine ⟨rfl, ?_⟩
      simp only [List.length_append, List.length_cons]; omega
  -- the exponent's digits
  have ixp : ∀ c ∈ p, ([101, 100] : BS).contains c = false := by
    rcases hp with ⟨rfl, _, _⟩ | ⟨d2, rfl, h2, _⟩
    · intro c hc; cases hc
    · intro c hc
      rcases List.mem_cons.1 hc with rfl | hc
      · decide
      · obtain ⟨_, _, _, _, _, _, a, b⟩ := dig_all c (h2 c hc)
        simp [a, b]
  have ix : (decide (Lib.indexAny (d ++ (p ++ r)) [101, 100] < 0) || decide (preL pDigit (trimS ((d ++ (p ++ r)).drop ((Lib.indexAny (d ++ (p ++ r)) [101, 100]).toNat + 1))) ≤ 3)) = decide (k ≤ 3) := by
    rw [← List.append_assoc, index_app [101, 100] (d ++ p) r (fun c hc => (List.mem_append.1 hc).elim (hne c) (ixp c))]
    rcases hr.ix with ⟨rfl, rfl⟩ | ⟨c, t, rfl, hc, ht⟩
    · rw [show Lib.indexAny [] [101, 100] = -1 from rfl]; rfl
    · have e0 : Lib.indexAny (c :: t) [101, 100] = 0 := by rw [Lib.indexAny, if_pos hc]
      rw [e0, if_neg (by decide), decide_eq_false (by omega), Bool.false_or]
      rw [show (((d ++ p).length : Int) + 0).toNat = (d ++ p).length by omega, ← List.drop_drop, List.drop_left]
      rw [show (c :: t).drop 1 = t from rfl, ht]
  unfold isRealL
  rw [num.1, num.2, dec, sm, ix, decide_eq_true hw0]
  have hf : (pDigit (((d ++ (p ++ r)).getD 0 0).toNat : Int) || (d ++ (p ++ r)).getD 0 0 == 46) = true := by
    rcases first with h | h
    · rw [h]; rfl
    · rw [h]; simp
  rw [hf]
  simp only [beq_self_eq_true, Bool.and_true, Bool.true_and]
  rw [Bool.and_assoc]
  congr 1
  by_cases h3 : k ≤ 3
  · rw [decide_eq_true h3, decide_eq_true (by omega)]; rfl
  · rw [decide_eq_false h3]; simp
end Go.Q
namespace Go.Q
open Go Go.Proofs
set_option maxRecDepth 10000

theorem word_dig {y : UInt8} {r : BS} (hy : pDigit (y.toNat : Int) = true) : wordOf (46 :: y :: r) = [] := by
  have y5 := (dig_all y hy).2.2.2.2.1
  have : words.find? (wtest (46 :: y :: r)) = none := by
    rw [List.find?_eq_none]
    intro w hw
    have hq := bytes_all (fun y => pLetter (y.toNat : Int) || (low y != 97 && low y != 111 && low y != 110 && low y != 101 && low y != 116 && low y != 102)) (by decide +kernel) y
    simp only [y5, Bool.false_or, Bool.and_eq_true, bne_iff_ne] at hq
    obtain ⟨⟨⟨⟨⟨q1, q2⟩, q3⟩, q4⟩, q5⟩, q6⟩ := hq
    simp only [words, List.mem_cons, List.not_mem_nil, or_false] at hw
    rw [Bool.not_eq_true]
    rcases hw with rfl | rfl | rfl | rfl | rfl | rfl <;> rw [wtest_cons, wtest_cons]
    · rw [beq_eq_false_iff_ne.2 q1]; simp
    · rw [beq_eq_false_iff_ne.2 q2]; simp
    · rw [beq_eq_false_iff_ne.2 q3]; simp
    · rw [beq_eq_false_iff_ne.2 q4]; simp
    · rw [beq_eq_false_iff_ne.2 q5]; simp
    · rw [beq_eq_false_iff_ne.2 q6]; simp
  unfold wordOf
  rw [this]; rfl

/-- A number's beginning. -/
def StN (u : BS) : Prop := pDigit ((u.getD 0 0).toNat : Int) = true ∨ u.getD 0 0 = 46 ∧ pDigit ((u.getD 1 0).toNat : Int) = true

theorem digit0 : pDigit (((0 : UInt8).toNat : Nat) : Int) = false := by decide
theorem StN.cases {u : BS} (h : StN u) : 0 < preL pDigit u ∨ preL pDigit u = 0 ∧ ∃ y r, u = 46 :: y :: r ∧ pDigit (y.toNat : Int) = true := by
  match u, h with
  | [], h =>
    rcases h with h | ⟨h, _⟩
    · exact absurd h (by decide)
    · exact absurd h (by decide)
  | [c], h =>
    rcases h with h | ⟨_, h⟩
    · left; have := preL_digs (p := pDigit) [c] [] (by intro x hx; rw [List.mem_singleton] at hx; subst hx; exact h); rw [List.append_nil] at this; rw [this, List.length_singleton]; omega
    · rw [show [c].getD 1 0 = (0 : UInt8) from rfl] at h; exact absurd h (by decide)
  | c :: y :: r, h =>
    rcases h with h | ⟨h1, h2⟩
    · left; have := preL_digs (p := pDigit) [c] (y :: r) (by intro x hx; rw [List.mem_singleton] at hx; subst hx; exact h); rw [List.singleton_append] at this; rw [this]; simp only [List.length_singleton]; omega
    · right
      have e1 : c = 46 := h1
      subst e1
      exact ⟨preL_stop (by decide), y, r, rfl, h2⟩
theorem hasPt_eq {u : BS} (h : StN u) : hasPt u = hasPoint u := by
  have hpo : pointOk (u.drop (preL pDigit u + 1)) = (!(pLetter ((u.getD (preL pDigit u + 1) 0).toNat : Int)) || isExp (u.getD (preL pDigit u + 1) 0)) := by
    unfold pointOk
    rw [getD_dropZ, Nat.add_zero]
    by_cases hr : u.drop (preL pDigit u + 1) = []
    · have : u.getD (preL pDigit u + 1) 0 = 0 := getD_past (by rw [List.drop_eq_nil_iff] at hr; exact hr)
      rw [decide_eq_true hr, this]; rfl
    · rw [decide_eq_false hr]; simp
  unfold hasPt hasPoint
  rw [hpo]
  cases h46 : u.getD (preL pDigit u) 0 == 46 with
  | false => simp
  | true =>
    have hlt : preL pDigit u < u.length := by
      rcases Nat.lt_or_ge (preL pDigit u) u.length with h1 | h1
      · exact h1
      · rw [getD_past h1] at h46; exact absurd h46 (by decide)
    rw [decide_eq_true hlt]
    rcases h.cases with h1 | ⟨h1, y, r, rfl, hy⟩
    · rw [decide_eq_true h1]
      cases decide (wordOf (u.drop (preL pDigit u)) = []) <;> cases pLetter ((u.getD (preL pDigit u + 1) 0).toNat : Int) <;> cases isExp (u.getD (preL pDigit u + 1) 0) <;> rfl
    · rw [h1]
      have y5 := (dig_all y hy).2.2.2.2.1
      rw [show (46 :: y :: r : BS).getD (0 + 1) 0 = y from rfl, y5]
      cases decide (wordOf ((46 :: y :: r : BS).drop 0) = []) <;> rfl
theorem hasPoint_dot {u : BS} (h : StN u) (h0 : preL pDigit u = 0) : hasPoint u = true := by
  rcases h.cases with h1 | ⟨_, y, r, rfl, hy⟩
  · omega
  · rw [← hasPt_eq h]
    unfold hasPt
    rw [h0, List.drop_zero, word_dig hy]
    rfl
theorem ptN_eq {u : BS} (h : StN u) : ptN u = pointN u := by unfold ptN pointN; rw [hasPt_eq h]

/-- How many digits the exponent has. -/
def expK (v : BS) : Nat := if expo v = 0 then 0 else preL pDigit (v.drop (expoN v))
theorem expo_cases (v : BS) : (expo v = 0 ∧ powN v = 0 ∧ expK v = 0) ∨ (isExp (v.getD 0 0) = true ∧ v ≠ [] ∧ 0 < expK v ∧ expK v = preL pDigit (v.drop (expoN v)) ∧ expo v = expoN v + expK v ∧ powN v = expoN v + min (expK v) 3) := by
  have h1 : expoN v = 1 ∨ expoN v = 2 := by unfold expoN; split <;> simp
  by_cases h : v = [] ∨ isExp (v.getD 0 0) = false
  · left
    have e0 : expo v = 0 := by unfold expo; rw [if_pos h]
    refine ⟨e0, ?_, by unfold expK; rw [if_pos e0]⟩
    unfold powN
    rcases h with rfl | h
    · rfl
    · rw [if_pos h]
  · have hE : isExp (v.getD 0 0) = true := by
      cases he : isExp (v.getD 0 0) with
      | true => rfl
      | false => exact absurd (.inr he) h
    have hv : v ≠ [] := fun e => h (.inl e)
    by_cases hk : preL pDigit (v.drop (expoN v)) = 0
    · left
      have e0 : expo v = 0 := by unfold expo; rw [if_neg h, if_pos hk]
      refine ⟨e0, ?_, by unfold expK; rw [if_pos e0]⟩
      unfold powN
      rw [if_neg (by rw [hE]; simp), if_pos hk]
    · right
      have e0 : expo v = expoN v + preL pDigit (v.drop (expoN v)) := by unfold expo; rw [if_neg h, if_neg hk]
      have e1 : expK v = preL pDigit (v.drop (expoN v)) := by unfold expK; rw [if_neg (by omega)]
      refine ⟨hE, hv, by omega, e1, by rw [e0, e1], ?_⟩
      unfold powN
      rw [if_neg (by rw [hE]; simp), if_neg hk, e1]
theorem take_digs (l : BS) : Digs (l.take (preL pDigit l)) := take_preL pDigit l
theorem take_len (l : BS) : (l.take (preL pDigit l)).length = preL pDigit l := by
  have := preL_le pDigit l
  rw [List.length_take]; omega
theorem rest_of (v : BS) : Rest (small (v.take (expo v))) (expK v) := by
  rcases expo_cases v with ⟨h1, _, h3⟩ | ⟨hE, hv, hk, ek, eo, _⟩
  · rw [h1, h3]; exact Rest.none
  · rw [eo]
    match v, hv with
    | c :: v', _ =>
      have hc := (exp_all c hE).1
      by_cases hs : decide (1 < (c :: v').length) && isSign ((c :: v').getD 1 0)
      · have eN : expoN (c :: v') = 2 := by unfold expoN; rw [if_pos hs]
        rw [eN] at ek ⊢
        simp only [Bool.and_eq_true, decide_eq_true_eq, List.length_cons] at hs
        match v', hs with
        | [], hs => exact absurd hs.1 (by simp)
        | x :: v'', hs =>
          have hx : isSign x = true := hs.2
          have ek' : expK (c :: x :: v'') = preL pDigit v'' := ek
          have hd := take_digs v''
          have hl := take_len v''
          rw [ek'] at hk ⊢
          have : small ((c :: x :: v'').take (2 + preL pDigit v'')) = low c :: ([x] ++ v''.take (preL pDigit v'')) := by
            rw [show 2 + preL pDigit v'' = preL pDigit v'' + 1 + 1 by omega, List.take_succ_cons, List.take_succ_cons]
            show low c :: low x :: small _ = _
            rw [(sign_all x hx).1, small_digs hd]; rfl
          rw [this]
          have := Rest.some (c := low c) (s := [x]) hc (.inr ⟨x, rfl, hx⟩) hd (by intro e; rw [e] at hl; simp at hl; omega)
          rw [hl] at this
          exact this
      · have eN : expoN (c :: v') = 1 := by unfold expoN; rw [if_neg hs]
        rw [eN] at ek ⊢
        have ek' : expK (c :: v') = preL pDigit v' := ek
        have hd := take_digs v'
        have hl := take_len v'
        rw [ek'] at hk ⊢
        have : small ((c :: v').take (1 + preL pDigit v')) = low c :: ([] ++ v'.take (preL pDigit v')) := by
          rw [show 1 + preL pDigit v' = preL pDigit v' + 1 by omega, List.take_succ_cons]
          show low c :: small _ = _
          rw [small_digs hd]; rfl
        rw [this]
        have := Rest.some (c := low c) (s := []) hc (.inl rfl) hd (by intro e; rw [e] at hl; simp at hl; omega)
        rw [hl] at this
        exact this

theorem real_valid {u : BS} (h : StN u) (hR : numR u = true) : isRealL (small (u.take (numN u))) = (decide (manyN u ≤ 60) && decide (expK (u.drop (pointN u)) ≤ 3)) := by
  have hd := take_digs u
  have hl := take_len u
  have hr := rest_of (u.drop (pointN u))
  unfold manyN
  rw [hasPt_eq h]
  unfold numN
  rw [List.take_add, small_app]
  cases hp : hasPoint u with
  | false =>
    have hpn : pointN u = preL pDigit u := by unfold pointN; rw [hp]; rfl
    have h0 : 0 < preL pDigit u := by
      rcases Nat.eq_zero_or_pos (preL pDigit u) with e | e
      · rw [hasPoint_dot h e] at hp; cases hp
      · exact e
    have hx : 0 < expo (u.drop (pointN u)) := by
      unfold numR at hR
      rw [hp] at hR
      simpa using hR
    have hle : expo (u.drop (pointN u)) ≤ (u.drop (pointN u)).length := expo_le _
    have := real_of (u.take (preL pDigit u)) [] (small ((u.drop (pointN u)).take (expo (u.drop (pointN u))))) _ hd hr
      (.inl ⟨rfl, by intro e; rw [e] at hl; simp at hl; omega, by intro e; have := congrArg List.length e; rw [small_len, List.length_take, List.length_nil] at this; omega⟩)
    rw [hl] at this
    conv => lhs; rw [show small (u.take (pointN u)) = u.take (preL pDigit u) by rw [hpn, small_digs hd]]
    simp only [List.nil_append, List.length_nil, Nat.zero_sub, Nat.add_zero] at this
    rw [this]
    rfl
  | true =>
    have hlt := hasPoint_lt hp
    have hnb := nb_le u
    have hd2 := take_digs (u.drop (preL pDigit u + 1))
    have hl2 := take_len (u.drop (preL pDigit u + 1))
    have hpn : pointN u = preL pDigit u + (1 + preL pDigit (u.drop (preL pDigit u + 1))) := by unfold pointN; rw [hp]; rfl
    have h46 : u.getD (preL pDigit u) 0 = 46 := by
      unfold hasPoint at hp
      simp only [Bool.and_eq_true, beq_iff_eq] at hp
      exact hp.1.1.2
    have hne : u.take (preL pDigit u) ≠ [] ∨ (u.drop (preL pDigit u + 1)).take (preL pDigit (u.drop (preL pDigit u + 1))) ≠ [] := by
      rcases h.cases with h1 | ⟨h1, y, r, rfl, hy⟩
      · left; intro e; rw [e] at hl; simp at hl; omega
      · right
        rw [h1]
        have := preL_digs (p := pDigit) [y] r (by intro x hx; rw [List.mem_singleton] at hx; subst hx; exact hy)
        rw [List.singleton_append] at this
        rw [show (46 :: y :: r : BS).drop (0 + 1) = y :: r from rfl, this]
        simp []
    have := real_of (u.take (preL pDigit u)) (46 :: (u.drop (preL pDigit u + 1)).take (preL pDigit (u.drop (preL pDigit u + 1)))) (small ((u.drop (pointN u)).take (expo (u.drop (pointN u))))) _ hd hr
      (.inr ⟨_, rfl, hd2, hne⟩)
    rw [hl, List.length_cons, hl2, Nat.add_sub_cancel] at this
    conv => lhs; rw [show small (u.take (pointN u)) = u.take (preL pDigit u) ++ (46 :: (u.drop (preL pDigit u + 1)).take (preL pDigit (u.drop (preL pDigit u + 1)))) by
      rw [hpn, List.take_add, small_app, small_digs hd, drop_cons (by omega : preL pDigit u < u.length), h46, Nat.add_comm 1, List.take_succ_cons]
      show _ ++ low 46 :: small _ = _
      rw [small_digs hd2]; rfl]
    rw [List.append_assoc, this]
    rfl

theorem int_valid {u : BS} (h : StN u) (hR : numR u = false) : numN u = preL pDigit u ∧ 0 < preL pDigit u ∧ manyN u = preL pDigit u ∧ Go.Q.isInt (small (u.take (numN u))) = decide (manyN u ≤ 10) := by
  have hd := take_digs u
  have hl := take_len u
  unfold numR at hR
  rw [Bool.or_eq_false_iff] at hR
  obtain ⟨hp, hx⟩ := hR
  have hpn : pointN u = preL pDigit u := by unfold pointN; rw [hp]; rfl
  have hx0 : expo (u.drop (pointN u)) = 0 := by simpa using hx
  have h0 : 0 < preL pDigit u := by
    rcases Nat.eq_zero_or_pos (preL pDigit u) with e | e
    · rw [hasPoint_dot h e] at hp; cases hp
    · exact e
  have hN : numN u = preL pDigit u := by unfold numN; rw [hx0, hpn]; rfl
  have hm : manyN u = preL pDigit u := by unfold manyN; rw [hasPt_eq h, hp]; rfl
  refine ⟨hN, h0, hm, ?_⟩
  rw [hN, hm, small_digs hd]
  unfold Go.Q.isInt
  have hp1 := preL_digs (p := pDigit) _ [] hd
  rw [List.append_nil, preL_nil, Nat.add_zero] at hp1
  rw [hp1, hl, decide_eq_true (by omega : 1 ≤ preL pDigit u)]
  simp

theorem part_lt {u : BS} {n : Nat} (h : pPart ((u.getD n 0).toNat : Int) = true) : n < u.length := by
  rcases Nat.lt_or_ge n u.length with h1 | h1
  · exact h1
  · rw [getD_past h1] at h; exact absurd h (by decide)

theorem num_equiv {u : BS} (h : StN u) : refNum u = (if numN u < u.length ∧ pPart ((u.getD (numN u) 0).toNat : Int) = true then none else if valid (numT u).1 (numT u).2 then some (numT u, numN u) else none) ∧ numN u ≠ 0 := by
  have hpt := ptN_eq h
  have hRR : refR u = numR u := by
    unfold refR numR
    rw [hasPt_eq h, hpt]
    congr 1
    rw [decide_eq_decide]
    rcases expo_cases (u.drop (pointN u)) with ⟨h1, h2, _⟩ | ⟨_, _, hk, _, h1, h2⟩
    · omega
    · omega
  have hpn0 : numR u = true → numN u ≠ 0 := by
    intro hR
    unfold numN
    unfold numR at hR
    rcases Bool.or_eq_true_iff.1 hR with h1 | h1
    · have : pointN u = preL pDigit u + (1 + preL pDigit (u.drop (preL pDigit u + 1))) := by unfold pointN; rw [h1]; rfl
      omega
    · have := of_decide_eq_true h1
      omega
  cases hR : numR u with
  | false =>
    obtain ⟨hN, h0, hm, hv⟩ := int_valid h hR
    have hR' := hR
    unfold numR at hR'
    rw [Bool.or_eq_false_iff] at hR'
    have hx0 : expo (u.drop (pointN u)) = 0 := by simpa using hR'.2
    have hpw : powN (u.drop (pointN u)) = 0 := by
      rcases expo_cases (u.drop (pointN u)) with ⟨_, h2, _⟩ | ⟨_, _, hk, _, h1, _⟩
      · exact h2
      · omega
    have hrn : refN u = numN u := by unfold refN numN; rw [hpt, hpw, hx0]
    refine ⟨?_, by omega⟩
    have hT : numT u = (kInt, small (u.take (numN u))) := by unfold numT; rw [hR]; rfl
    unfold refNum refBad
    rw [hRR, hR, hrn, hT]
    simp only [Bool.false_eq_true, if_false]
    rw [show valid kInt (small (u.take (numN u))) = Go.Q.isInt (small (u.take (numN u))) from rfl, hv]
    cases hp : pPart ((u.getD (numN u) 0).toNat : Int) with
    | true => rw [if_pos (show (true || _) = true from rfl), if_pos ⟨part_lt hp, rfl⟩]
    | false =>
      rw [if_neg (c := _ ∧ _) (fun e => by cases e.2), Bool.false_or]
      by_cases h10 : manyN u ≤ 10
      · rw [decide_eq_true h10, if_neg (by simp; omega), if_pos rfl]
      · rw [decide_eq_false h10, if_pos (by simp; omega), if_neg (by simp)]
  | true =>
    refine ⟨?_, hpn0 hR⟩
    have hv := real_valid h hR
    have hT : numT u = (kReal, small (u.take (numN u))) := by unfold numT; rw [hR]; rfl
    unfold refNum refBad
    rw [hRR, hR, hT]
    simp only [if_true]
    rw [show valid kReal (small (u.take (numN u))) = isRealL (small (u.take (numN u))) from rfl, hv]
    rcases Nat.lt_or_ge 3 (expK (u.drop (pointN u))) with h3 | h3
    · -- too many digits in the exponent
      rcases expo_cases (u.drop (pointN u)) with ⟨_, _, h2⟩ | ⟨_, _, hk, ek, h1, h2⟩
      · omega
      · have hdig : pPart ((u.getD (refN u) 0).toNat : Int) = true := by
          unfold refN
          rw [hpt, h2, Nat.min_eq_right (by omega)]
          have e1 : u.getD (pointN u + (expoN (u.drop (pointN u)) + 3)) 0 = ((u.drop (pointN u)).drop (expoN (u.drop (pointN u)))).getD 3 0 := by
            rw [getD_dropZ, getD_dropZ]
          rw [e1]
          rw [ek] at h3
          generalize (u.drop (pointN u)).drop (expoN (u.drop (pointN u))) = w at *
          have hd := take_digs w
          have hl := take_len w
          have hlt : 3 < (w.take (preL pDigit w)).length := by omega
          have hm := hd _ (List.getElem_mem hlt)
          have hle := preL_le pDigit w
          have e2 : (w.take (preL pDigit w))[3] = w.getD 3 0 := by
            rw [List.getElem_take, List.getD_eq_getElem?_getD, List.getElem?_eq_getElem (by omega)]; rfl
          rw [e2] at hm
          exact (dig_all _ hm).2.2.2.2.2.1
        rw [hdig, if_pos (show (true || _) = true from rfl), decide_eq_false (by omega : ¬ expK (u.drop (pointN u)) ≤ 3), Bool.and_false]
        split <;> simp
    · have hrn : refN u = numN u := by
        unfold refN numN
        rw [hpt]
        rcases expo_cases (u.drop (pointN u)) with ⟨h1, h2, _⟩ | ⟨_, _, hk, ek, h1, h2⟩
        · omega
        · omega
      rw [hrn, decide_eq_true h3, Bool.and_true]
      cases hp : pPart ((u.getD (numN u) 0).toNat : Int) with
      | true => rw [if_pos (show (true || _) = true from rfl), if_pos ⟨part_lt hp, rfl⟩]
      | false =>
        rw [if_neg (c := _ ∧ _) (fun e => by cases e.2), Bool.false_or]
        by_cases h60 : manyN u ≤ 60
        · rw [decide_eq_true h60, if_neg (by simp; omega), if_pos rfl]
        · rw [decide_eq_false h60, if_pos (by simp; omega), if_neg (by simp)]
end Go.Q
namespace Go.Q
open Go Go.Proofs
set_option maxRecDepth 10000

theorem quo_mem (q : UInt8) : ∀ (k : Nat) (r : BS), r.length ≤ k → ∀ p, quo q r = some p → ∀ c ∈ p.1, c ∈ r
  | k, [], _, p, h => by simp [quo] at h
  | k + 1, c :: r, hk, p, h => by
    rw [quo_cons] at h
    simp only [List.length_cons] at hk
    split at h
    · rename_i hc
      match r, h with
      | [], h => simp only [Option.some.injEq] at h; subst h; simp
      | c' :: r', h =>
        simp only [List.length_cons] at hk
        replace h : (if c' = q then (quo q r').map fun p => (q :: p.1, p.2 + 2) else some ([], 1)) = some p := h
        split at h
        · cases hq : quo q r' with
          | none => rw [hq] at h; cases h
          | some p' =>
            rw [hq] at h
            have := quo_mem q k r' (by omega) p' hq
            simp only [Option.map_some, Option.some.injEq] at h
            subst h
            intro x hx
            rcases List.mem_cons.1 hx with rfl | hx
            · exact List.mem_cons.2 (.inl hc.symm)
            · exact List.mem_cons_of_mem _ (List.mem_cons_of_mem _ (this x hx))
        · simp only [Option.some.injEq] at h; subst h; simp
    · cases hq : quo q r with
      | none => rw [hq] at h; cases h
      | some p' =>
        rw [hq] at h
        have := quo_mem q k r (by omega) p' hq
        simp only [Option.map_some, Option.some.injEq] at h
        subst h
        intro x hx
        rcases List.mem_cons.1 hx with rfl | hx
        · exact List.mem_cons_self ..
        · exact List.mem_cons_of_mem _ (this x hx)
  | 0, c :: r, hk, p, h => by simp at hk
theorem quoted_mem (u : BS) : ∀ c ∈ (quoted u).1, c ∈ u := by
  unfold quoted
  cases hq : quo (u.getD 0 0) (u.drop 1) with
  | none => intro c hc; cases hc
  | some p => intro c hc; exact List.mem_of_mem_drop (quo_mem _ _ _ (Nat.le_refl _) p hq c hc)

theorem name_valid {u : BS} (h : pLetter ((u.getD 0 0).toNat : Int) = true) : valid kName (small (u.take (preL pPart u))) = decide (preL pPart u ≤ 12) ∧ 0 < preL pPart u := by
  match u, h with
  | [], h => exact absurd h (by decide)
  | c :: r, h =>
    have hc : pLetter (c.toNat : Int) = true := h
    have hp : pPart (c.toNat : Int) = true := by unfold pPart; rw [hc]; rfl
    have hpos : 0 < preL pPart (c :: r) := by
      have := preL_digs (p := pPart) [c] r (by intro x hx; rw [List.mem_singleton] at hx; subst hx; exact hp)
      rw [List.singleton_append] at this
      rw [this, List.length_singleton]; omega
    refine ⟨?_, hpos⟩
    have hd := take_preL pPart (c :: r)
    have hl : ((c :: r).take (preL pPart (c :: r))).length = preL pPart (c :: r) := by
      have := preL_le pPart (c :: r)
      rw [List.length_take]; omega
    have hsl := small_len ((c :: r).take (preL pPart (c :: r)))
    have h1 : preL pPart (small ((c :: r).take (preL pPart (c :: r)))) = preL pPart (c :: r) := by
      have := preL_digs (p := pPart) (small ((c :: r).take (preL pPart (c :: r)))) [] (by
        intro x hx
        simp only [small, List.mem_map] at hx
        obtain ⟨y, hy, rfl⟩ := hx
        rw [low_part]; exact hd y hy)
      rw [List.append_nil, preL_nil, Nat.add_zero, hsl, hl] at this
      exact this
    show isName _ = _
    unfold isName
    rw [h1, hsl, hl, small_small]
    have h2 : pLetter (((small ((c :: r).take (preL pPart (c :: r)))).getD 0 0).toNat : Int) = true := by
      obtain ⟨n, hn⟩ : ∃ n, preL pPart (c :: r) = n + 1 := ⟨preL pPart (c :: r) - 1, by omega⟩
      rw [hn]
      show pLetter ((low c).toNat : Int) = true
      rw [low_letter]; exact hc
    rw [h2, decide_eq_true (by intro e; rw [e] at hsl; simp at hsl; omega)]
    simp

theorem word_head {u : BS} (h : wordOf u ≠ []) : u.getD 0 0 = 46 ∧ pDigit ((u.getD 1 0).toNat : Int) = false ∧ wordOf u ∈ words := by
  have hm : ∃ w, words.find? (wtest u) = some w ∧ wordOf u = w := by
    unfold wordOf at h ⊢
    cases hf : words.find? (wtest u) with
    | none => rw [hf] at h; exact absurd rfl h
    | some w => exact ⟨w, rfl, rfl⟩
  obtain ⟨w, hw, he⟩ := hm
  have hmem := List.mem_of_find?_eq_some hw
  have ht : wtest u w = true := by simpa using List.find?_some hw
  have h46 : ∀ w ∈ words, ∃ o, w = 46 :: o := by
    intro w hw
    simp only [words, List.mem_cons, List.not_mem_nil, or_false] at hw
    rcases hw with rfl | rfl | rfl | rfl | rfl | rfl <;> exact ⟨_, rfl⟩
  obtain ⟨o, rfl⟩ := h46 w hmem
  match u, h, ht with
  | [], _, ht => rw [wtest_no] at ht; cases ht
  | c :: r, h, ht =>
    rw [wtest_cons, Bool.and_eq_true] at ht
    have hc : c = 46 := by have := ht.1; rw [low_46] at this; exact beq_iff_eq.1 this
    subst hc
    refine ⟨rfl, ?_, he ▸ hmem⟩
    match r, h with
    | [], _ => rfl
    | y :: r', h =>
      show pDigit (y.toNat : Int) = false
      cases hy : pDigit (y.toNat : Int) with
      | false => rfl
      | true => exact absurd (word_dig hy) h

theorem first_equiv (u : BS) (ht : ∀ c ∈ u, pText (c.toNat : Int) = true) :
    refNext u = if (firstSpec u).2 = 0 ∨ valid (firstSpec u).1.1 (firstSpec u).1.2 = false then none else some (firstSpec u) := by
  unfold refNext
  by_cases hL : pLetter ((u.getD 0 0).toNat : Int) = true
  · obtain ⟨h1, h2⟩ := name_valid hL
    have e : firstSpec u = ((kName, small (u.take (preL pPart u))), if valid kName (small (u.take (preL pPart u))) then preL pPart u else 0) := by unfold firstSpec; rw [if_pos hL]
    rw [if_pos hL, e]
    simp only [h1]
    by_cases h12 : preL pPart u ≤ 12
    · rw [if_pos h12, decide_eq_true h12, if_neg (by simp; omega)]; rfl
    · rw [if_neg h12, decide_eq_false h12, if_pos (.inr rfl)]
  · rw [if_neg hL]
    have noL : pLetter ((u.getD 0 0).toNat : Int) = false := by simpa using hL
    by_cases hS : pDigit ((u.getD 0 0).toNat : Int) = true ∨ u.getD 0 0 = 46 ∧ pDigit ((u.getD 1 0).toNat : Int) = true
    · rw [if_pos hS]
      have hst : StN u := hS
      have hq : ¬ (u.getD 0 0 = 39 ∨ u.getD 0 0 = 34) := by
        rintro (h | h) <;> rw [h] at hS <;> rcases hS with hS | ⟨hS, _⟩
        · exact absurd hS (by decide)
        · exact absurd hS (by decide)
        · exact absurd hS (by decide)
        · exact absurd hS (by decide)
      have hw : ¬ wordOf u ≠ [] := by
        intro h
        obtain ⟨h1, h2, _⟩ := word_head h
        rcases hS with hS | ⟨_, hS⟩
        · rw [h1] at hS; exact absurd hS (by decide)
        · rw [h2] at hS; cases hS
      have hd : pDigit ((u.getD 0 0).toNat : Int) = true ∨ u.getD 0 0 = 46 ∧ 1 < u.length ∧ pDigit ((u.getD 1 0).toNat : Int) = true := by
        rcases hS with h | ⟨h1, h2⟩
        · exact .inl h
        · refine .inr ⟨h1, ?_, h2⟩
          rcases Nat.lt_or_ge 1 u.length with h | h
          · exact h
          · rw [getD_past h] at h2; exact absurd h2 (by decide)
      have e : firstSpec u = (numT u, if numN u < u.length ∧ pPart ((u.getD (numN u) 0).toNat : Int) = true then 0 else if valid (numT u).1 (numT u).2 then numN u else 0) := by
        unfold firstSpec
        rw [if_neg hL, if_neg hq, if_neg hw, if_pos hd]
      obtain ⟨h1, h2⟩ := num_equiv hst
      rw [h1, e]
      simp only
      by_cases hp : numN u < u.length ∧ pPart ((u.getD (numN u) 0).toNat : Int) = true
      · rw [if_pos hp, if_pos hp, if_pos (.inl rfl)]
      · rw [if_neg hp, if_neg hp]
        cases hv : valid (numT u).1 (numT u).2 with
        | true => rw [if_pos rfl, if_pos rfl, if_neg (by simp [h2])]
        | false => rw [if_neg (by simp), if_pos (.inr rfl)]
    · rw [if_neg hS]
      have hd : ¬ (pDigit ((u.getD 0 0).toNat : Int) = true ∨ u.getD 0 0 = 46 ∧ 1 < u.length ∧ pDigit ((u.getD 1 0).toNat : Int) = true) := fun h => hS (h.elim .inl (fun h => .inr ⟨h.1, h.2.2⟩))
      by_cases hq : u.getD 0 0 = 39 ∨ u.getD 0 0 = 34
      · have e : firstSpec u = ((kText, (quoted u).1), (quoted u).2) := by unfold firstSpec; rw [if_neg hL, if_pos hq]
        rw [if_pos hq, e]
        have hv : valid kText (quoted u).1 = true := by
          show (preL pText (quoted u).1 == (quoted u).1.length) = true
          have := preL_digs (p := pText) (quoted u).1 [] (fun c hc => ht c (quoted_mem u c hc))
          rw [List.append_nil, preL_nil, Nat.add_zero] at this
          rw [this]; exact beq_self_eq_true _
        simp only [hv]
        by_cases h0 : (quoted u).2 = 0
        · rw [if_pos h0, if_pos (.inl h0)]
        · rw [if_neg h0, if_neg (by simp [h0])]
      · rw [if_neg hq]
        by_cases hw : wordOf u ≠ []
        · obtain ⟨h46, _, hm⟩ := word_head hw
          have e : firstSpec u = ((if wordOf u ∈ words.drop 4 then kLog else kOp, wordOf u), (wordOf u).length) := by unfold firstSpec; rw [if_neg hL, if_neg hq, if_pos hw]
          rw [if_pos h46, if_neg hw, e]
          have hl : (wordOf u).length ≠ 0 := fun h => hw (List.length_eq_zero_iff.1 h)
          have hv : valid (if wordOf u ∈ words.drop 4 then kLog else kOp) (wordOf u) = true := by
            have : ∀ w ∈ words, valid (if w ∈ words.drop 4 then kLog else kOp) w = true := by decide
            exact this _ hm
          exact (if_neg (fun h => h.elim hl (fun h => by
            have h2 : valid (if wordOf u ∈ words.drop 4 then kLog else kOp) (wordOf u) = false := h
            rw [hv] at h2; cases h2))).symm
        · have e : firstSpec u = match signs.find? (·.isPrefixOf u) with | some o => ((kOp, o), o.length) | none => (([], []), 0) := by
            unfold firstSpec; rw [if_neg hL, if_neg hq, if_neg hw, if_neg hd]
            cases signs.find? (·.isPrefixOf u) <;> rfl
          have hw' : wordOf u = [] := Decidable.not_not.1 hw
          rw [e]
          by_cases h46 : u.getD 0 0 = 46
          · rw [if_pos h46, if_pos hw']
            have : signs.find? (·.isPrefixOf u) = none := by
              rw [List.find?_eq_none]
              intro o ho
              have h1 : ∀ o ∈ signs, ∃ x t, o = x :: t ∧ x ≠ 46 := by
                intro o ho
                simp only [signs, List.mem_cons, List.not_mem_nil, or_false] at ho
                rcases ho with rfl | rfl | rfl | rfl | rfl | rfl | rfl | rfl | rfl | rfl | rfl | rfl | rfl | rfl | rfl | rfl | rfl | rfl | rfl | rfl | rfl <;> exact ⟨_, _, rfl, by decide⟩
              obtain ⟨x, t, rfl, hx⟩ := h1 o ho
              match u, h46 with
              | [], h46 => exact absurd h46 (by decide)
              | c :: r, h46 =>
                have hc : c = 46 := h46
                subst hc
                show ¬ ((x == 46) && List.isPrefixOf t r) = true
                rw [beq_eq_false_iff_ne.2 hx]; simp
            rw [this]
            rw [if_pos (.inl rfl)]
          · rw [if_neg h46]
            cases hf : signs.find? (·.isPrefixOf u) with
            | none => rw [if_pos (.inl rfl)]
            | some o =>
              have ho := List.mem_of_find?_eq_some hf
              have h1 : ∀ o ∈ signs, o.length ≠ 0 ∧ valid kOp o = true := by decide
              obtain ⟨h2, h3⟩ := h1 o ho
              simp only
              rw [if_neg (by simp [h2, h3])]

/-! the reference's Scan -/

theorem rscan_l1 (l : BS) (hl : l.length < 2 ^ 31) (hp : ¬ preL pText l < l.length) : ∀ k (n : Nat) (out : List (BS × BS)), l.length - n ≤ k → SInv l out n →
    Ref4.Scan.l1 (B l) (out.map toTok) n = some ((scanSpec l).1.map toTok, ((scanSpec l).2.1 : Int), ((scanSpec l).2.2 : Int)) := by
  have hsz : (B l).size = l.length := rfl
  have htx : ∀ c ∈ l, pText (c.toNat : Int) = true := by
    have h1 := preL_le pText l
    exact preL_all (by omega)
  intro k
  induction k with
  | zero =>
    intro n out hn hq
    have hq1 := hq.2.1
    rw [Ref4.Scan.l1_eq, Ref4.Scan.s1]
    simp only [letk]
    rw [decide_eq_false (by omega : ¬ (n : Int) < ((B l).size : Int)), cond_false, hq.all hp (by omega)]
    rfl
  | succ k ih =>
    intro n out hn hq
    have hq1 := hq.1
    have hq2 := hq.2.1
    rw [Ref4.Scan.l1_eq, Ref4.Scan.s1]
    simp only [letk]
    by_cases hlt : n < l.length
    · rw [decide_eq_true (by omega : (n : Int) < ((B l).size : Int)), cond_true]
      have hd : l.getD n 0 = (l.drop n).getD 0 0 := by rw [getD_drop]; simp
      rw [chk_pos (by omega), show bt (B l) n = ((l.getD n 0).toNat : Int) from rfl, (u8n _).2.2.2.1, hd]
      cases h32 : (l.drop n).getD 0 0 == 32 with
      | true =>
        simp only [cond_true, Option.bind_some, Sum.elim_inl]
        rw [w64n (by omega) (by omega), show ((n : Int) + 1) = ((n + 1 : Nat) : Int) by omega]
        exact ih (n + 1) out (by omega) (hq.blank hlt (beq_iff_eq.1 h32))
      | false =>
        have hb : ¬ (l.drop n).getD 0 0 = 32 := beq_eq_false_iff_ne.1 h32
        have hnl : (l.drop n).length = l.length - n := List.length_drop
        have hle := first_le (l.drop n) (drop_ne hlt)
        have hnx := next_eq l n hl hlt
        rw [first_equiv (l.drop n) (fun c hc => htx c (List.mem_of_mem_drop hc))] at hnx
        rw [cond_false]
        by_cases h0 : (firstSpec (l.drop n)).2 = 0 ∨ valid (firstSpec (l.drop n)).1.1 (firstSpec (l.drop n)).1.2 = false
        · rw [if_pos h0] at hnx
          obtain ⟨t, m, h⟩ := hnx
          rw [h]
          simp only [Option.bind_some, Bool.not_false, cond_true, Sum.elim_inr]
          rw [hq.bad hp hlt hb h0]
          rfl
        · rw [if_neg h0] at hnx
          have h : Ref4.next_ (B l) n = some (toTok (firstSpec (l.drop n)).1, ((firstSpec (l.drop n)).2 : Int), true) := hnx
          rw [h]
          simp only [Option.bind_some, Bool.not_true, cond_false]
          rw [chk_pos (by simp only [List.length_map, List.length_cons, List.length_nil]; omega)]
          simp only [Option.bind_some, Sum.elim_inl]
          rw [w64n (by omega) (by omega), show ((n : Int) + ((firstSpec (l.drop n)).2 : Int)) = ((n + (firstSpec (l.drop n)).2 : Nat) : Int) by omega]
          have hv : valid (firstSpec (l.drop n)).1.1 (firstSpec (l.drop n)).1.2 = true := by
            cases hv : valid (firstSpec (l.drop n)).1.1 (firstSpec (l.drop n)).1.2 with
            | true => rfl
            | false => exact absurd (.inr hv) h0
          have := ih (n + (firstSpec (l.drop n)).2) (out ++ [(firstSpec (l.drop n)).1]) (by have : (firstSpec (l.drop n)).2 ≠ 0 := fun e => h0 (.inl e); omega) (hq.token hlt hb (fun e => h0 (.inl e)) hv)
          rw [List.map_append] at this
          exact this
    · rw [decide_eq_false (by omega : ¬ (n : Int) < ((B l).size : Int)), cond_false, hq.all hp (by omega)]
      rfl

theorem rscan_l0 (l : BS) (hl : l.length < 2 ^ 31) : ∀ k n : Nat, n + k = l.length → preL pText l = n + preL pText (l.drop n) →
    Ref4.Scan.l0 (B l) n = some ((scanSpec l).1.map toTok, ((scanSpec l).2.1 : Int), ((scanSpec l).2.2 : Int)) := by
  have hsz : (B l).size = l.length := rfl
  intro k
  induction k with
  | zero =>
    intro n hn hp
    rw [Ref4.Scan.l0_eq, Ref4.Scan.s0]
    simp only [letk]
    rw [decide_eq_false (by omega : ¬ (n : Int) < ((B l).size : Int)), cond_false]
    have := rscan_l1 l hl (by omega) l.length 0 [] (by omega) (SInv.start l)
    rw [List.map_nil, show ((0 : Nat) : Int) = 0 from rfl] at this
    rw [this]
    rfl
  | succ k ih =>
    intro n hn hp
    have hlt : n < l.length := by omega
    rw [Ref4.Scan.l0_eq, Ref4.Scan.s0]
    simp only [letk]
    rw [decide_eq_true (by omega : (n : Int) < ((B l).size : Int)), cond_true, chk_pos (by omega), chk_pos (by omega), show bt (B l) n = ((l.getD n 0).toNat : Int) from rfl]
    rw [preL_step _ hlt] at hp
    have hT : pText ((l.getD n 0).toNat : Int) = (!(decide (((l.getD n 0).toNat : Int) < 32)) && !(decide (((l.getD n 0).toNat : Int) > 126))) := by
      unfold pText
      rw [Bool.eq_iff_iff]
      simp only [Bool.and_eq_true, decide_eq_true_eq, Bool.not_eq_true', decide_eq_false_iff_not]
      omega
    have bad : pText ((l.getD n 0).toNat : Int) = false → scanSpec l = ([], n, 3) := by
      intro h
      rw [h] at hp
      simp only [Bool.false_eq_true, if_false, Nat.add_zero] at hp
      unfold scanSpec
      rw [if_pos (by omega), hp]
    cases h1 : decide (((l.getD n 0).toNat : Int) < 32) with
    | true =>
      rw [bad (by rw [hT, h1]; rfl)]
      rfl
    | false =>
      rw [cond_false]
      cases h2 : decide (((l.getD n 0).toNat : Int) > 126) with
      | true =>
        rw [bad (by rw [hT, h1, h2]; rfl)]
        rfl
      | false =>
        have hx : pText ((l.getD n 0).toNat : Int) = true := by rw [hT, h1, h2]; rfl
        rw [hx] at hp
        simp only [cond_false, Option.bind_some, Sum.elim_inl, if_true] at hp ⊢
        rw [w64n (by omega) (by omega), show ((n : Int) + 1) = ((n + 1 : Nat) : Int) by omega]
        exact ih (n + 1) (by omega) (by omega)

theorem Ref4.Scan_eq (s : ByteArray) (hs : s.size < 2 ^ 31) : Ref4.Scan s = some ((scanSpec (L s)).1.map toTok, ((scanSpec (L s)).2.1 : Int), ((scanSpec (L s)).2.2 : Int)) := by
  unfold Ref4.Scan
  have := rscan_l0 (L s) (by rw [L_len]; exact hs) (L s).length 0 (by omega) (by rw [List.drop_zero, Nat.zero_add])
  rw [B_L, show ((0 : Nat) : Int) = 0 from rfl] at this
  exact this

theorem rsame_l0 (xs : List (BS × BS)) (hl : xs.length < 2 ^ 62) : ∀ k n : Nat, n + k = xs.length → Ref4.Same.l0 (xs.map toTok) (xs.map toTok) n = some true := by
  intro k
  induction k with
  | zero =>
    intro n hn
    rw [Ref4.Same.l0_eq, Ref4.Same.s0]
    simp only [letk, List.length_map]
    rw [decide_eq_false (by omega : ¬ (n : Int) < (xs.length : Int))]
    rfl
  | succ k ih =>
    intro n hn
    have h1 : n < xs.length := by omega
    rw [Ref4.Same.l0_eq, Ref4.Same.s0]
    simp only [letk, List.length_map]
    rw [decide_eq_true (by omega : (n : Int) < (xs.length : Int)), cond_true, chk_pos (by omega), Int.toNat_natCast, List.getElem?_map, List.getElem?_eq_getElem h1]
    simp only [Option.map_some, Option.bind_some]
    rw [chk_pos (by omega), tok_beq]
    simp only [decide_true, Bool.not_true, cond_false, Option.bind_some, Sum.elim_inl]
    rw [w64n (by omega) (by omega), show ((n : Int) + 1) = ((n + 1 : Nat) : Int) by omega]
    exact ih (n + 1) (by omega)
theorem Ref4.Same_self (xs : List (BS × BS)) (hl : xs.length < 2 ^ 62) : Ref4.Same (xs.map toTok) (xs.map toTok) = some true := by
  unfold Ref4.Same
  simp only [letk]
  rw [show (((xs.map toTok).length : Int) != ((xs.map toTok).length : Int)) = false from bne_self_eq_false _, cond_false]
  exact rsame_l0 xs hl xs.length 0 (by omega)

end Go.Q
