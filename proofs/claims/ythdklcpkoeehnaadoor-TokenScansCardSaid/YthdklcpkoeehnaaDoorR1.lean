import Derived.Test.YthdklcpkoeehnaaDoorP9
namespace Go.Q
open Go Go.Proofs
set_option maxRecDepth 10000

/-! the functions of the reference, in plain words -/

theorem Ref4.isDigit_eq (c : Int) : Ref4.isDigit c = some (pDigit c) := by
  unfold Ref4.isDigit pDigit
  simp only [letk, ge_iff_le]
  cases decide (48 ≤ c) <;> simp
theorem Ref4.isLetter_eq (c : Int) : Ref4.isLetter c = some (pLetter c) := by
  unfold Ref4.isLetter pLetter
  simp only [letk, ge_iff_le]
  cases decide (97 ≤ c) <;> cases decide (c ≤ 122) <;> cases decide (65 ≤ c) <;> simp
theorem Ref4.isInner_eq (c : Int) : Ref4.isInner c = some (pPart c) := by
  unfold Ref4.isInner pPart
  rw [Ref4.isLetter_eq, Ref4.isDigit_eq]
  simp only [Option.bind_some, letk]
  cases pLetter c <;> cases pDigit c <;> simp
  rw [Bool.eq_iff_iff]; simp
theorem getD_past {l : BS} {i : Nat} (h : l.length ≤ i) : l.getD i 0 = 0 := by
  rw [List.getD_eq_getElem?_getD, List.getElem?_eq_none h]; rfl
theorem Ref4.at_eq (l : BS) (i : Nat) : Ref4.at_ (B l) i = some ((l.getD i 0).toNat : Int) := by
  have hsz : (B l).size = l.length := rfl
  unfold Ref4.at_
  simp only [letk]
  by_cases h : i < l.length
  · rw [decide_eq_true (by omega : (i : Int) < ((B l).size : Int)), cond_true, chk_pos (by omega)]
    rfl
  · rw [decide_eq_false (by omega : ¬ (i : Int) < ((B l).size : Int)), cond_false, getD_past (by omega)]
    rfl
theorem small_app (a b : BS) : small (a ++ b) = small a ++ small b := by simp [small]
theorem small_len (a : BS) : (small a).length = a.length := by simp [small]
theorem low_step (c : UInt8) (_ac : BS) (X : ByteArray → Option ((ByteArray × Int) ⊕ ByteArray)) :
    (bif decide ((c.toNat : Int) ≥ 65) then letk (decide ((c.toNat : Int) ≤ 90)) fun t => bif t then letk (IntKind.u8.wrap ((c.toNat : Int) + 32)) fun x => X (ofInts [x]) else X (ofInts [(c.toNat : Int)]) else X (ofInts [(c.toNat : Int)])) = X (B [low c]) := by
  have e1 : ∀ d : UInt8, ofInts [(d.toNat : Int)] = B [d] := fun d => ofInts_nat [d]
  have hc := c.toNat_lt
  by_cases h1 : 65 ≤ c.toNat ∧ c.toNat ≤ 90
  · have e2 : low c = c + 32 := by
      have := bytes_all (fun c => !(decide (65 ≤ c.toNat) && decide (c.toNat ≤ 90)) || low c == c + 32) (by decide +kernel) c
      simp only [decide_eq_true h1.1, decide_eq_true h1.2, Bool.and_self, Bool.not_true, Bool.false_or, beq_iff_eq] at this
      exact this
    have dn : (c + 32).toNat = c.toNat + 32 := by
      rw [UInt8.toNat_add, show (32 : UInt8).toNat = 32 from rfl]; omega
    rw [decide_eq_true (by omega : (c.toNat : Int) ≥ 65), cond_true, decide_eq_true (by omega : (c.toNat : Int) ≤ 90)]
    simp only [letk, cond]
    rw [u8w _ (by omega) (by omega), show (c.toNat : Int) + 32 = ((c + 32).toNat : Int) by rw [dn]; omega, e1, e2]
  · have e2 : low c = c := low_same c (by omega)
    rw [e2]
    by_cases h2 : 65 ≤ c.toNat
    · rw [decide_eq_true (by omega : (c.toNat : Int) ≥ 65), cond_true, decide_eq_false (by omega : ¬ (c.toNat : Int) ≤ 90)]
      simp only [letk, cond, e1]
    · rw [decide_eq_false (by omega : ¬ (c.toNat : Int) ≥ 65), cond_false, e1]
theorem lower_s0 (l ac : BS) (n : Nat) (hn : n < l.length) (hl : l.length < 2 ^ 40) (ha : ac.length < 2 ^ 40) : Ref4.Lower.s0 (B l) (B ac) n = some (.inl (B (ac ++ [low (l.getD n 0)]), ((n + 1 : Nat) : Int))) := by
  have hsz : (B l).size = l.length := rfl
  unfold Ref4.Lower.s0
  simp only [letk]
  rw [decide_eq_true (by omega : (n : Int) < ((B l).size : Int)), cond_true, chk_pos (by omega), show bt (B l) n = ((l.getD n 0).toNat : Int) from rfl]
  have := low_step (l.getD n 0) ac (fun t26 => chk ((((B ac).size + t26.size : Nat) : Int) ≤ 9223372036854775807) (some (.inl (B ac ++ t26, IntKind.i64.wrap ((n : Int) + 1)))))
  unfold Ref4.Lower.j0
  simp only [letk] at this ⊢
  rw [this, chk_pos (by rw [size_B, size_B]; simp only [List.length_cons, List.length_nil]; omega), w64n (by omega) (by omega), B_appR]
  rfl
theorem lower_l0 (l : BS) (hl : l.length < 2 ^ 39) : ∀ k n : Nat, n + k = l.length → Ref4.Lower.l0 (B l) (B (small (l.take n))) n = some (B (small l)) := by
  have hsz : (B l).size = l.length := rfl
  intro k
  induction k with
  | zero =>
    intro n hn
    rw [Ref4.Lower.l0_eq, Ref4.Lower.s0]
    simp only [letk]
    rw [decide_eq_false (by omega : ¬ (n : Int) < ((B l).size : Int)), List.take_of_length_le (by omega)]
    rfl
  | succ k ih =>
    intro n hn
    rw [Ref4.Lower.l0_eq, lower_s0 l _ n (by omega) (by omega) (by rw [small_len, List.length_take]; omega)]
    simp only [Option.bind_some, Sum.elim_inl]
    have e : small (l.take (n + 1)) = small (l.take n) ++ [low (l.getD n 0)] := by
      rw [List.take_succ_eq_append_getElem (by omega : n < l.length), show l.getD n 0 = l[n] by rw [List.getD_eq_getElem?_getD, List.getElem?_eq_getElem (by omega)]; rfl, small_app]
      rfl
    rw [← e]
    exact ih (n + 1) (by omega)
theorem Ref4.Lower_eq (s : ByteArray) (hs : s.size < 2 ^ 39) : Ref4.Lower s = some (B (small (L s))) := by
  unfold Ref4.Lower
  have := lower_l0 (L s) (by rw [L_len]; exact hs) (L s).length 0 (by omega)
  rw [B_L] at this
  exact this
theorem digits_l0 (l : BS) (i : Nat) (hl : l.length < 2 ^ 40) (hi : i < 2 ^ 40) : ∀ k n : Nat, l.length ≤ n + i + k → n + i ≤ l.length + i → Ref4.digits.l0 (B l) i n = some ((n + preL pDigit (l.drop (i + n)) : Nat) : Int) := by
  have h0 : pDigit 0 = false := by decide
  have key : ∀ n : Nat, n ≤ l.length → Ref4.digits.s0 (B l) i n = (if i + n < l.length ∧ pDigit ((l.getD (i + n) 0).toNat : Int) = true then some (.inl ((n + 1 : Nat) : Int)) else some (.inr (n : Int))) := by
    intro n hn
    unfold Ref4.digits.s0
    simp only [letk]
    rw [w64n (x := (i : Int) + n) (by omega) (by omega), show (i : Int) + n = ((i + n : Nat) : Int) by omega, Ref4.at_eq]
    simp only [Option.bind_some]
    rw [Ref4.isDigit_eq]
    simp only [Option.bind_some]
    by_cases h : i + n < l.length
    · cases hd : pDigit ((l.getD (i + n) 0).toNat : Int) with
      | true => rw [if_pos ⟨h, rfl⟩, cond_true, w64n (by omega) (by omega)]; rfl
      | false => rw [if_neg (fun e => by cases e.2), cond_false]
    · rw [getD_past (by omega), if_neg (fun e => h e.1), show pDigit (((0 : UInt8).toNat : Nat) : Int) = false from h0, cond_false]
  intro k
  induction k with
  | zero =>
    intro n h1 h2
    rw [Ref4.digits.l0_eq, key n (by omega), if_neg (fun e => by omega), List.drop_of_length_le (by omega)]
    rfl
  | succ k ih =>
    intro n h1 h2
    rw [Ref4.digits.l0_eq, key n (by omega)]
    by_cases h : i + n < l.length
    · rw [preL_step _ h]
      cases hd : pDigit ((l.getD (i + n) 0).toNat : Int) with
      | true =>
        rw [if_pos ⟨h, rfl⟩]
        simp only [Option.bind_some, Sum.elim_inl, if_true]
        rw [ih (n + 1) (by omega) (by omega), show n + 1 + preL pDigit (l.drop (i + (n + 1))) = n + (1 + preL pDigit (l.drop (i + n + 1))) by rw [show i + (n + 1) = i + n + 1 by omega]; omega]
      | false =>
        rw [if_neg (fun e => by cases e.2)]
        simp
    · rw [if_neg (fun e => h e.1), List.drop_of_length_le (by omega)]
      rfl
theorem Ref4.digits_eq (l : BS) (i : Nat) (hl : l.length < 2 ^ 40) (hi : i < 2 ^ 40) : Ref4.digits (B l) i = some ((preL pDigit (l.drop i) : Nat) : Int) := by
  unfold Ref4.digits
  have := digits_l0 l i hl hi l.length 0 (by omega) (by omega)
  rw [show ((0 : Nat) : Int) = 0 from rfl] at this
  rw [this, Nat.zero_add, Nat.add_zero]
theorem Ref4.words_eq : Ref4.words = some (BL Go.Q.words) := rfl
theorem Ref4.ops_eq : Ref4.ops = some (BL Go.Q.signs) := rfl
theorem starts_l0 (ws : List BS) (l : BS) (hl : l.length < 2 ^ 39) (hw : ws.length < 2 ^ 40) : ∀ k n : Nat, n + k = ws.length → (∀ j (h1 : j < ws.length), j < n → wtest l ws[j] = false) →
    Ref4.starts.l0 (BL ws) (B l) n = some (B ((ws.find? (wtest l)).getD [])) := by
  have hsz : (B l).size = l.length := rfl
  intro k
  induction k with
  | zero =>
    intro n hn hj
    rw [Ref4.starts.l0_eq, Ref4.starts.s0]
    simp only [letk]
    rw [BL_len, decide_eq_false (by omega : ¬ (n : Int) < (ws.length : Int)), find_no (p := wtest l) hj (by omega)]
    rfl
  | succ k ih =>
    intro n hn hj
    have hlt : n < ws.length := by omega
    rw [Ref4.starts.l0_eq, Ref4.starts.s0]
    simp only [letk]
    rw [BL_len, decide_eq_true (by omega : (n : Int) < (ws.length : Int)), cond_true, chk_pos (by omega), Int.toNat_natCast, BL_get hlt]
    simp only [Option.bind_some]
    have hw1 : (B ws[n]).size = ws[n].length := rfl
    have j0 : ∀ b, wtest l ws[n] = b → (Ref4.starts.j0 (BL ws) (B l) n b).bind (Sum.elim (fun n => Ref4.starts.l0 (BL ws) (B l) n) some) = some (B ((ws.find? (wtest l)).getD [])) := by
      intro b hb
      unfold Ref4.starts.j0
      cases b with
      | true =>
        rw [cond_true, chk_pos (by omega), Int.toNat_natCast, BL_get hlt, find_at (p := wtest l) hj hlt hb]
        rfl
      | false =>
        rw [cond_false]
        simp only [letk]
        rw [w64n (by omega) (by omega)]
        exact ih (n + 1) (by omega) (no_succ (p := wtest l) hj hlt hb)
    by_cases h : ws[n].length ≤ l.length
    · rw [decide_eq_true (by omega : ((B ws[n]).size : Int) ≤ ((B l).size : Int)), cond_true, chk_pos (by omega), Int.toNat_natCast, hw1, ext_T1, Ref4.Lower_eq _ (by rw [size_B, List.length_take]; omega)]
      simp only [Option.bind_some]
      rw [chk_pos (by omega), eqL, L_B, L_B, L_B]
      exact j0 _ (by simp [wtest, h])
    · rw [decide_eq_false (by omega : ¬ ((B ws[n]).size : Int) ≤ ((B l).size : Int)), cond_false]
      exact j0 _ (by simp [wtest, h])
theorem Ref4.starts_eq (ws : List BS) (l : BS) (hl : l.length < 2 ^ 39) (hw : ws.length < 2 ^ 40) : Ref4.starts (BL ws) (B l) = some (B ((ws.find? (wtest l)).getD [])) := by
  unfold Ref4.starts
  exact starts_l0 ws l hl hw ws.length 0 (by omega) (fun j _ h => by omega)
theorem u8b (c : UInt8) : ((c.toNat : Int) != 101) = !(c == 101) ∧ ((c.toNat : Int) != 69) = !(c == 69) ∧ ((c.toNat : Int) != 100) = !(c == 100) ∧ ((c.toNat : Int) != 68) = !(c == 68) := by
  have h := fun n hn => beq_u8 c n hn
  refine ⟨?_, ?_, ?_, ?_⟩
  · exact congrArg not (h 101 (by omega))
  · exact congrArg not (h 69 (by omega))
  · exact congrArg not (h 100 (by omega))
  · exact congrArg not (h 68 (by omega))
theorem Ref4.stray_eq (l : BS) (i a : Nat) (hi : i < 2 ^ 40) : Ref4.stray (B l) i a = some (decide (0 < a) && (pLetter ((l.getD (i + 1) 0).toNat : Int) && !isExp (l.getD (i + 1) 0))) := by
  unfold Ref4.stray isExp
  simp only [letk]
  rw [w64n (x := (i : Int) + 1) (by omega) (by omega), show (i : Int) + 1 = ((i + 1 : Nat) : Int) by omega, Ref4.at_eq]
  simp only [Option.bind_some]
  rw [Ref4.isLetter_eq, (u8b _).1, (u8b _).2.1, (u8b _).2.2.1, (u8b _).2.2.2]
  simp only [Option.bind_some]
  rw [show decide ((a : Int) > 0) = decide (0 < a) by simp []]
  cases decide (0 < a) <;> cases pLetter ((l.getD (i + 1) 0).toNat : Int) <;> cases l.getD (i + 1) 0 == 101 <;> cases l.getD (i + 1) 0 == 69 <;> cases l.getD (i + 1) 0 == 100 <;> cases l.getD (i + 1) 0 == 68 <;> rfl
/-- The length of an exponent as the reference counts it. -/
def powN (l : BS) : Nat := if isExp (l.getD 0 0) = false then 0 else
  if preL pDigit (l.drop (expoN l)) = 0 then 0 else expoN l + min (preL pDigit (l.drop (expoN l))) 3
theorem getD_dropZ (l : BS) (i j : Nat) : (l.drop i).getD j 0 = l.getD (i + j) 0 := by
  simp [List.getD_eq_getElem?_getD, List.getElem?_drop]
theorem power_j1 (l : BS) (i n : Nat) (hl : l.length < 2 ^ 40) (hi : i + n < 2 ^ 40) : Ref4.power.j1 (B l) i n = some ((if preL pDigit (l.drop (i + n)) = 0 then 0 else n + min (preL pDigit (l.drop (i + n))) 3 : Nat) : Int) := by
  unfold Ref4.power.j1
  simp only [letk]
  rw [w64n (x := (i : Int) + n) (by omega) (by omega), show (i : Int) + n = ((i + n : Nat) : Int) by omega, Ref4.digits_eq l _ hl hi]
  simp only [Option.bind_some]
  have hle := preL_le pDigit (l.drop (i + n))
  rw [List.length_drop] at hle
  generalize preL pDigit (l.drop (i + n)) = k at *
  by_cases h : k = 0
  · subst h; rfl
  · rw [int_bne (by omega : ¬ (k : Int) = 0), cond_false, if_neg h]
    by_cases h3 : 3 < k
    · rw [if_pos (by omega : (3 : Int) < (k : Int)), w64n (by omega) (by omega), Nat.min_eq_right (by omega)]; rfl
    · rw [if_neg (by omega : ¬ (3 : Int) < (k : Int)), w64n (by omega) (by omega), Nat.min_eq_left (by omega)]; rfl
theorem Ref4.power_eq (l : BS) (i : Nat) (hl : l.length < 2 ^ 39) (hi : i < 2 ^ 39) : Ref4.power (B l) i = some ((powN (l.drop i) : Nat) : Int) := by
  have j0 : isExp (l.getD i 0) = true → Ref4.power.j0 (B l) i = some ((powN (l.drop i) : Nat) : Int) := by
    intro he
    unfold Ref4.power.j0 powN
    rw [getD_dropZ, Nat.add_zero, he]
    simp only [letk, Bool.true_eq_false, if_false]
    rw [w64n (x := (i : Int) + 1) (by omega) (by omega), show (i : Int) + 1 = ((i + 1 : Nat) : Int) by omega, Ref4.at_eq]
    simp only [Option.bind_some]
    rw [(u8n _).1, (u8n _).2.1, w64n (x := (1 : Int) + 1) (by omega) (by omega)]
    have e1 : expoN (l.drop i) = if isSign (l.getD (i + 1) 0) then 2 else 1 := by
      unfold expoN
      rw [getD_dropZ, List.length_drop]
      by_cases h : 1 < l.length - i
      · rw [decide_eq_true h, Bool.true_and]
      · rw [decide_eq_false h, Bool.false_and, getD_past (by omega)]
        rfl
    rw [e1, List.drop_drop]
    unfold isSign
    have a1 := power_j1 l i 1 (by omega) (by omega)
    have a2 := power_j1 l i 2 (by omega) (by omega)
    cases h1 : l.getD (i + 1) 0 == 43 with
    | true => exact a2
    | false =>
      cases h2 : l.getD (i + 1) 0 == 45 with
      | true => exact a2
      | false => exact a1
  unfold Ref4.power
  rw [Ref4.at_eq]
  simp only [Option.bind_some, letk]
  rw [(u8b _).1, (u8b _).2.1, (u8b _).2.2.1, (u8b _).2.2.2]
  have hx : isExp (l.getD i 0) = (l.getD i 0 == 101 || l.getD i 0 == 69 || l.getD i 0 == 100 || l.getD i 0 == 68) := rfl
  cases h1 : l.getD i 0 == 101 with
  | true => exact j0 (by rw [hx, h1]; rfl)
  | false =>
    cases h2 : l.getD i 0 == 69 with
    | true => exact j0 (by rw [hx, h2]; simp)
    | false =>
      cases h3 : l.getD i 0 == 100 with
      | true => exact j0 (by rw [hx, h3]; simp)
      | false =>
        cases h4 : l.getD i 0 == 68 with
        | true => exact j0 (by rw [hx, h4]; simp)
        | false =>
          have : isExp ((l.drop i).getD 0 0) = false := by rw [getD_dropZ, Nat.add_zero, hx, h1, h2, h3, h4]; rfl
          unfold powN
          rw [if_pos this]
          rfl
end Go.Q
