import Derived.Test.YthdklcpkoeehnaaDoorR2
namespace Go.Q
open Go Go.Proofs
set_option maxRecDepth 10000

theorem wtest_nil (u : BS) : wtest u [] = true := by simp [wtest, small]
theorem wtest_no (x : UInt8) (o : BS) : wtest [] (x :: o) = false := by simp [wtest]
theorem wtest_cons (c x : UInt8) (u o : BS) : wtest (c :: u) (x :: o) = ((low c == x) && wtest u o) := by
  unfold wtest small
  rw [Bool.eq_iff_iff]
  simp only [List.length_cons, List.take_succ_cons, List.map_cons, Bool.and_eq_true, decide_eq_true_eq, beq_iff_eq, List.cons.injEq, Nat.add_le_add_iff_right]
  constructor
  · rintro ⟨h1, h2, h3⟩; exact ⟨h2, h1, h3⟩
  · rintro ⟨h2, h1, h3⟩; exact ⟨h1, h2, h3⟩
theorem wtest_plain : ∀ (o u : BS), (∀ x ∈ o, plainB x = true) → wtest u o = List.isPrefixOf o u
  | [], u, _ => by rw [wtest_nil]; cases u <;> rfl
  | x :: o, [], _ => by rw [wtest_no]; rfl
  | x :: o, c :: u, h => by
    rw [wtest_cons, wtest_plain o u (fun y hy => h y (List.mem_cons_of_mem _ hy))]
    have hx := h x (List.mem_cons_self ..)
    unfold plainB at hx
    simp only [Bool.and_eq_true, Bool.not_eq_true'] at hx
    have := low_plain (c := c) hx.1
    show _ = ((x == c) && List.isPrefixOf o u)
    congr 1
    rw [Bool.eq_iff_iff, beq_iff_eq, beq_iff_eq, this]
    exact eq_comm
theorem signs_find (u : BS) : Go.Q.signs.find? (wtest u) = Go.Q.signs.find? (·.isPrefixOf u) :=
  find_congr (fun o ho => wtest_plain o u (signs_plain o ho))

def refNext (u : BS) : Option ((BS × BS) × Nat) :=
  if pLetter ((u.getD 0 0).toNat : Int) then (if preL pPart u ≤ 12 then some ((kName, small (u.take (preL pPart u))), preL pPart u) else none)
  else if pDigit ((u.getD 0 0).toNat : Int) = true ∨ u.getD 0 0 = 46 ∧ pDigit ((u.getD 1 0).toNat : Int) = true then refNum u
  else if u.getD 0 0 = 39 ∨ u.getD 0 0 = 34 then (if (quoted u).2 = 0 then none else some ((kText, (quoted u).1), (quoted u).2))
  else if u.getD 0 0 = 46 then (if wordOf u = [] then none else some ((if wordOf u ∈ Go.Q.words.drop 4 then kLog else kOp, wordOf u), (wordOf u).length))
  else match Go.Q.signs.find? (·.isPrefixOf u) with
    | some o => some ((kOp, o), o.length)
    | none => none

section
variable (l : BS) (i : Nat) (hl : l.length < 2 ^ 31) (hi : i < l.length)
include hl hi
theorem rquoted_l0 (hq0 : l.getD i 0 ≠ 0) : ∀ k (n : Nat) (out : BS), l.length - i - n ≤ k → i + n ≤ l.length → QInv (l.drop i) out n →
    Ref4.quoted.l0 (B l) i (B out) ((i + n : Nat) : Int) = some (B (Go.Q.quoted (l.drop i)).1, ((Go.Q.quoted (l.drop i)).2 : Int), decide ((Go.Q.quoted (l.drop i)).2 ≠ 0)) := by
  have hsz : (B l).size = l.length := rfl
  have hbt : ∀ n : Nat, bt (B l) n = ((l.getD n 0).toNat : Int) := fun n => rfl
  have hlen : (l.drop i).length = l.length - i := List.length_drop
  have e0 : (l.drop i).getD 0 0 = l.getD i 0 := by rw [getD_dropZ]; rfl
  have en : ∀ n, (l.drop i).getD n 0 = l.getD (i + n) 0 := fun n => getD_dropZ l i n
  have ext : ∀ n, n < l.length → (B l).extract ((n : Nat) : Int).toNat ((n + 1 : Nat) : Int).toNat = B [l.getD n 0] := fun n hn => by
    rw [Int.toNat_natCast, Int.toNat_natCast, ← B_L ((B l).extract n (n + 1)), L_ext, L_B, List.drop_take, Nat.add_sub_cancel_left, drop_cons hn]
    rfl
  intro k
  induction k with
  | zero =>
    intro n out hn hle hq
    rw [Ref4.quoted.l0_eq, Ref4.quoted.s0]
    simp only [letk]
    rw [decide_eq_false (by omega : ¬ ((i + n : Nat) : Int) < ((B l).size : Int)), hq.none (by omega)]
    rfl
  | succ k ih =>
    intro n out hn hle hq
    have hq1 := hq.1
    have hq2 := hq.2.1
    rw [Ref4.quoted.l0_eq, Ref4.quoted.s0]
    simp only [letk]
    by_cases hlt : i + n < l.length
    · rw [decide_eq_true (by omega : ((i + n : Nat) : Int) < ((B l).size : Int)), cond_true, chk_pos (by omega), chk_pos (by omega), hbt, hbt, bne_u8, w64n (x := ((i + n : Nat) : Int) + 1) (by omega) (by omega), show ((i + n : Nat) : Int) + 1 = ((i + n + 1 : Nat) : Int) by omega, ext _ hlt]
      by_cases hc : l.getD (i + n) 0 = l.getD i 0
      · rw [show (l.getD (i + n) 0 != l.getD i 0) = false by rw [hc]; exact bne_self_eq_false _, cond_false, Ref4.at_eq]
        simp only [Option.bind_some]
        rw [chk_pos (by omega), bne_u8]
        by_cases h2 : l.getD (i + n + 1) 0 = l.getD i 0
        · have hlt2 : i + n + 1 < l.length := by
            rcases Nat.lt_or_ge (i + n + 1) l.length with h | h
            · exact h
            · rw [getD_past h] at h2; exact absurd h2.symm hq0
          rw [show (l.getD (i + n + 1) 0 != l.getD i 0) = false by rw [h2]; exact bne_self_eq_false _, cond_false, chk_pos (by omega), chk_pos (by rw [size_B, size_B]; simp only [List.length_cons, List.length_nil]; omega)]
          simp only [Option.bind_some, Sum.elim_inl]
          rw [w64n (by omega) (by omega), B_appR, hc, ← e0, show ((i + n + 1 : Nat) : Int) + 1 = ((i + (n + 1 + 1) : Nat) : Int) by omega]
          exact ih (n + 1 + 1) _ (by omega) (by omega) (hq.twice (by omega) (by rw [en, e0]; exact hc) (by rw [en, e0]; exact h2))
        · rw [show (l.getD (i + n + 1) 0 != l.getD i 0) = true from bne_iff_ne.2 h2, cond_true]
          simp only [Option.bind_some, Sum.elim_inr]
          rw [w64n (by omega) (by omega), hq.ends (by omega) (by rw [en, e0]; exact hc) (.inr (by rw [en, e0]; exact h2)), show ((i + n + 1 : Nat) : Int) - i = ((n + 1 : Nat) : Int) by omega]
          simp
      · rw [show (l.getD (i + n) 0 != l.getD i 0) = true from bne_iff_ne.2 hc, cond_true, chk_pos (by omega), chk_pos (by rw [size_B, size_B]; simp only [List.length_cons, List.length_nil]; omega)]
        simp only [Option.bind_some, Sum.elim_inl]
        rw [B_appR, ← en]
        exact ih (n + 1) _ (by omega) (by omega) (hq.other (by omega) (by rw [en, e0]; exact hc))
    · rw [decide_eq_false (by omega : ¬ ((i + n : Nat) : Int) < ((B l).size : Int)), hq.none (by omega)]
      rfl
theorem rquoted_eq (hq0 : l.getD i 0 ≠ 0) : Ref4.quoted (B l) i = some (B (Go.Q.quoted (l.drop i)).1, ((Go.Q.quoted (l.drop i)).2 : Int), decide ((Go.Q.quoted (l.drop i)).2 ≠ 0)) := by
  unfold Ref4.quoted
  simp only [letk]
  rw [w64n (by omega) (by omega)]
  exact rquoted_l0 l i hl hi hq0 (l.length - i) 1 [] (by omega) (by omega) (QInv.start _)

theorem rname_l0 (a b : ByteArray) : ∀ k n : Nat, l.length ≤ i + n + k → i + n ≤ l.length →
    Ref4.next_.l0 (B l) i a b n = some (toTok (kName, small ((l.drop i).take (n + preL pPart (l.drop (i + n))))), ((n + preL pPart (l.drop (i + n)) : Nat) : Int), decide (n + preL pPart (l.drop (i + n)) ≤ 12)) := by
  have hsz : (B l).size = l.length := rfl
  have h0 : pPart (((0 : UInt8).toNat : Nat) : Int) = false := by decide
  have stop : ∀ n : Nat, i + n ≤ l.length → (Option.bind ((letk (IntKind.i64.wrap ((i : Int) + (n : Nat))) fun t33 =>
    chk (0 ≤ (i : Int) ∧ (i : Int) ≤ t33 ∧ t33 ≤ ((B l).size : Int)) <|
    letk ((B l).extract (i : Int).toNat t33.toNat) fun t34 =>
    Option.bind (Ref4.Lower t34) fun t35 =>
    letk (decide ((n : Int) ≤ (12 : Int))) fun t39 =>
    some ((⟨⟨#[110, 97, 109, 101]⟩, t35⟩ : api.Token), (n : Int), t39)).map (Sum.inr (α := ByteArray × ByteArray × Int))) (Sum.elim (fun v => Ref4.next_.l0 (B l) i v.1 v.2.1 v.2.2) some)) = some (toTok (kName, small ((l.drop i).take n)), (n : Int), decide (n ≤ 12)) := by
    intro n hn
    simp only [letk]
    rw [w64n (x := (i : Int) + (n : Nat)) (by omega) (by omega), chk_pos (by omega), show (i : Int) + (n : Nat) = ((i + n : Nat) : Int) by omega, Int.toNat_natCast, Int.toNat_natCast]
    rw [show (B l).extract i (i + n) = B ((l.drop i).take n) by rw [← B_L ((B l).extract i (i + n)), L_ext, L_B, List.drop_take, Nat.add_sub_cancel_left]]
    rw [Ref4.Lower_eq _ (by rw [size_B, List.length_take, List.length_drop]; omega), L_B]
    simp only [Option.bind_some, Option.map_some, Sum.elim_inr]
    rw [show decide ((n : Int) ≤ 12) = decide (n ≤ 12) by rw [decide_eq_decide]; omega]
    rfl
  have past : ∀ n : Nat, l.length ≤ i + n → preL pPart (l.drop (i + n)) = 0 := fun n h => by rw [List.drop_of_length_le h]; rfl
  have no : ∀ n : Nat, i + n ≤ l.length → pPart ((l.getD (i + n) 0).toNat : Int) = false → Ref4.next_.l0 (B l) i a b n = some (toTok (kName, small ((l.drop i).take n)), (n : Int), decide (n ≤ 12)) := by
    intro n hn hp
    have := stop n hn
    rw [Ref4.next_.l0_eq, Ref4.next_.s0]
    simp only [letk] at this ⊢
    rw [w64n (x := (i : Int) + (n : Nat)) (by omega) (by omega), show (i : Int) + (n : Nat) = ((i + n : Nat) : Int) by omega, Ref4.at_eq]
    simp only [Option.bind_some]
    rw [Ref4.isInner_eq, hp]
    simp only [Option.bind_some, cond_false]
    rw [w64n (x := (i : Int) + (n : Nat)) (by omega) (by omega), show (i : Int) + (n : Nat) = ((i + n : Nat) : Int) by omega] at this
    exact this
  intro k
  induction k with
  | zero =>
    intro n h1 h2
    rw [no n h2 (by rw [getD_past (by omega)]; exact h0), past n (by omega)]
    rfl
  | succ k ih =>
    intro n h1 h2
    rcases Nat.lt_or_ge (i + n) l.length with h3 | h3
    · cases hp : pPart ((l.getD (i + n) 0).toNat : Int) with
      | false =>
        rw [no n h2 hp, preL_step _ h3, hp]
        rfl
      | true =>
        rw [preL_step _ h3, hp, Ref4.next_.l0_eq, Ref4.next_.s0]
        simp only [letk]
        rw [w64n (x := (i : Int) + (n : Nat)) (by omega) (by omega), show (i : Int) + (n : Nat) = ((i + n : Nat) : Int) by omega, Ref4.at_eq]
        simp only [Option.bind_some]
        rw [Ref4.isInner_eq, hp]
        simp only [Option.bind_some, cond_true, Sum.elim_inl, if_true]
        rw [w64n (by omega) (by omega), show (n : Int) + 1 = ((n + 1 : Nat) : Int) by omega, ih (n + 1) (by omega) (by omega)]
        rw [show n + 1 + preL pPart (l.drop (i + (n + 1))) = n + (1 + preL pPart (l.drop (i + n + 1))) by rw [show i + (n + 1) = i + n + 1 by omega]; omega]
    · rw [no n h2 (by rw [getD_past (by omega)]; exact h0), past n (by omega)]
      rfl

theorem next_eq : NextR (Ref4.next_ (B l) i) (refNext (l.drop i)) := by
  have hsz : (B l).size = l.length := rfl
  have e0 : (l.drop i).getD 0 0 = l.getD i 0 := by rw [getD_dropZ]; rfl
  have e1 : (l.drop i).getD 1 0 = l.getD (i + 1) 0 := by rw [getD_dropZ]
  unfold Ref4.next_ refNext
  rw [chk_pos (by omega), e0, e1]
  simp only [letk]
  rw [show bt (B l) (i : Int) = ((l.getD i 0).toNat : Int) from rfl, Ref4.isLetter_eq]
  simp only [Option.bind_some]
  cases hL : pLetter ((l.getD i 0).toNat : Int) with
  | true =>
    rw [cond_true, if_pos rfl]
    have := rname_l0 l i hl hi ⟨#[]⟩ ⟨#[]⟩ l.length 0 (by omega) (by omega)
    rw [show ((0 : Nat) : Int) = 0 from rfl] at this
    rw [this]
    simp only [Nat.zero_add, Nat.add_zero]
    by_cases h12 : preL pPart (l.drop i) ≤ 12
    · rw [if_pos h12, decide_eq_true h12]; rfl
    · rw [if_neg h12, decide_eq_false h12]; exact ⟨_, _, rfl⟩
  | false =>
    simp only [cond_false, Bool.false_eq_true, if_false]
    rw [Ref4.isDigit_eq]
    simp only [Option.bind_some]
    have num : NextR (Ref4.next_.j1 (B l) i ((l.getD i 0).toNat : Int) ⟨#[]⟩ ⟨#[]⟩ true) (refNum (l.drop i)) := by
      have := number_next l i hl hi
      unfold Ref4.next_.j1
      rw [cond_true]
      unfold NextR at this ⊢
      cases hr : refNum (l.drop i) with
      | none => rw [hr] at this; obtain ⟨t, n, h⟩ := this; rw [h]; exact ⟨_, _, rfl⟩
      | some p => rw [hr] at this; simp only at this ⊢; rw [this]; rfl
    have rest : ¬ (pDigit ((l.getD i 0).toNat : Int) = true ∨ l.getD i 0 = 46 ∧ pDigit ((l.getD (i + 1) 0).toNat : Int) = true) → NextR (Ref4.next_.j1 (B l) i ((l.getD i 0).toNat : Int) ⟨#[]⟩ ⟨#[]⟩ false)
        (if l.getD i 0 = 39 ∨ l.getD i 0 = 34 then (if (quoted (l.drop i)).2 = 0 then none else some ((kText, (quoted (l.drop i)).1), (quoted (l.drop i)).2))
  else if l.getD i 0 = 46 then (if wordOf (l.drop i) = [] then none else some ((if wordOf (l.drop i) ∈ Go.Q.words.drop 4 then kLog else kOp, wordOf (l.drop i)), (wordOf (l.drop i)).length))
  else match Go.Q.signs.find? (·.isPrefixOf (l.drop i)) with
    | some o => some ((kOp, o), o.length)
    | none => none) := by
      intro hnum
      have quot : (l.getD i 0 = 39 ∨ l.getD i 0 = 34) → NextR (Ref4.next_.j2 (B l) i ((l.getD i 0).toNat : Int) ⟨#[]⟩ ⟨#[]⟩ true) (if (quoted (l.drop i)).2 = 0 then none else some ((kText, (quoted (l.drop i)).1), (quoted (l.drop i)).2)) := by
        intro h
        unfold Ref4.next_.j2
        rw [cond_true, rquoted_eq l i hl hi (by rcases h with h | h <;> rw [h] <;> decide)]
        simp only [Option.bind_some]
        by_cases hz : (quoted (l.drop i)).2 = 0
        · rw [if_pos hz, decide_eq_false (fun h => h hz)]; exact ⟨_, _, rfl⟩
        · rw [if_neg hz, decide_eq_true hz]; rfl
      unfold Ref4.next_.j1
      simp only [letk, cond_false]
      rw [(u8n _).2.2.2.2.1, (u8n _).2.2.2.2.2]
      cases h39 : l.getD i 0 == 39 with
      | true =>
        have h := beq_iff_eq.1 h39
        rw [cond_true, if_pos (.inl h)]
        exact quot (.inl h)
      | false =>
        rw [cond_false]
        cases h34 : l.getD i 0 == 34 with
        | true =>
          have h := beq_iff_eq.1 h34
          rw [if_pos (.inr h)]
          exact quot (.inr h)
        | false =>
          rw [if_neg (fun h => h.elim (beq_eq_false_iff_ne.1 h39) (beq_eq_false_iff_ne.1 h34))]
          unfold Ref4.next_.j2
          simp only [letk, cond_false]
          rw [(u8n _).2.2.1]
          have hdl : (l.drop i).length < 2 ^ 39 := by rw [List.length_drop]; omega
          cases h46 : l.getD i 0 == 46 with
          | true =>
            rw [cond_true, if_pos (beq_iff_eq.1 h46), Ref4.words_eq]
            simp only [Option.bind_some]
            rw [chk_pos (by omega), Int.toNat_natCast, ext_D1, Ref4.starts_eq _ _ hdl (by decide)]
            simp only [Option.bind_some]
            rw [wordsFind, eqL, eqL, L_B]
            have e4 : Go.Q.words.drop 4 = [[46, 116, 114, 117, 101, 46], [46, 102, 97, 108, 115, 101, 46]] := rfl
            rw [e4]
            have j3 : ∀ k : BS, NextR (Ref4.next_.j3 ⟨#[]⟩ ⟨#[]⟩ (B (wordOf (l.drop i))) (B k)) (if wordOf (l.drop i) = [] then none else some ((k, wordOf (l.drop i)), (wordOf (l.drop i)).length)) := by
              intro k
              unfold Ref4.next_.j3
              simp only [letk]
              rw [eqL, L_B, L_e]
              by_cases hw : wordOf (l.drop i) = []
              · rw [if_pos hw, hw]; exact ⟨_, _, rfl⟩
              · rw [if_neg hw, beq_eq_false_iff_ne.2 hw]; rfl
            by_cases ht : wordOf (l.drop i) = [46, 116, 114, 117, 101, 46]
            · rw [show (wordOf (l.drop i) == L ⟨#[46, 116, 114, 117, 101, 46]⟩) = true from beq_iff_eq.2 ht, cond_true, if_pos (c := _ ∈ _) (by rw [ht]; simp)]
              exact j3 kLog
            · rw [show (wordOf (l.drop i) == L ⟨#[46, 116, 114, 117, 101, 46]⟩) = false from beq_eq_false_iff_ne.2 ht, cond_false]
              by_cases hf : wordOf (l.drop i) = [46, 102, 97, 108, 115, 101, 46]
              · rw [show (wordOf (l.drop i) == L ⟨#[46, 102, 97, 108, 115, 101, 46]⟩) = true from beq_iff_eq.2 hf, cond_true, if_pos (c := _ ∈ _) (by rw [hf]; simp)]
                exact j3 kLog
              · rw [show (wordOf (l.drop i) == L ⟨#[46, 102, 97, 108, 115, 101, 46]⟩) = false from beq_eq_false_iff_ne.2 hf, cond_false, if_neg (c := _ ∈ _) (by simp [ht, hf])]
                exact j3 kOp
          | false =>
            rw [cond_false, if_neg (beq_eq_false_iff_ne.1 h46)]
            unfold Ref4.next_.j0
            rw [Ref4.ops_eq]
            simp only [Option.bind_some, letk]
            rw [chk_pos (by omega), Int.toNat_natCast, ext_D1, Ref4.starts_eq _ _ hdl (by decide)]
            simp only [Option.bind_some]
            rw [signs_find, eqL, L_B, L_e]
            have hne : ∀ o ∈ Go.Q.signs, o ≠ [] := by decide
            cases hf : Go.Q.signs.find? (·.isPrefixOf (l.drop i)) with
            | none => exact ⟨_, _, rfl⟩
            | some o =>
              have := hne o (List.mem_of_find?_eq_some hf)
              simp only [Option.getD_some]
              rw [beq_eq_false_iff_ne.2 this]
              rfl
    cases hd : pDigit ((l.getD i 0).toNat : Int) with
    | true =>
      rw [cond_true, if_pos (.inl rfl)]
      exact num
    | false =>
      rw [hd] at rest
      simp only [cond_false, Bool.false_eq_true, false_or] at rest ⊢
      rw [(u8n _).2.2.1]
      cases h46 : l.getD i 0 == 46 with
      | true =>
        rw [cond_true, w64n (by omega) (by omega), show (i : Int) + 1 = ((i + 1 : Nat) : Int) by omega, Ref4.at_eq]
        simp only [Option.bind_some]
        rw [Ref4.isDigit_eq]
        simp only [Option.bind_some]
        cases hd1 : pDigit ((l.getD (i + 1) 0).toNat : Int) with
        | true =>
          rw [if_pos ⟨beq_iff_eq.1 h46, rfl⟩]
          exact num
        | false =>
          rw [hd1] at rest
          rw [if_neg (fun h => by cases h.2)]
          exact rest (fun h => by cases h.2)
      | false =>
        have hn := beq_eq_false_iff_ne.1 h46
        rw [cond_false, if_neg (fun h => hn h.1)]
        exact rest (fun h => hn h.1)
end
end Go.Q
