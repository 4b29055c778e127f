import Derived.Test.YthdklcpkoeehnaaDoorR5
namespace Go.Q
open Go Go.Proofs
set_option maxRecDepth 10000

theorem quo_mem (q : UInt8) : ∀ (k : Nat) (r : BS), r.length ≤ k → ∀ p, quo q r = some p → ∀ c ∈ p.1, c ∈ r
  | k, [], _, p, h => by simp [quo] at h
  | k + 1, c :: r, hk, p, h => by
    rw [quo_cons] at h
    simp only [List.length_cons] at hk
    split at h
    · rename_i hc
      match r, h with
      | [], h => simp only [Option.some.injEq] at h; subst h; simp
      | c' :: r', h =>
        simp only [List.length_cons] at hk
        replace h : (if c' = q then (quo q r').map fun p => (q :: p.1, p.2 + 2) else some ([], 1)) = some p := h
        split at h
        · cases hq : quo q r' with
          | none => rw [hq] at h; cases h
          | some p' =>
            rw [hq] at h
            have := quo_mem q k r' (by omega) p' hq
            simp only [Option.map_some, Option.some.injEq] at h
            subst h
            intro x hx
            rcases List.mem_cons.1 hx with rfl | hx
            · exact List.mem_cons.2 (.inl hc.symm)
            · exact List.mem_cons_of_mem _ (List.mem_cons_of_mem _ (this x hx))
        · simp only [Option.some.injEq] at h; subst h; simp
    · cases hq : quo q r with
      | none => rw [hq] at h; cases h
      | some p' =>
        rw [hq] at h
        have := quo_mem q k r (by omega) p' hq
        simp only [Option.map_some, Option.some.injEq] at h
        subst h
        intro x hx
        rcases List.mem_cons.1 hx with rfl | hx
        · exact List.mem_cons_self ..
        · exact List.mem_cons_of_mem _ (this x hx)
  | 0, c :: r, hk, p, h => by simp at hk
theorem quoted_mem (u : BS) : ∀ c ∈ (quoted u).1, c ∈ u := by
  unfold quoted
  cases hq : quo (u.getD 0 0) (u.drop 1) with
  | none => intro c hc; cases hc
  | some p => intro c hc; exact List.mem_of_mem_drop (quo_mem _ _ _ (Nat.le_refl _) p hq c hc)

theorem name_valid {u : BS} (h : pLetter ((u.getD 0 0).toNat : Int) = true) : valid kName (small (u.take (preL pPart u))) = decide (preL pPart u ≤ 12) ∧ 0 < preL pPart u := by
  match u, h with
  | [], h => exact absurd h (by decide)
  | c :: r, h =>
    have hc : pLetter (c.toNat : Int) = true := h
    have hp : pPart (c.toNat : Int) = true := by unfold pPart; rw [hc]; rfl
    have hpos : 0 < preL pPart (c :: r) := by
      have := preL_digs (p := pPart) [c] r (by intro x hx; rw [List.mem_singleton] at hx; subst hx; exact hp)
      rw [List.singleton_append] at this
      rw [this, List.length_singleton]; omega
    refine ⟨?_, hpos⟩
    have hd := take_preL pPart (c :: r)
    have hl : ((c :: r).take (preL pPart (c :: r))).length = preL pPart (c :: r) := by
      have := preL_le pPart (c :: r)
      rw [List.length_take]; omega
    have hsl := small_len ((c :: r).take (preL pPart (c :: r)))
    have h1 : preL pPart (small ((c :: r).take (preL pPart (c :: r)))) = preL pPart (c :: r) := by
      have := preL_digs (p := pPart) (small ((c :: r).take (preL pPart (c :: r)))) [] (by
        intro x hx
        simp only [small, List.mem_map] at hx
        obtain ⟨y, hy, rfl⟩ := hx
        rw [low_part]; exact hd y hy)
      rw [List.append_nil, preL_nil, Nat.add_zero, hsl, hl] at this
      exact this
    show isName _ = _
    unfold isName
    rw [h1, hsl, hl, small_small]
    have h2 : pLetter (((small ((c :: r).take (preL pPart (c :: r)))).getD 0 0).toNat : Int) = true := by
      obtain ⟨n, hn⟩ : ∃ n, preL pPart (c :: r) = n + 1 := ⟨preL pPart (c :: r) - 1, by omega⟩
      rw [hn]
      show pLetter ((low c).toNat : Int) = true
      rw [low_letter]; exact hc
    rw [h2, decide_eq_true (by intro e; rw [e] at hsl; simp at hsl; omega)]
    simp

theorem word_head {u : BS} (h : wordOf u ≠ []) : u.getD 0 0 = 46 ∧ pDigit ((u.getD 1 0).toNat : Int) = false ∧ wordOf u ∈ words := by
  have hm : ∃ w, words.find? (wtest u) = some w ∧ wordOf u = w := by
    unfold wordOf at h ⊢
    cases hf : words.find? (wtest u) with
    | none => rw [hf] at h; exact absurd rfl h
    | some w => exact ⟨w, rfl, rfl⟩
  obtain ⟨w, hw, he⟩ := hm
  have hmem := List.mem_of_find?_eq_some hw
  have ht : wtest u w = true := by simpa using List.find?_some hw
  have h46 : ∀ w ∈ words, ∃ o, w = 46 :: o := by
    intro w hw
    simp only [words, List.mem_cons, List.not_mem_nil, or_false] at hw
    rcases hw with rfl | rfl | rfl | rfl | rfl | rfl <;> exact ⟨_, rfl⟩
  obtain ⟨o, rfl⟩ := h46 w hmem
  match u, h, ht with
  | [], _, ht => rw [wtest_no] at ht; cases ht
  | c :: r, h, ht =>
    rw [wtest_cons, Bool.and_eq_true] at ht
    have hc : c = 46 := by have := ht.1; rw [low_46] at this; exact beq_iff_eq.1 this
    subst hc
    refine ⟨rfl, ?_, he ▸ hmem⟩
    match r, h with
    | [], _ => rfl
    | y :: r', h =>
      show pDigit (y.toNat : Int) = false
      cases hy : pDigit (y.toNat : Int) with
      | false => rfl
      | true => exact absurd (word_dig hy) h

theorem first_equiv (u : BS) (ht : ∀ c ∈ u, pText (c.toNat : Int) = true) :
    refNext u = if (firstSpec u).2 = 0 ∨ valid (firstSpec u).1.1 (firstSpec u).1.2 = false then none else some (firstSpec u) := by
  unfold refNext
  by_cases hL : pLetter ((u.getD 0 0).toNat : Int) = true
  · obtain ⟨h1, h2⟩ := name_valid hL
    have e : firstSpec u = ((kName, small (u.take (preL pPart u))), if valid kName (small (u.take (preL pPart u))) then preL pPart u else 0) := by unfold firstSpec; rw [if_pos hL]
    rw [if_pos hL, e]
    simp only [h1]
    by_cases h12 : preL pPart u ≤ 12
    · rw [if_pos h12, decide_eq_true h12, if_neg (by simp; omega)]; rfl
    · rw [if_neg h12, decide_eq_false h12, if_pos (.inr rfl)]
  · rw [if_neg hL]
    have noL : pLetter ((u.getD 0 0).toNat : Int) = false := by simpa using hL
    by_cases hS : pDigit ((u.getD 0 0).toNat : Int) = true ∨ u.getD 0 0 = 46 ∧ pDigit ((u.getD 1 0).toNat : Int) = true
    · rw [if_pos hS]
      have hst : StN u := hS
      have hq : ¬ (u.getD 0 0 = 39 ∨ u.getD 0 0 = 34) := by
        rintro (h | h) <;> rw [h] at hS <;> rcases hS with hS | ⟨hS, _⟩
        · exact absurd hS (by decide)
        · exact absurd hS (by decide)
        · exact absurd hS (by decide)
        · exact absurd hS (by decide)
      have hw : ¬ wordOf u ≠ [] := by
        intro h
        obtain ⟨h1, h2, _⟩ := word_head h
        rcases hS with hS | ⟨_, hS⟩
        · rw [h1] at hS; exact absurd hS (by decide)
        · rw [h2] at hS; cases hS
      have hd : pDigit ((u.getD 0 0).toNat : Int) = true ∨ u.getD 0 0 = 46 ∧ 1 < u.length ∧ pDigit ((u.getD 1 0).toNat : Int) = true := by
        rcases hS with h | ⟨h1, h2⟩
        · exact .inl h
        · refine .inr ⟨h1, ?_, h2⟩
          rcases Nat.lt_or_ge 1 u.length with h | h
          · exact h
          · rw [getD_past h] at h2; exact absurd h2 (by decide)
      have e : firstSpec u = (numT u, if numN u < u.length ∧ pPart ((u.getD (numN u) 0).toNat : Int) = true then 0 else if valid (numT u).1 (numT u).2 then numN u else 0) := by
        unfold firstSpec
        rw [if_neg hL, if_neg hq, if_neg hw, if_pos hd]
      obtain ⟨h1, h2⟩ := num_equiv hst
      rw [h1, e]
      simp only
      by_cases hp : numN u < u.length ∧ pPart ((u.getD (numN u) 0).toNat : Int) = true
      · rw [if_pos hp, if_pos hp, if_pos (.inl rfl)]
      · rw [if_neg hp, if_neg hp]
        cases hv : valid (numT u).1 (numT u).2 with
        | true => rw [if_pos rfl, if_pos rfl, if_neg (by simp [h2])]
        | false => rw [if_neg (by simp), if_pos (.inr rfl)]
    · rw [if_neg hS]
      have hd : ¬ (pDigit ((u.getD 0 0).toNat : Int) = true ∨ u.getD 0 0 = 46 ∧ 1 < u.length ∧ pDigit ((u.getD 1 0).toNat : Int) = true) := fun h => hS (h.elim .inl (fun h => .inr ⟨h.1, h.2.2⟩))
      by_cases hq : u.getD 0 0 = 39 ∨ u.getD 0 0 = 34
      · have e : firstSpec u = ((kText, (quoted u).1), (quoted u).2) := by unfold firstSpec; rw [if_neg hL, if_pos hq]
        rw [if_pos hq, e]
        have hv : valid kText (quoted u).1 = true := by
          show (preL pText (quoted u).1 == (quoted u).1.length) = true
          have := preL_digs (p := pText) (quoted u).1 [] (fun c hc => ht c (quoted_mem u c hc))
          rw [List.append_nil, preL_nil, Nat.add_zero] at this
          rw [this]; exact beq_self_eq_true _
        simp only [hv]
        by_cases h0 : (quoted u).2 = 0
        · rw [if_pos h0, if_pos (.inl h0)]
        · rw [if_neg h0, if_neg (by simp [h0])]
      · rw [if_neg hq]
        by_cases hw : wordOf u ≠ []
        · obtain ⟨h46, _, hm⟩ := word_head hw
          have e : firstSpec u = ((if wordOf u ∈ words.drop 4 then kLog else kOp, wordOf u), (wordOf u).length) := by unfold firstSpec; rw [if_neg hL, if_neg hq, if_pos hw]
          rw [if_pos h46, if_neg hw, e]
          have hl : (wordOf u).length ≠ 0 := fun h => hw (List.length_eq_zero_iff.1 h)
          have hv : valid (if wordOf u ∈ words.drop 4 then kLog else kOp) (wordOf u) = true := by
            have : ∀ w ∈ words, valid (if w ∈ words.drop 4 then kLog else kOp) w = true := by decide
            exact this _ hm
          exact (if_neg (fun h => h.elim hl (fun h => by
            have h2 : valid (if wordOf u ∈ words.drop 4 then kLog else kOp) (wordOf u) = false := h
            rw [hv] at h2; cases h2))).symm
        · have e : firstSpec u = match signs.find? (·.isPrefixOf u) with | some o => ((kOp, o), o.length) | none => (([], []), 0) := by
            unfold firstSpec; rw [if_neg hL, if_neg hq, if_neg hw, if_neg hd]
            cases signs.find? (·.isPrefixOf u) <;> rfl
          have hw' : wordOf u = [] := Decidable.not_not.1 hw
          rw [e]
          by_cases h46 : u.getD 0 0 = 46
          · rw [if_pos h46, if_pos hw']
            have : signs.find? (·.isPrefixOf u) = none := by
              rw [List.find?_eq_none]
              intro o ho
              have h1 : ∀ o ∈ signs, ∃ x t, o = x :: t ∧ x ≠ 46 := by
                intro o ho
                simp only [signs, List.mem_cons, List.not_mem_nil, or_false] at ho
                rcases ho with rfl | rfl | rfl | rfl | rfl | rfl | rfl | rfl | rfl | rfl | rfl | rfl | rfl | rfl | rfl | rfl | rfl | rfl | rfl | rfl | rfl <;> exact ⟨_, _, rfl, by decide⟩
              obtain ⟨x, t, rfl, hx⟩ := h1 o ho
              match u, h46 with
              | [], h46 => exact absurd h46 (by decide)
              | c :: r, h46 =>
                have hc : c = 46 := h46
                subst hc
                show ¬ ((x == 46) && List.isPrefixOf t r) = true
                rw [beq_eq_false_iff_ne.2 hx]; simp
            rw [this]
            rw [if_pos (.inl rfl)]
          · rw [if_neg h46]
            cases hf : signs.find? (·.isPrefixOf u) with
            | none => rw [if_pos (.inl rfl)]
            | some o =>
              have ho := List.mem_of_find?_eq_some hf
              have h1 : ∀ o ∈ signs, o.length ≠ 0 ∧ valid kOp o = true := by decide
              obtain ⟨h2, h3⟩ := h1 o ho
              simp only
              rw [if_neg (by simp [h2, h3])]

/-! the reference's Scan -/

theorem rscan_l1 (l : BS) (hl : l.length < 2 ^ 31) (hp : ¬ preL pText l < l.length) : ∀ k (n : Nat) (out : List (BS × BS)), l.length - n ≤ k → SInv l out n →
    Ref4.Scan.l1 (B l) (out.map toTok) n = some ((scanSpec l).1.map toTok, ((scanSpec l).2.1 : Int), ((scanSpec l).2.2 : Int)) := by
  have hsz : (B l).size = l.length := rfl
  have htx : ∀ c ∈ l, pText (c.toNat : Int) = true := by
    have h1 := preL_le pText l
    exact preL_all (by omega)
  intro k
  induction k with
  | zero =>
    intro n out hn hq
    have hq1 := hq.2.1
    rw [Ref4.Scan.l1_eq, Ref4.Scan.s1]
    simp only [letk]
    rw [decide_eq_false (by omega : ¬ (n : Int) < ((B l).size : Int)), cond_false, hq.all hp (by omega)]
    rfl
  | succ k ih =>
    intro n out hn hq
    have hq1 := hq.1
    have hq2 := hq.2.1
    rw [Ref4.Scan.l1_eq, Ref4.Scan.s1]
    simp only [letk]
    by_cases hlt : n < l.length
    · rw [decide_eq_true (by omega : (n : Int) < ((B l).size : Int)), cond_true]
      have hd : l.getD n 0 = (l.drop n).getD 0 0 := by rw [getD_drop]; simp
      rw [chk_pos (by omega), show bt (B l) n = ((l.getD n 0).toNat : Int) from rfl, (u8n _).2.2.2.1, hd]
      cases h32 : (l.drop n).getD 0 0 == 32 with
      | true =>
        simp only [cond_true, Option.bind_some, Sum.elim_inl]
        rw [w64n (by omega) (by omega), show ((n : Int) + 1) = ((n + 1 : Nat) : Int) by omega]
        exact ih (n + 1) out (by omega) (hq.blank hlt (beq_iff_eq.1 h32))
      | false =>
        have hb : ¬ (l.drop n).getD 0 0 = 32 := beq_eq_false_iff_ne.1 h32
        have hnl : (l.drop n).length = l.length - n := List.length_drop
        have hle := first_le (l.drop n) (drop_ne hlt)
        have hnx := next_eq l n hl hlt
        rw [first_equiv (l.drop n) (fun c hc => htx c (List.mem_of_mem_drop hc))] at hnx
        rw [cond_false]
        by_cases h0 : (firstSpec (l.drop n)).2 = 0 ∨ valid (firstSpec (l.drop n)).1.1 (firstSpec (l.drop n)).1.2 = false
        · rw [if_pos h0] at hnx
          obtain ⟨t, m, h⟩ := hnx
          rw [h]
          simp only [Option.bind_some, Bool.not_false, cond_true, Sum.elim_inr]
          rw [hq.bad hp hlt hb h0]
          rfl
        · rw [if_neg h0] at hnx
          have h : Ref4.next_ (B l) n = some (toTok (firstSpec (l.drop n)).1, ((firstSpec (l.drop n)).2 : Int), true) := hnx
          rw [h]
          simp only [Option.bind_some, Bool.not_true, cond_false]
          rw [chk_pos (by simp only [List.length_map, List.length_cons, List.length_nil]; omega)]
          simp only [Option.bind_some, Sum.elim_inl]
          rw [w64n (by omega) (by omega), show ((n : Int) + ((firstSpec (l.drop n)).2 : Int)) = ((n + (firstSpec (l.drop n)).2 : Nat) : Int) by omega]
          have hv : valid (firstSpec (l.drop n)).1.1 (firstSpec (l.drop n)).1.2 = true := by
            cases hv : valid (firstSpec (l.drop n)).1.1 (firstSpec (l.drop n)).1.2 with
            | true => rfl
            | false => exact absurd (.inr hv) h0
          have := ih (n + (firstSpec (l.drop n)).2) (out ++ [(firstSpec (l.drop n)).1]) (by have : (firstSpec (l.drop n)).2 ≠ 0 := fun e => h0 (.inl e); omega) (hq.token hlt hb (fun e => h0 (.inl e)) hv)
          rw [List.map_append] at this
          exact this
    · rw [decide_eq_false (by omega : ¬ (n : Int) < ((B l).size : Int)), cond_false, hq.all hp (by omega)]
      rfl

theorem rscan_l0 (l : BS) (hl : l.length < 2 ^ 31) : ∀ k n : Nat, n + k = l.length → preL pText l = n + preL pText (l.drop n) →
    Ref4.Scan.l0 (B l) n = some ((scanSpec l).1.map toTok, ((scanSpec l).2.1 : Int), ((scanSpec l).2.2 : Int)) := by
  have hsz : (B l).size = l.length := rfl
  intro k
  induction k with
  | zero =>
    intro n hn hp
    rw [Ref4.Scan.l0_eq, Ref4.Scan.s0]
    simp only [letk]
    rw [decide_eq_false (by omega : ¬ (n : Int) < ((B l).size : Int)), cond_false]
    have := rscan_l1 l hl (by omega) l.length 0 [] (by omega) (SInv.start l)
    rw [List.map_nil, show ((0 : Nat) : Int) = 0 from rfl] at this
    rw [this]
    rfl
  | succ k ih =>
    intro n hn hp
    have hlt : n < l.length := by omega
    rw [Ref4.Scan.l0_eq, Ref4.Scan.s0]
    simp only [letk]
    rw [decide_eq_true (by omega : (n : Int) < ((B l).size : Int)), cond_true, chk_pos (by omega), chk_pos (by omega), show bt (B l) n = ((l.getD n 0).toNat : Int) from rfl]
    rw [preL_step _ hlt] at hp
    have hT : pText ((l.getD n 0).toNat : Int) = (!(decide (((l.getD n 0).toNat : Int) < 32)) && !(decide (((l.getD n 0).toNat : Int) > 126))) := by
      unfold pText
      rw [Bool.eq_iff_iff]
      simp only [Bool.and_eq_true, decide_eq_true_eq, Bool.not_eq_true', decide_eq_false_iff_not]
      omega
    have bad : pText ((l.getD n 0).toNat : Int) = false → scanSpec l = ([], n, 3) := by
      intro h
      rw [h] at hp
      simp only [Bool.false_eq_true, if_false, Nat.add_zero] at hp
      unfold scanSpec
      rw [if_pos (by omega), hp]
    cases h1 : decide (((l.getD n 0).toNat : Int) < 32) with
    | true =>
      rw [bad (by rw [hT, h1]; rfl)]
      rfl
    | false =>
      rw [cond_false]
      cases h2 : decide (((l.getD n 0).toNat : Int) > 126) with
      | true =>
        rw [bad (by rw [hT, h1, h2]; rfl)]
        rfl
      | false =>
        have hx : pText ((l.getD n 0).toNat : Int) = true := by rw [hT, h1, h2]; rfl
        rw [hx] at hp
        simp only [cond_false, Option.bind_some, Sum.elim_inl, if_true] at hp ⊢
        rw [w64n (by omega) (by omega), show ((n : Int) + 1) = ((n + 1 : Nat) : Int) by omega]
        exact ih (n + 1) (by omega) (by omega)

theorem Ref4.Scan_eq (s : ByteArray) (hs : s.size < 2 ^ 31) : Ref4.Scan s = some ((scanSpec (L s)).1.map toTok, ((scanSpec (L s)).2.1 : Int), ((scanSpec (L s)).2.2 : Int)) := by
  unfold Ref4.Scan
  have := rscan_l0 (L s) (by rw [L_len]; exact hs) (L s).length 0 (by omega) (by rw [List.drop_zero, Nat.zero_add])
  rw [B_L, show ((0 : Nat) : Int) = 0 from rfl] at this
  exact this

theorem rsame_l0 (xs : List (BS × BS)) (hl : xs.length < 2 ^ 62) : ∀ k n : Nat, n + k = xs.length → Ref4.Same.l0 (xs.map toTok) (xs.map toTok) n = some true := by
  intro k
  induction k with
  | zero =>
    intro n hn
    rw [Ref4.Same.l0_eq, Ref4.Same.s0]
    simp only [letk, List.length_map]
    rw [decide_eq_false (by omega : ¬ (n : Int) < (xs.length : Int))]
    rfl
  | succ k ih =>
    intro n hn
    have h1 : n < xs.length := by omega
    rw [Ref4.Same.l0_eq, Ref4.Same.s0]
    simp only [letk, List.length_map]
    rw [decide_eq_true (by omega : (n : Int) < (xs.length : Int)), cond_true, chk_pos (by omega), Int.toNat_natCast, List.getElem?_map, List.getElem?_eq_getElem h1]
    simp only [Option.map_some, Option.bind_some]
    rw [chk_pos (by omega), tok_beq]
    simp only [decide_true, Bool.not_true, cond_false, Option.bind_some, Sum.elim_inl]
    rw [w64n (by omega) (by omega), show ((n : Int) + 1) = ((n + 1 : Nat) : Int) by omega]
    exact ih (n + 1) (by omega)
theorem Ref4.Same_self (xs : List (BS × BS)) (hl : xs.length < 2 ^ 62) : Ref4.Same (xs.map toTok) (xs.map toTok) = some true := by
  unfold Ref4.Same
  simp only [letk]
  rw [show (((xs.map toTok).length : Int) != ((xs.map toTok).length : Int)) = false from bne_self_eq_false _, cond_false]
  exact rsame_l0 xs hl xs.length 0 (by omega)

theorem TokenScans_eq (t : ByteArray) : Law4.TokenScans t = some true := by
  unfold Law4.TokenScans
  simp only [letk, Law4.Awake_eq, Option.bind_some]
  by_cases ht : (t.size : Int) > 300
  · rw [decide_eq_true ht]; rfl
  rw [decide_eq_false ht, cond_false, Tok.Scan_eq _ (by omega), Ref4.Scan_eq _ (by omega)]
  simp only [Option.bind_some]
  have := scan_len (L t)
  rw [L_len] at this
  rw [Tok.Same_eq _ _ (by omega), Ref4.Same_self _ (by omega)]
  simp
end Go.Q
