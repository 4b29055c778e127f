import Derived.Test.YthdklcpkoeehnaaDoorR4
namespace Go.Q
open Go Go.Proofs
set_option maxRecDepth 10000

theorem word_dig {y : UInt8} {r : BS} (hy : pDigit (y.toNat : Int) = true) : wordOf (46 :: y :: r) = [] := by
  have y5 := (dig_all y hy).2.2.2.2.1
  have : words.find? (wtest (46 :: y :: r)) = none := by
    rw [List.find?_eq_none]
    intro w hw
    have hq := bytes_all (fun y => pLetter (y.toNat : Int) || (low y != 97 && low y != 111 && low y != 110 && low y != 101 && low y != 116 && low y != 102)) (by decide +kernel) y
    simp only [y5, Bool.false_or, Bool.and_eq_true, bne_iff_ne] at hq
    obtain ⟨⟨⟨⟨⟨q1, q2⟩, q3⟩, q4⟩, q5⟩, q6⟩ := hq
    simp only [words, List.mem_cons, List.not_mem_nil, or_false] at hw
    rw [Bool.not_eq_true]
    rcases hw with rfl | rfl | rfl | rfl | rfl | rfl <;> rw [wtest_cons, wtest_cons]
    · rw [beq_eq_false_iff_ne.2 q1]; simp
    · rw [beq_eq_false_iff_ne.2 q2]; simp
    · rw [beq_eq_false_iff_ne.2 q3]; simp
    · rw [beq_eq_false_iff_ne.2 q4]; simp
    · rw [beq_eq_false_iff_ne.2 q5]; simp
    · rw [beq_eq_false_iff_ne.2 q6]; simp
  unfold wordOf
  rw [this]; rfl

/-- A number's beginning. -/
def StN (u : BS) : Prop := pDigit ((u.getD 0 0).toNat : Int) = true ∨ u.getD 0 0 = 46 ∧ pDigit ((u.getD 1 0).toNat : Int) = true

theorem digit0 : pDigit (((0 : UInt8).toNat : Nat) : Int) = false := by decide
theorem StN.cases {u : BS} (h : StN u) : 0 < preL pDigit u ∨ preL pDigit u = 0 ∧ ∃ y r, u = 46 :: y :: r ∧ pDigit (y.toNat : Int) = true := by
  match u, h with
  | [], h =>
    rcases h with h | ⟨h, _⟩
    · exact absurd h (by decide)
    · exact absurd h (by decide)
  | [c], h =>
    rcases h with h | ⟨_, h⟩
    · left; have := preL_digs (p := pDigit) [c] [] (by intro x hx; rw [List.mem_singleton] at hx; subst hx; exact h); rw [List.append_nil] at this; rw [this, List.length_singleton]; omega
    · rw [show [c].getD 1 0 = (0 : UInt8) from rfl] at h; exact absurd h (by decide)
  | c :: y :: r, h =>
    rcases h with h | ⟨h1, h2⟩
    · left; have := preL_digs (p := pDigit) [c] (y :: r) (by intro x hx; rw [List.mem_singleton] at hx; subst hx; exact h); rw [List.singleton_append] at this; rw [this]; simp only [List.length_singleton]; omega
    · right
      have e1 : c = 46 := h1
      subst e1
      exact ⟨preL_stop (by decide), y, r, rfl, h2⟩
theorem hasPt_eq {u : BS} (h : StN u) : hasPt u = hasPoint u := by
  have hpo : pointOk (u.drop (preL pDigit u + 1)) = (!(pLetter ((u.getD (preL pDigit u + 1) 0).toNat : Int)) || isExp (u.getD (preL pDigit u + 1) 0)) := by
    unfold pointOk
    rw [getD_dropZ, Nat.add_zero]
    by_cases hr : u.drop (preL pDigit u + 1) = []
    · have : u.getD (preL pDigit u + 1) 0 = 0 := getD_past (by rw [List.drop_eq_nil_iff] at hr; exact hr)
      rw [decide_eq_true hr, this]; rfl
    · rw [decide_eq_false hr]; simp
  unfold hasPt hasPoint
  rw [hpo]
  cases h46 : u.getD (preL pDigit u) 0 == 46 with
  | false => simp
  | true =>
    have hlt : preL pDigit u < u.length := by
      rcases Nat.lt_or_ge (preL pDigit u) u.length with h1 | h1
      · exact h1
      · rw [getD_past h1] at h46; exact absurd h46 (by decide)
    rw [decide_eq_true hlt]
    rcases h.cases with h1 | ⟨h1, y, r, rfl, hy⟩
    · rw [decide_eq_true h1]
      cases decide (wordOf (u.drop (preL pDigit u)) = []) <;> cases pLetter ((u.getD (preL pDigit u + 1) 0).toNat : Int) <;> cases isExp (u.getD (preL pDigit u + 1) 0) <;> rfl
    · rw [h1]
      have y5 := (dig_all y hy).2.2.2.2.1
      rw [show (46 :: y :: r : BS).getD (0 + 1) 0 = y from rfl, y5]
      cases decide (wordOf ((46 :: y :: r : BS).drop 0) = []) <;> rfl
theorem hasPoint_dot {u : BS} (h : StN u) (h0 : preL pDigit u = 0) : hasPoint u = true := by
  rcases h.cases with h1 | ⟨_, y, r, rfl, hy⟩
  · omega
  · rw [← hasPt_eq h]
    unfold hasPt
    rw [h0, List.drop_zero, word_dig hy]
    rfl
theorem ptN_eq {u : BS} (h : StN u) : ptN u = pointN u := by unfold ptN pointN; rw [hasPt_eq h]

/-- How many digits the exponent has. -/
def expK (v : BS) : Nat := if expo v = 0 then 0 else preL pDigit (v.drop (expoN v))
theorem expo_cases (v : BS) : (expo v = 0 ∧ powN v = 0 ∧ expK v = 0) ∨ (isExp (v.getD 0 0) = true ∧ v ≠ [] ∧ 0 < expK v ∧ expK v = preL pDigit (v.drop (expoN v)) ∧ expo v = expoN v + expK v ∧ powN v = expoN v + min (expK v) 3) := by
  have h1 : expoN v = 1 ∨ expoN v = 2 := by unfold expoN; split <;> simp
  by_cases h : v = [] ∨ isExp (v.getD 0 0) = false
  · left
    have e0 : expo v = 0 := by unfold expo; rw [if_pos h]
    refine ⟨e0, ?_, by unfold expK; rw [if_pos e0]⟩
    unfold powN
    rcases h with rfl | h
    · rfl
    · rw [if_pos h]
  · have hE : isExp (v.getD 0 0) = true := by
      cases he : isExp (v.getD 0 0) with
      | true => rfl
      | false => exact absurd (.inr he) h
    have hv : v ≠ [] := fun e => h (.inl e)
    by_cases hk : preL pDigit (v.drop (expoN v)) = 0
    · left
      have e0 : expo v = 0 := by unfold expo; rw [if_neg h, if_pos hk]
      refine ⟨e0, ?_, by unfold expK; rw [if_pos e0]⟩
      unfold powN
      rw [if_neg (by rw [hE]; simp), if_pos hk]
    · right
      have e0 : expo v = expoN v + preL pDigit (v.drop (expoN v)) := by unfold expo; rw [if_neg h, if_neg hk]
      have e1 : expK v = preL pDigit (v.drop (expoN v)) := by unfold expK; rw [if_neg (by omega)]
      refine ⟨hE, hv, by omega, e1, by rw [e0, e1], ?_⟩
      unfold powN
      rw [if_neg (by rw [hE]; simp), if_neg hk, e1]
theorem take_digs (l : BS) : Digs (l.take (preL pDigit l)) := take_preL pDigit l
theorem take_len (l : BS) : (l.take (preL pDigit l)).length = preL pDigit l := by
  have := preL_le pDigit l
  rw [List.length_take]; omega
theorem rest_of (v : BS) : Rest (small (v.take (expo v))) (expK v) := by
  rcases expo_cases v with ⟨h1, _, h3⟩ | ⟨hE, hv, hk, ek, eo, _⟩
  · rw [h1, h3]; exact Rest.none
  · rw [eo]
    match v, hv with
    | c :: v', _ =>
      have hc := (exp_all c hE).1
      by_cases hs : decide (1 < (c :: v').length) && isSign ((c :: v').getD 1 0)
      · have eN : expoN (c :: v') = 2 := by unfold expoN; rw [if_pos hs]
        rw [eN] at ek ⊢
        simp only [Bool.and_eq_true, decide_eq_true_eq, List.length_cons] at hs
        match v', hs with
        | [], hs => exact absurd hs.1 (by simp)
        | x :: v'', hs =>
          have hx : isSign x = true := hs.2
          have ek' : expK (c :: x :: v'') = preL pDigit v'' := ek
          have hd := take_digs v''
          have hl := take_len v''
          rw [ek'] at hk ⊢
          have : small ((c :: x :: v'').take (2 + preL pDigit v'')) = low c :: ([x] ++ v''.take (preL pDigit v'')) := by
            rw [show 2 + preL pDigit v'' = preL pDigit v'' + 1 + 1 by omega, List.take_succ_cons, List.take_succ_cons]
            show low c :: low x :: small _ = _
            rw [(sign_all x hx).1, small_digs hd]; rfl
          rw [this]
          have := Rest.some (c := low c) (s := [x]) hc (.inr ⟨x, rfl, hx⟩) hd (by intro e; rw [e] at hl; simp at hl; omega)
          rw [hl] at this
          exact this
      · have eN : expoN (c :: v') = 1 := by unfold expoN; rw [if_neg hs]
        rw [eN] at ek ⊢
        have ek' : expK (c :: v') = preL pDigit v' := ek
        have hd := take_digs v'
        have hl := take_len v'
        rw [ek'] at hk ⊢
        have : small ((c :: v').take (1 + preL pDigit v')) = low c :: ([] ++ v'.take (preL pDigit v')) := by
          rw [show 1 + preL pDigit v' = preL pDigit v' + 1 by omega, List.take_succ_cons]
          show low c :: small _ = _
          rw [small_digs hd]; rfl
        rw [this]
        have := Rest.some (c := low c) (s := []) hc (.inl rfl) hd (by intro e; rw [e] at hl; simp at hl; omega)
        rw [hl] at this
        exact this

theorem real_valid {u : BS} (h : StN u) (hR : numR u = true) : isRealL (small (u.take (numN u))) = (decide (manyN u ≤ 60) && decide (expK (u.drop (pointN u)) ≤ 3)) := by
  have hd := take_digs u
  have hl := take_len u
  have hr := rest_of (u.drop (pointN u))
  unfold manyN
  rw [hasPt_eq h]
  unfold numN
  rw [List.take_add, small_app]
  cases hp : hasPoint u with
  | false =>
    have hpn : pointN u = preL pDigit u := by unfold pointN; rw [hp]; rfl
    have h0 : 0 < preL pDigit u := by
      rcases Nat.eq_zero_or_pos (preL pDigit u) with e | e
      · rw [hasPoint_dot h e] at hp; cases hp
      · exact e
    have hx : 0 < expo (u.drop (pointN u)) := by
      unfold numR at hR
      rw [hp] at hR
      simpa using hR
    have hle : expo (u.drop (pointN u)) ≤ (u.drop (pointN u)).length := expo_le _
    have := real_of (u.take (preL pDigit u)) [] (small ((u.drop (pointN u)).take (expo (u.drop (pointN u))))) _ hd hr
      (.inl ⟨rfl, by intro e; rw [e] at hl; simp at hl; omega, by intro e; have := congrArg List.length e; rw [small_len, List.length_take, List.length_nil] at this; omega⟩)
    rw [hl] at this
    conv => lhs; rw [show small (u.take (pointN u)) = u.take (preL pDigit u) by rw [hpn, small_digs hd]]
    simp only [List.nil_append, List.length_nil, Nat.zero_sub, Nat.add_zero] at this
    rw [this]
    rfl
  | true =>
    have hlt := hasPoint_lt hp
    have hnb := nb_le u
    have hd2 := take_digs (u.drop (preL pDigit u + 1))
    have hl2 := take_len (u.drop (preL pDigit u + 1))
    have hpn : pointN u = preL pDigit u + (1 + preL pDigit (u.drop (preL pDigit u + 1))) := by unfold pointN; rw [hp]; rfl
    have h46 : u.getD (preL pDigit u) 0 = 46 := by
      unfold hasPoint at hp
      simp only [Bool.and_eq_true, beq_iff_eq] at hp
      exact hp.1.1.2
    have hne : u.take (preL pDigit u) ≠ [] ∨ (u.drop (preL pDigit u + 1)).take (preL pDigit (u.drop (preL pDigit u + 1))) ≠ [] := by
      rcases h.cases with h1 | ⟨h1, y, r, rfl, hy⟩
      · left; intro e; rw [e] at hl; simp at hl; omega
      · right
        rw [h1]
        have := preL_digs (p := pDigit) [y] r (by intro x hx; rw [List.mem_singleton] at hx; subst hx; exact hy)
        rw [List.singleton_append] at this
        rw [show (46 :: y :: r : BS).drop (0 + 1) = y :: r from rfl, this]
        simp []
    have := real_of (u.take (preL pDigit u)) (46 :: (u.drop (preL pDigit u + 1)).take (preL pDigit (u.drop (preL pDigit u + 1)))) (small ((u.drop (pointN u)).take (expo (u.drop (pointN u))))) _ hd hr
      (.inr ⟨_, rfl, hd2, hne⟩)
    rw [hl, List.length_cons, hl2, Nat.add_sub_cancel] at this
    conv => lhs; rw [show small (u.take (pointN u)) = u.take (preL pDigit u) ++ (46 :: (u.drop (preL pDigit u + 1)).take (preL pDigit (u.drop (preL pDigit u + 1)))) by
      rw [hpn, List.take_add, small_app, small_digs hd, drop_cons (by omega : preL pDigit u < u.length), h46, Nat.add_comm 1, List.take_succ_cons]
      show _ ++ low 46 :: small _ = _
      rw [small_digs hd2]; rfl]
    rw [List.append_assoc, this]
    rfl

theorem int_valid {u : BS} (h : StN u) (hR : numR u = false) : numN u = preL pDigit u ∧ 0 < preL pDigit u ∧ manyN u = preL pDigit u ∧ Go.Q.isInt (small (u.take (numN u))) = decide (manyN u ≤ 10) := by
  have hd := take_digs u
  have hl := take_len u
  unfold numR at hR
  rw [Bool.or_eq_false_iff] at hR
  obtain ⟨hp, hx⟩ := hR
  have hpn : pointN u = preL pDigit u := by unfold pointN; rw [hp]; rfl
  have hx0 : expo (u.drop (pointN u)) = 0 := by simpa using hx
  have h0 : 0 < preL pDigit u := by
    rcases Nat.eq_zero_or_pos (preL pDigit u) with e | e
    · rw [hasPoint_dot h e] at hp; cases hp
    · exact e
  have hN : numN u = preL pDigit u := by unfold numN; rw [hx0, hpn]; rfl
  have hm : manyN u = preL pDigit u := by unfold manyN; rw [hasPt_eq h, hp]; rfl
  refine ⟨hN, h0, hm, ?_⟩
  rw [hN, hm, small_digs hd]
  unfold Go.Q.isInt
  have hp1 := preL_digs (p := pDigit) _ [] hd
  rw [List.append_nil, preL_nil, Nat.add_zero] at hp1
  rw [hp1, hl, decide_eq_true (by omega : 1 ≤ preL pDigit u)]
  simp

theorem part_lt {u : BS} {n : Nat} (h : pPart ((u.getD n 0).toNat : Int) = true) : n < u.length := by
  rcases Nat.lt_or_ge n u.length with h1 | h1
  · exact h1
  · rw [getD_past h1] at h; exact absurd h (by decide)

theorem num_equiv {u : BS} (h : StN u) : refNum u = (if numN u < u.length ∧ pPart ((u.getD (numN u) 0).toNat : Int) = true then none else if valid (numT u).1 (numT u).2 then some (numT u, numN u) else none) ∧ numN u ≠ 0 := by
  have hpt := ptN_eq h
  have hRR : refR u = numR u := by
    unfold refR numR
    rw [hasPt_eq h, hpt]
    congr 1
    rw [decide_eq_decide]
    rcases expo_cases (u.drop (pointN u)) with ⟨h1, h2, _⟩ | ⟨_, _, hk, _, h1, h2⟩
    · omega
    · omega
  have hpn0 : numR u = true → numN u ≠ 0 := by
    intro hR
    unfold numN
    unfold numR at hR
    rcases Bool.or_eq_true_iff.1 hR with h1 | h1
    · have : pointN u = preL pDigit u + (1 + preL pDigit (u.drop (preL pDigit u + 1))) := by unfold pointN; rw [h1]; rfl
      omega
    · have := of_decide_eq_true h1
      omega
  cases hR : numR u with
  | false =>
    obtain ⟨hN, h0, hm, hv⟩ := int_valid h hR
    have hR' := hR
    unfold numR at hR'
    rw [Bool.or_eq_false_iff] at hR'
    have hx0 : expo (u.drop (pointN u)) = 0 := by simpa using hR'.2
    have hpw : powN (u.drop (pointN u)) = 0 := by
      rcases expo_cases (u.drop (pointN u)) with ⟨_, h2, _⟩ | ⟨_, _, hk, _, h1, _⟩
      · exact h2
      · omega
    have hrn : refN u = numN u := by unfold refN numN; rw [hpt, hpw, hx0]
    refine ⟨?_, by omega⟩
    have hT : numT u = (kInt, small (u.take (numN u))) := by unfold numT; rw [hR]; rfl
    unfold refNum refBad
    rw [hRR, hR, hrn, hT]
    simp only [Bool.false_eq_true, if_false]
    rw [show valid kInt (small (u.take (numN u))) = Go.Q.isInt (small (u.take (numN u))) from rfl, hv]
    cases hp : pPart ((u.getD (numN u) 0).toNat : Int) with
    | true => rw [if_pos (show (true || _) = true from rfl), if_pos ⟨part_lt hp, rfl⟩]
    | false =>
      rw [if_neg (c := _ ∧ _) (fun e => by cases e.2), Bool.false_or]
      by_cases h10 : manyN u ≤ 10
      · rw [decide_eq_true h10, if_neg (by simp; omega), if_pos rfl]
      · rw [decide_eq_false h10, if_pos (by simp; omega), if_neg (by simp)]
  | true =>
    refine ⟨?_, hpn0 hR⟩
    have hv := real_valid h hR
    have hT : numT u = (kReal, small (u.take (numN u))) := by unfold numT; rw [hR]; rfl
    unfold refNum refBad
    rw [hRR, hR, hT]
    simp only [if_true]
    rw [show valid kReal (small (u.take (numN u))) = isRealL (small (u.take (numN u))) from rfl, hv]
    rcases Nat.lt_or_ge 3 (expK (u.drop (pointN u))) with h3 | h3
    · -- too many digits in the exponent
      rcases expo_cases (u.drop (pointN u)) with ⟨_, _, h2⟩ | ⟨_, _, hk, ek, h1, h2⟩
      · omega
      · have hdig : pPart ((u.getD (refN u) 0).toNat : Int) = true := by
          unfold refN
          rw [hpt, h2, Nat.min_eq_right (by omega)]
          have e1 : u.getD (pointN u + (expoN (u.drop (pointN u)) + 3)) 0 = ((u.drop (pointN u)).drop (expoN (u.drop (pointN u)))).getD 3 0 := by
            rw [getD_dropZ, getD_dropZ]
          rw [e1]
          rw [ek] at h3
          generalize (u.drop (pointN u)).drop (expoN (u.drop (pointN u))) = w at *
          have hd := take_digs w
          have hl := take_len w
          have hlt : 3 < (w.take (preL pDigit w)).length := by omega
          have hm := hd _ (List.getElem_mem hlt)
          have hle := preL_le pDigit w
          have e2 : (w.take (preL pDigit w))[3] = w.getD 3 0 := by
            rw [List.getElem_take, List.getD_eq_getElem?_getD, List.getElem?_eq_getElem (by omega)]; rfl
          rw [e2] at hm
          exact (dig_all _ hm).2.2.2.2.2.1
        rw [hdig, if_pos (show (true || _) = true from rfl), decide_eq_false (by omega : ¬ expK (u.drop (pointN u)) ≤ 3), Bool.and_false]
        split <;> simp
    · have hrn : refN u = numN u := by
        unfold refN numN
        rw [hpt]
        rcases expo_cases (u.drop (pointN u)) with ⟨h1, h2, _⟩ | ⟨_, _, hk, ek, h1, h2⟩
        · omega
        · omega
      rw [hrn, decide_eq_true h3, Bool.and_true]
      cases hp : pPart ((u.getD (numN u) 0).toNat : Int) with
      | true => rw [if_pos (show (true || _) = true from rfl), if_pos ⟨part_lt hp, rfl⟩]
      | false =>
        rw [if_neg (c := _ ∧ _) (fun e => by cases e.2), Bool.false_or]
        by_cases h60 : manyN u ≤ 60
        · rw [decide_eq_true h60, if_neg (by simp; omega), if_pos rfl]
        · rw [decide_eq_false h60, if_pos (by simp; omega), if_neg (by simp)]
end Go.Q
