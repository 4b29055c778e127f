import Derived.Test.YthdklcpkoeehnaaDoorR3
namespace Go.Q
open Go Go.Proofs
set_option maxRecDepth 10000

/-! what a real looks like -/

def Digs (l : BS) : Prop := ∀ c ∈ l, pDigit (c.toNat : Int) = true
theorem preL_digs {p : Int → Bool} : ∀ (d r : BS), (∀ c ∈ d, p (c.toNat : Int) = true) → preL p (d ++ r) = d.length + preL p r
  | [], r, _ => by simp
  | c :: d, r, h => by
    have ih := preL_digs d r (fun c hc => h c (List.mem_cons_of_mem _ hc))
    simp only [preL] at ih ⊢
    rw [List.cons_append, List.takeWhile_cons, if_pos (h c (List.mem_cons_self ..)), List.length_cons, List.length_cons, ih]
    omega
theorem preL_stop {p : Int → Bool} {c : UInt8} {r : BS} (h : p (c.toNat : Int) = false) : preL p (c :: r) = 0 := by
  simp only [preL, List.takeWhile_cons, h, Bool.false_eq_true, if_false, List.length_nil]
theorem preL_nil {p : Int → Bool} : preL p [] = 0 := rfl
theorem dig_all (c : UInt8) (h : pDigit (c.toNat : Int) = true) : low c = c ∧ c ≠ 46 ∧ isSign c = false ∧ isExp c = false ∧ pLetter (c.toNat : Int) = false ∧ pPart (c.toNat : Int) = true ∧ c ≠ 101 ∧ c ≠ 100 := by
  have h2 := bytes_all (fun c => !(pDigit (c.toNat : Int)) || (low c == c && c != 46 && !(isSign c) && !(isExp c) && !(pLetter (c.toNat : Int)) && pPart (c.toNat : Int) && c != 101 && c != 100)) (by decide +kernel) c
  simp only [h, Bool.not_true, Bool.false_or, Bool.and_eq_true, beq_iff_eq, bne_iff_ne, Bool.not_eq_true'] at h2
  obtain ⟨⟨⟨⟨⟨⟨⟨a, b⟩, c⟩, d⟩, e⟩, f⟩, g⟩, i⟩ := h2
  exact ⟨a, b, c, d, e, f, g, i⟩
theorem exp_all (c : UInt8) (h : isExp c = true) : (low c = 101 ∨ low c = 100) ∧ isExp (low c) = true ∧ pDigit (c.toNat : Int) = false ∧ c ≠ 46 ∧ pPart (c.toNat : Int) = true := by
  have h2 := bytes_all (fun c => !(isExp c) || ((low c == 101 || low c == 100) && isExp (low c) && !(pDigit (c.toNat : Int)) && c != 46 && pPart (c.toNat : Int))) (by decide +kernel) c
  simp only [h, Bool.not_true, Bool.false_or, Bool.and_eq_true, Bool.or_eq_true, beq_iff_eq, bne_iff_ne, Bool.not_eq_true'] at h2
  obtain ⟨⟨⟨⟨a, b⟩, c⟩, d⟩, e⟩ := h2
  exact ⟨a, b, c, d, e⟩
theorem sign_all (c : UInt8) (h : isSign c = true) : low c = c ∧ pDigit (c.toNat : Int) = false ∧ c ≠ 46 ∧ pLetter (c.toNat : Int) = false := by
  have h2 := bytes_all (fun c => !(isSign c) || (low c == c && !(pDigit (c.toNat : Int)) && c != 46 && !(pLetter (c.toNat : Int)))) (by decide +kernel) c
  simp only [h, Bool.not_true, Bool.false_or, Bool.and_eq_true, beq_iff_eq, bne_iff_ne, Bool.not_eq_true'] at h2
  obtain ⟨⟨⟨a, b⟩, c⟩, d⟩ := h2
  exact ⟨a, b, c, d⟩

/-- The end of a real: nothing, or an exponent of k digits. -/
structure Rest (r : BS) (k : Nat) : Prop where
  digit : preL pDigit r = 0
  dot : r.getD 0 0 ≠ 46
  len : expo r = r.length
  tail : decTail r = decide (k ≤ 4)
  word : wordOf (46 :: r) = []
  point : pointOk r = true
  sm : small r = r
  ix : r = [] ∧ k = 0 ∨ ∃ c t, r = c :: t ∧ ([101, 100] : BS).contains c = true ∧ preL pDigit (trimS t) = k

theorem Rest.none : Rest [] 0 := ⟨rfl, by decide, rfl, rfl, by decide, rfl, rfl, .inl ⟨rfl, rfl⟩⟩

theorem word_none {c d : UInt8} {r : BS} (hc : c = 101 ∨ c = 100) (hd : pLetter (d.toNat : Int) = false) : wordOf (46 :: c :: d :: r) = [] := by
  have hq : low d ≠ 113 := by
    have h2 := bytes_all (fun d => pLetter (d.toNat : Int) || low d != 113) (by decide +kernel) d
    simpa [hd] using h2
  unfold wordOf
  have : words.find? (wtest (46 :: c :: d :: r)) = none := by
    rw [List.find?_eq_none]
    intro w hw
    simp only [words, List.mem_cons, List.not_mem_nil, or_false] at hw
    rw [Bool.not_eq_true]
    rcases hc with rfl | rfl <;> rcases hw with rfl | rfl | rfl | rfl | rfl | rfl <;> simp only [wtest_cons] <;>
      first
      | rw [show (low 46 == 46) = true from by decide, show (low 101 == 101) = true from by decide, beq_eq_false_iff_ne.2 hq]; rfl
      | rw [show (low 46 == 46) = true from by decide]; rfl
  rw [this]; rfl

theorem Rest.some {c : UInt8} {s d : BS} (hc : c = 101 ∨ c = 100) (hs : s = [] ∨ ∃ x, s = [x] ∧ isSign x = true) (hd : Digs d) (h0 : d ≠ []) : Rest (c :: (s ++ d)) d.length := by
  obtain ⟨y, d', rfl⟩ : ∃ y d', d = y :: d' := by cases d with | nil => exact absurd rfl h0 | cons y d' => exact ⟨y, d', rfl⟩
  have hy := hd y (List.mem_cons_self ..)
  obtain ⟨y1, y2, y3, y4, y5, y6, y7, y8⟩ := dig_all y hy
  have hE : isExp c = true := by rcases hc with rfl | rfl <;> rfl
  have cD : pDigit (c.toNat : Int) = false := by rcases hc with rfl | rfl <;> rfl
  have c46 : c ≠ 46 := by rcases hc with rfl | rfl <;> decide
  have cl : low c = c := by rcases hc with rfl | rfl <;> rfl
  have call : ([101, 100] : BS).contains c = true := by rcases hc with rfl | rfl <;> rfl
  have hpd : preL pDigit (y :: d') = (y :: d').length := by
    have := preL_digs (p := pDigit) (y :: d') [] hd
    rwa [List.append_nil, preL_nil, Nat.add_zero] at this
  have smd : small (y :: d') = y :: d' := by
    unfold small
    conv => rhs; rw [← List.map_id (y :: d')]
    exact List.map_congr_left (fun x hx => (dig_all x (hd x hx)).1)
  have un : unsign (s ++ y :: d') = y :: d' := by
    unfold unsign
    rcases hs with rfl | ⟨x, rfl, hx⟩
    · simp [y3]
    · simp [hx]
  have tr : trimS (s ++ y :: d') = y :: d' := by
    unfold trimS
    rcases hs with rfl | ⟨x, rfl, hx⟩
    · simp [y3]
    · simp [hx, y3]
  have eN : expoN (c :: (s ++ y :: d')) = 1 + s.length := by
    unfold expoN
    rcases hs with rfl | ⟨x, rfl, hx⟩
    · simp [y3]
    · simp [hx]
  have dr : (c :: (s ++ y :: d')).drop (1 + s.length) = y :: d' := by
    rw [Nat.add_comm, List.drop_succ_cons, List.drop_left]
  refine ⟨preL_stop cD, c46, ?_, ?_, ?_, ?_, ?_, .inr ⟨c, _, rfl, call, by rw [tr, hpd]⟩⟩
  · unfold expo
    rw [if_neg (by simp [hE]), eN, dr, hpd, if_neg (by simp)]
    simp only [List.length_cons, List.length_append]; omega
  · unfold decTail
    rw [if_neg (by simp), if_pos (by exact hE)]
    rw [show (c :: (s ++ y :: d')).drop 1 = s ++ y :: d' from rfl, un, hpd]
    simp
  · rcases hs with rfl | ⟨x, rfl, hx⟩
    · exact word_none hc y5
    · exact word_none hc (sign_all x hx).2.2.2
  · unfold pointOk
    rw [show (c :: (s ++ y :: d')).getD 0 0 = c from rfl, hE]; simp
  · show low c :: small (s ++ y :: d') = _
    rw [cl, small_app, smd]
    rcases hs with rfl | ⟨x, rfl, hx⟩
    · rfl
    · rw [show small [x] = [low x] from rfl, (sign_all x hx).1]

theorem small_digs {d : BS} (h : Digs d) : small d = d := by
  unfold small
  conv => rhs; rw [← List.map_id d]
  exact List.map_congr_left (fun x hx => (dig_all x (h x hx)).1)
theorem index_app (chars : BS) : ∀ (a r : BS), (∀ c ∈ a, chars.contains c = false) → Lib.indexAny (a ++ r) chars = if Lib.indexAny r chars = -1 then -1 else a.length + Lib.indexAny r chars
  | [], r, _ => by
    simp only [List.nil_append, List.length_nil]
    split <;> simp_all
  | c :: a, r, h => by
    have ih := index_app chars a r (fun c hc => h c (List.mem_cons_of_mem _ hc))
    have hc := h c (List.mem_cons_self ..)
    rw [List.cons_append, Lib.indexAny, hc]
    simp only [Bool.false_eq_true, if_false]
    rw [ih]
    have hge := Lib.indexAny_ge chars r
    by_cases hr : Lib.indexAny r chars = -1
    · rw [if_pos hr, if_pos hr]; rfl
    · rw [if_neg hr, if_neg (by rw [beq_iff_eq]; omega)]
      simp only [List.length_cons]; omega

/-- What of a real's text is true: its first digits d, its point and what follows it (p), its end r. -/
theorem real_of (d p r : BS) (k : Nat) (hd : Digs d) (hr : Rest r k) (hp : p = [] ∧ d ≠ [] ∧ r ≠ [] ∨ ∃ d2, p = 46 :: d2 ∧ Digs d2 ∧ (d ≠ [] ∨ d2 ≠ [])) :
    isRealL (d ++ (p ++ r)) = (decide (d.length + (p.length - 1) ≤ 60) && decide (k ≤ 3)) := by
  have hne : ∀ c ∈ d, ([101, 100] : BS).contains c = false := fun c hc => by
    obtain ⟨_, _, _, _, _, _, a, b⟩ := dig_all c (hd c hc)
    simp [a, b]
  -- the digits ahead
  have pstop : preL pDigit (p ++ r) = 0 := by
    rcases hp with ⟨rfl, _, _⟩ | ⟨d2, rfl, _, _⟩
    · rw [List.nil_append]; exact hr.digit
    · exact preL_stop (by decide)
  have pre : preL pDigit (d ++ (p ++ r)) = d.length := by rw [preL_digs d _ hd, pstop, Nat.add_zero]
  have dr0 : (d ++ (p ++ r)).drop d.length = p ++ r := List.drop_left
  have at0 : (d ++ (p ++ r)).getD d.length 0 = (p ++ r).getD 0 0 := by
    have := getD_dropZ (d ++ (p ++ r)) d.length 0
    rw [dr0] at this
    rw [this]; rfl
  have hw0 : d ++ (p ++ r) ≠ [] := by
    rcases hp with ⟨rfl, h, _⟩ | ⟨d2, rfl, _, _⟩
    · simp [h]
    · simp
  have first : pDigit (((d ++ (p ++ r)).getD 0 0).toNat : Int) = true ∨ (d ++ (p ++ r)).getD 0 0 = 46 := by
    cases d with
    | cons y d' => exact .inl (hd y (List.mem_cons_self ..))
    | nil =>
      rcases hp with ⟨rfl, h, _⟩ | ⟨d2, rfl, _, _⟩
      · exact absurd rfl h
      · exact .inr rfl
  have sm : small (d ++ (p ++ r)) = d ++ (p ++ r) := by
    rw [small_app, small_app, small_digs hd, hr.sm]
    rcases hp with ⟨rfl, _, _⟩ | ⟨d2, rfl, h2, _⟩
    · rfl
    · show d ++ ((low 46 :: small d2) ++ r) = _
      rw [small_digs h2]; rfl
  -- the decimal
  have first' : ∀ x : UInt8, (pDigit (x.toNat : Int) = true ∨ x = 46) → isSign x = false ∧ x ≠ 105 ∧ x ≠ 110 := by
    intro x hx
    have h2 := bytes_all (fun x => !(pDigit (x.toNat : Int) || x == 46) || (!(isSign x) && x != 105 && x != 110)) (by decide +kernel) x
    have h3 : (pDigit (x.toNat : Int) || x == 46) = true := by simpa using hx
    simp only [h3, Bool.not_true, Bool.false_or, Bool.and_eq_true, bne_iff_ne, Bool.not_eq_true'] at h2
    exact ⟨h2.1.1, h2.1.2, h2.2⟩
  obtain ⟨f1, f2, f3⟩ := first' _ first
  have un : unsign (d ++ (p ++ r)) = d ++ (p ++ r) := by unfold unsign; rw [f1]; simp
  have dec : decIs (d ++ (p ++ r)) = (decide (d.length + (p.length - 1) ≤ 60) && decide (k ≤ 4)) := by
    unfold decIs
    rw [un, decide_eq_false (fun e => f2 (by rw [e]; rfl)), decide_eq_false (fun e => f3 (by rw [e]; rfl)), Bool.false_or, Bool.false_or]
    unfold decBody
    simp only [pre, dr0]
    rcases hp with ⟨rfl, h, h3⟩ | ⟨d2, rfl, h2, h4⟩
    · have hl := List.length_pos_iff.2 h
      rw [List.nil_append, if_neg (by simp only [Bool.and_eq_true, beq_iff_eq]; exact fun e => hr.dot e.1), hr.tail]
      simp only [List.length_nil, Nat.zero_sub, Nat.add_zero]
      by_cases h60 : d.length > 60
      · rw [if_pos (by simp [h60]), decide_eq_false (by omega), Bool.false_and]
      · rw [if_neg (by simp only [Bool.or_eq_true, decide_eq_true_eq]; omega), decide_eq_true (show d.length ≤ 60 by omega), Bool.true_and]
    · have hlt : d.length < (d ++ (46 :: d2 ++ r)).length := by simp
      have dr1 : (d ++ (46 :: d2 ++ r)).drop (d.length + 1) = d2 ++ r := by rw [← List.drop_drop, List.drop_left]; rfl
      have p2 : preL pDigit (d2 ++ r) = d2.length := by rw [preL_digs d2 _ h2, hr.digit, Nat.add_zero]
      have dr2 : (d ++ (46 :: d2 ++ r)).drop (d.length + 1 + d2.length) = r := by rw [← List.drop_drop, dr1, List.drop_left]
      have hl : 0 < d.length + d2.length := by
        rcases h4 with h | h
        · have := List.length_pos_iff.2 h; omega
        · have := List.length_pos_iff.2 h; omega
      rw [if_pos (by simp []), dr1, p2, dr2, hr.tail]
      simp only [List.length_cons, Nat.add_sub_cancel]
      by_cases h60 : d.length + d2.length > 60
      · rw [if_pos (by simp [h60]), decide_eq_false (by omega), Bool.false_and]
      · rw [if_neg (by simp only [Bool.or_eq_true, decide_eq_true_eq]; omega), decide_eq_true (show d.length + d2.length ≤ 60 by omega), Bool.true_and]
  -- the number
  have num : numR (d ++ (p ++ r)) = true ∧ numN (d ++ (p ++ r)) = (d ++ (p ++ r)).length := by
    rcases hp with ⟨rfl, h, h3⟩ | ⟨d2, rfl, h2, h4⟩
    · have hpt : hasPoint (d ++ ([] ++ r)) = false := by
        unfold hasPoint
        rw [pre, at0, List.nil_append, show (r.getD 0 0 == 46) = false from beq_eq_false_iff_ne.2 hr.dot]
        simp
      have hpn : pointN (d ++ ([] ++ r)) = d.length := by unfold pointN; rw [hpt, pre]; rfl
      have hl := List.length_pos_iff.2 h3
      unfold numR numN
      rw [hpt, hpn, dr0, List.nil_append, hr.len]
      exact ⟨by simp [hl], by simp⟩
    · have hlt : d.length < (d ++ (46 :: d2 ++ r)).length := by simp
      have dr1 : (d ++ (46 :: d2 ++ r)).drop (d.length + 1) = d2 ++ r := by rw [← List.drop_drop, List.drop_left]; rfl
      have p2 : preL pDigit (d2 ++ r) = d2.length := by rw [preL_digs d2 _ h2, hr.digit, Nat.add_zero]
      have dr2 : (d ++ (46 :: d2 ++ r)).drop (d.length + (1 + d2.length)) = r := by rw [← Nat.add_assoc, ← List.drop_drop, dr1, List.drop_left]
      have hwd : wordOf (46 :: d2 ++ r) = [] := by
        cases d2 with
        | nil => exact hr.word
        | cons y d2' =>
          obtain ⟨y1, _, _, _, y5, _, _, _⟩ := dig_all y (h2 y (List.mem_cons_self ..))
          have : words.find? (wtest (46 :: (y :: d2' ++ r))) = none := by
            rw [List.find?_eq_none]
            intro w hw
            have hq := bytes_all (fun y => pLetter (y.toNat : Int) || (low y != 97 && low y != 111 && low y != 110 && low y != 101 && low y != 116 && low y != 102)) (by decide +kernel) y
            simp only [y5, Bool.false_or, Bool.and_eq_true, bne_iff_ne] at hq
            obtain ⟨⟨⟨⟨⟨q1, q2⟩, q3⟩, q4⟩, q5⟩, q6⟩ := hq
            simp only [words, List.mem_cons, List.not_mem_nil, or_false] at hw
            rw [Bool.not_eq_true]
            rcases hw with rfl | rfl | rfl | rfl | rfl | rfl <;> rw [List.cons_append, wtest_cons, wtest_cons]
            · rw [beq_eq_false_iff_ne.2 q1]; simp
            · rw [beq_eq_false_iff_ne.2 q2]; simp
            · rw [beq_eq_false_iff_ne.2 q3]; simp
            · rw [beq_eq_false_iff_ne.2 q4]; simp
            · rw [beq_eq_false_iff_ne.2 q5]; simp
            · rw [beq_eq_false_iff_ne.2 q6]; simp
          unfold wordOf
          rw [List.cons_append, this]; rfl
      have hpo : pointOk (d2 ++ r) = true := by
        cases d2 with
        | nil => exact hr.point
        | cons y d2' =>
          obtain ⟨_, _, _, _, y5, _, _, _⟩ := dig_all y (h2 y (List.mem_cons_self ..))
          unfold pointOk
          rw [show ((y :: d2') ++ r).getD 0 0 = y from rfl, y5]; simp
      have hpt : hasPoint (d ++ (46 :: d2 ++ r)) = true := by
        unfold hasPoint
        rw [pre, at0, dr0, dr1, hwd, hpo, decide_eq_true hlt]
        rfl
      have hpn : pointN (d ++ (46 :: d2 ++ r)) = d.length + (1 + d2.length) := by unfold pointN; rw [hpt, pre, dr1, p2]; rfl
      unfold numR numN
      rw [hpt, hpn, dr2, hr.len]
      refine ⟨rfl, ?_⟩
      simp only [List.length_append, List.length_cons]; omega
  -- the exponent's digits
  have ixp : ∀ c ∈ p, ([101, 100] : BS).contains c = false := by
    rcases hp with ⟨rfl, _, _⟩ | ⟨d2, rfl, h2, _⟩
    · intro c hc; cases hc
    · intro c hc
      rcases List.mem_cons.1 hc with rfl | hc
      · decide
      · obtain ⟨_, _, _, _, _, _, a, b⟩ := dig_all c (h2 c hc)
        simp [a, b]
  have ix : (decide (Lib.indexAny (d ++ (p ++ r)) [101, 100] < 0) || decide (preL pDigit (trimS ((d ++ (p ++ r)).drop ((Lib.indexAny (d ++ (p ++ r)) [101, 100]).toNat + 1))) ≤ 3)) = decide (k ≤ 3) := by
    rw [← List.append_assoc, index_app [101, 100] (d ++ p) r (fun c hc => (List.mem_append.1 hc).elim (hne c) (ixp c))]
    rcases hr.ix with ⟨rfl, rfl⟩ | ⟨c, t, rfl, hc, ht⟩
    · rw [show Lib.indexAny [] [101, 100] = -1 from rfl]; rfl
    · have e0 : Lib.indexAny (c :: t) [101, 100] = 0 := by rw [Lib.indexAny, if_pos hc]
      rw [e0, if_neg (by decide), decide_eq_false (by omega), Bool.false_or]
      rw [show (((d ++ p).length : Int) + 0).toNat = (d ++ p).length by omega, ← List.drop_drop, List.drop_left]
      rw [show (c :: t).drop 1 = t from rfl, ht]
  unfold isRealL
  rw [num.1, num.2, dec, sm, ix, decide_eq_true hw0]
  have hf : (pDigit (((d ++ (p ++ r)).getD 0 0).toNat : Int) || (d ++ (p ++ r)).getD 0 0 == 46) = true := by
    rcases first with h | h
    · rw [h]; rfl
    · rw [h]; simp
  rw [hf]
  simp only [beq_self_eq_true, Bool.and_true, Bool.true_and]
  rw [Bool.and_assoc]
  congr 1
  by_cases h3 : k ≤ 3
  · rw [decide_eq_true h3, decide_eq_true (by omega)]; rfl
  · rw [decide_eq_false h3]; simp
end Go.Q
