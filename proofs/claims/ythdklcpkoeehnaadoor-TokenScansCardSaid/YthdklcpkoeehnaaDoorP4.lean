import Derived.Test.YthdklcpkoeehnaaDoorP3
namespace Go.Q
open Go Go.Proofs

theorem chk_neg {ρ : Type} {c : Prop} [Decidable c] {X : Option ρ} (h : ¬ c) : chk c X = none := if_neg h
theorem Dec.digitsOf_l0 (s : ByteArray) (hs : s.size < 2 ^ 62) : ∀ k n : Nat, n + k = s.size → Dec.digitsOf.l0 s n = some (B ((L s).take (n + preL pDigit ((L s).drop n)))) := by
  intro k
  induction k with
  | zero =>
    intro n hn
    rw [Dec.digitsOf.l0_eq, Dec.digitsOf.s0]
    simp only [letk]
    rw [decide_eq_false (by omega : ¬ (n : Int) < s.size)]
    have : (L s).drop n = [] := List.drop_of_length_le (by rw [L_len]; omega)
    simp only [cond]
    rw [chk_pos (by omega), this, Int.toNat_natCast, ext_B]
    simp [preL]
  | succ k ih =>
    intro n hn
    have hl := L_len s
    rw [Dec.digitsOf.l0_eq, Dec.digitsOf.s0]
    simp only [letk]
    rw [decide_eq_true (by omega : (n : Int) < s.size)]
    simp only [cond]
    rw [chk_pos (by omega), bt_L]
    rw [chk_pos (by omega)]
    rw [chk_pos (by omega)]
    simp only [Int.toNat_natCast]
    rw [preL_step pDigit (by omega : n < (L s).length)]
    have ih := ih (n + 1) (by omega)
    rw [w64n (by omega) (by omega), ext_B]
    unfold pDigit
    cases h1 : decide (48 ≤ (((L s).getD n 0).toNat : Int)) with
    | false => simp []
    | true =>
      cases h2 : decide ((((L s).getD n 0).toNat : Int) ≤ 57) with
      | false => simp []
      | true =>
        simp only [Option.bind_some, Sum.elim_inl, Bool.and_self, if_true]
        rw [show ((n : Int) + 1) = ((n + 1 : Nat) : Int) by omega, ih, show n + 1 + preL pDigit ((L s).drop (n + 1)) = n + (1 + preL pDigit ((L s).drop (n + 1))) by omega]
        rfl
theorem Dec.digitsOf_eq (s : ByteArray) (hs : s.size < 2 ^ 62) : Dec.digitsOf s = some (B ((L s).take (preL pDigit (L s)))) := by
  unfold Dec.digitsOf
  have := Dec.digitsOf_l0 s hs s.size 0 (by omega)
  simpa using this
theorem preL_all {p : Int → Bool} : ∀ {l : BS}, preL p l = l.length → ∀ c ∈ l, p c.toNat = true
  | [], _, c, h => by simp at h
  | a :: l, h, c, hc => by
    simp only [preL, List.takeWhile_cons] at h
    split at h
    · rename_i ha
      rcases List.mem_cons.1 hc with rfl | hc
      · exact ha
      · exact preL_all (l := l) (by simpa [preL] using h) c hc
    · simp at h
theorem preL_of_all {p : Int → Bool} : ∀ {l : BS}, (∀ c ∈ l, p c.toNat = true) → preL p l = l.length
  | [], _ => rfl
  | a :: l, h => by
    have ih := preL_of_all (l := l) (fun c hc => h c (by simp [hc]))
    simp only [preL] at ih
    simp [preL, h a (by simp), ih]
theorem decNat_digits : ∀ (l : BS) (_h : l ≠ []), (∀ c ∈ l, pDigit c.toNat = true) → l.length ≤ 18 → ∃ n, Lib.parseMag l = .ok n ∧ n < 10 ^ l.length := by
  intro l h0 h hl
  have key : ∀ (l : BS) (acc : Nat), (∀ c ∈ l, pDigit c.toNat = true) → ∀ k, acc < 10 ^ k → k + l.length ≤ 18 → ∃ n, Lib.parseUint10 acc l = .ok n ∧ n < 10 ^ (k + l.length) := by
    intro l
    induction l with
    | nil => intro acc _ k hk _; exact ⟨acc, rfl, by simpa using hk⟩
    | cons c r ih =>
      intro acc h k hk hl
      have hc := h c (by simp)
      simp only [pDigit, Bool.and_eq_true, decide_eq_true_eq] at hc
      simp only [List.length_cons] at hl
      have hp : 10 ^ (k + 1) ≤ 10 ^ 18 := Nat.pow_le_pow_right (by omega) (by omega)
      have hp2 : 10 ^ (k + 1) = 10 ^ k * 10 := Nat.pow_succ ..
      have hp3 : (10 : Nat) ^ 18 = 1000000000000000000 := by decide
      obtain ⟨n, h1, h2⟩ := ih (acc * 10 + (c.toNat - 48)) (fun c hc => h c (by simp [hc])) (k + 1) (by omega) (by omega)
      refine ⟨n, ?_, by rw [List.length_cons, show k + (r.length + 1) = k + 1 + r.length by omega]; exact h2⟩
      simp only [Lib.parseUint10]
      rw [if_pos (by omega), if_neg (by omega), if_neg (by omega)]
      exact h1
  obtain ⟨n, h1, h2⟩ := key l 0 h 0 (by simp) (by omega)
  refine ⟨n, ?_, by simpa using h2⟩
  unfold Lib.parseMag
  rw [if_neg h0, h1]
theorem atoi_digits (l : BS) (h0 : l ≠ []) (h : ∀ c ∈ l, pDigit c.toNat = true) (hl : l.length ≤ 18) : ∃ n : Nat, Lib.atoiAll l = .ok (n : Int) ∧ n < 10 ^ l.length := by
  obtain ⟨n, h1, h2⟩ := decNat_digits l h0 h hl
  match l, h0 with
  | c :: r, _ =>
    have hc := h c (by simp)
    simp only [pDigit, Bool.and_eq_true, decide_eq_true_eq] at hc
    refine ⟨n, ?_, h2⟩
    have hp : 10 ^ (c :: r).length ≤ 10 ^ 18 := Nat.pow_le_pow_right (by omega) hl
    have hp3 : (10 : Nat) ^ 18 = 1000000000000000000 := by decide
    simp only [Lib.atoiAll]
    rw [if_neg (by omega), h1]
    simp only
    rw [if_neg (by omega), if_neg (by omega), if_neg (by omega)]
/-- An answer whose second part is known. -/
def Ans2 {α : Type} (x : Option (α × Bool)) (b : Bool) : Prop := ∃ a, x = some (a, b)
theorem Ans2.mk {α : Type} (a : α) (b : Bool) : Ans2 (some (a, b)) b := ⟨a, rfl⟩
theorem Ans2.cond {α : Type} {X Y : Option (α × Bool)} {b c : Bool} (h1 : b = true → Ans2 X c) (h2 : b = false → Ans2 Y c) : Ans2 (bif b then X else Y) c := by
  cases b
  · exact h2 rfl
  · exact h1 rfl
theorem parse_j4 (u : BS) (hu : u.length < 2 ^ 40) (p0 : Int) (p1 p2 : ByteArray) (p3 : Int) (m : Bool) : Ans2 (Dec.parse.j4 (B u) p0 p1 p2 p3 m) (decide (u ≠ []) && decide (u.length ≤ 4) && (preL pDigit u == u.length)) := by
  unfold Dec.parse.j4
  simp only [letk, eqL, L_B, L_e, size_B]
  refine Ans2.cond (fun h => ?_) (fun h => ?_)
  · simp only [beq_iff_eq] at h
    subst h
    exact ⟨_, rfl⟩
  · refine Ans2.cond (fun h1 => ?_) (fun h1 => ?_)
    · have : ¬ u.length ≤ 4 := by simp at h1; omega
      simp only [this, decide_false, Bool.and_false, Bool.false_and]
      exact ⟨_, rfl⟩
    · have h4 : u.length ≤ 4 := by simp at h1; omega
      have hne : u ≠ [] := by simpa using h
      rw [Dec.digitsOf_eq _ (by rw [size_B]; omega)]
      simp only [Option.bind_some, L_B]
      have hle := preL_le pDigit u
      cases h2 : preL pDigit u == u.length with
      | false =>
        have : (List.take (preL pDigit u) u == u) = false := by
          simp only [beq_eq_false_iff_ne] at h2 ⊢
          intro e
          have := congrArg List.length e
          rw [List.length_take] at this; omega
        rw [this]
        simp only [Bool.and_false]
        exact ⟨_, rfl⟩
      | true =>
        have h2' : preL pDigit u = u.length := by simpa using h2
        have : (List.take (preL pDigit u) u == u) = true := by rw [h2', List.take_length]; simp
        rw [this]
        obtain ⟨n, hn, _⟩ := atoi_digits u hne (preL_all h2') (by omega)
        simp only [h4, Bool.not_true, Dec.parse.j7, cond, Dec.parse.j5, Strconv.Atoi, L_B]
        rw [chk_pos (by rw [size_B]; omega), hn]
        have hT : (decide (u ≠ []) && decide True && true) = true := by simp [hne]
        simp only [Option.bind_some]
        rw [hT]
        cases m <;> exact ⟨_, rfl⟩
theorem parse_j3 (u : BS) (hu : u.length < 2 ^ 40) (p0 : Int) (p1 p2 : ByteArray) (p3 : Int) : Ans2 (Dec.parse.j3 (B u) p0 p1 p2 p3) (decTail u) := by
  unfold Dec.parse.j3 decTail
  simp only [letk, eqL, L_B, L_e]
  refine Ans2.cond (fun h => ?_) (fun h => ?_)
  · simp only [beq_iff_eq] at h
    rw [if_pos h]; exact ⟨_, rfl⟩
  · have hne : u ≠ [] := by simpa using h
    have h0 : 0 < u.length := List.length_pos_iff.2 hne
    rw [if_neg hne, chk_pos ⟨by omega, by rw [size_B]; omega⟩, show (1 : Int).toNat = 1 from rfl, ext_T1, contE _ (by rw [size_B, List.length_take]; omega)]
    simp only [Option.bind_some, L_B]
    have e0 : (u.take 1).getD 0 0 = u.getD 0 0 := by cases u <;> simp
    rw [e0]
    cases hx : isExp (u.getD 0 0) with
    | false => simp only [Bool.not_false, cond]; exact ⟨_, rfl⟩
    | true =>
      simp only [Bool.not_true, cond, if_true]
      rw [chk_pos ⟨by omega, by rw [size_B]; omega⟩, ext_D1]
      have hd : (u.drop 1).length < 2 ^ 40 := by rw [List.length_drop]; omega
      rw [pre1 _ _ (by omega), pre1 _ _ (by omega)]
      simp only [Option.bind_some, unsign, isSign]
      have hd2 : ((u.drop 1).drop 1).length < 2 ^ 40 := by rw [List.length_drop]; omega
      by_cases hne1 : u.drop 1 = []
      · simp only [hne1, ne_eq, not_true_eq_false, decide_false, Bool.false_and]
        exact parse_j4 [] (by simp) p0 p1 p2 p3 false
      · have hl1 : 0 < (u.drop 1).length := List.length_pos_iff.2 hne1
        simp only [ne_eq, hne1, not_false_iff, decide_true, Bool.true_and]
        cases h45 : (u.drop 1).getD 0 0 == 45 with
        | true =>
          simp only [Bool.or_true, if_true]
          rw [chk_pos ⟨by omega, by rw [size_B]; omega⟩, ext_D1]
          exact parse_j4 _ hd2 p0 p1 p2 p3 true
        | false =>
          cases h43 : (u.drop 1).getD 0 0 == 43 with
          | true =>
            simp only [Bool.true_or, if_true]
            rw [chk_pos ⟨by omega, by rw [size_B]; omega⟩, ext_D1]
            exact parse_j4 _ hd2 p0 p1 p2 p3 false
          | false =>
            simp only [Bool.or_self, Bool.false_eq_true, if_false]
            exact parse_j4 _ hd p0 p1 p2 p3 false
theorem parse_j2 (f : BS) (u : BS) (b : BS) (hu : u.length < 2 ^ 40) (hf : f.length + b.length < 2 ^ 40) (p0 : Int) (p1 p2 : ByteArray) (p3 : Int) :
    Ans2 (Dec.parse.j2 (B f) (B u) p0 p1 p2 p3 (B b)) (if f.length + b.length = 0 || f.length + b.length > 60 then false else decTail u) := by
  unfold Dec.parse.j2
  rw [chk_pos (by rw [size_B, size_B]; omega)]
  have e : B f ++ B b = B (f ++ b) := by rw [← B_L (B f ++ B b), L_app, L_B, L_B]
  simp only [letk, e, eqL, L_B, L_e, Dec.parse.j8]
  refine Ans2.cond (fun h => ?_) (fun h => ?_)
  · have : f.length + b.length = 0 := by
      simp only [beq_iff_eq] at h
      rw [← List.length_append, h]; rfl
    simp only [this, decide_true, Bool.true_or, if_true, cond]
    exact ⟨_, rfl⟩
  · have hne : f.length + b.length ≠ 0 := by
      rw [← List.length_append]
      intro h2
      rw [List.length_eq_zero_iff.1 h2] at h
      simp at h
    refine Ans2.cond (fun h1 => ?_) (fun h1 => ?_)
    · have : f.length + b.length > 60 := by simp [size_B] at h1; omega
      simp only [this, decide_true, Bool.or_true, if_true]
      exact ⟨_, rfl⟩
    · have : ¬ f.length + b.length > 60 := by simp [size_B] at h1; omega
      simp only [this, hne, decide_false, Bool.or_self, Bool.false_eq_true, if_false]
      exact parse_j3 u hu _ _ _ _
theorem take_B (u : BS) (n : Nat) (h : n ≤ u.length) : (B (u.take n)).size = n := by rw [size_B, List.length_take]; omega
theorem parse_j1 (u : BS) (hu : u.length < 2 ^ 39) (p0 : Int) (p1 p2 : ByteArray) (p3 : Int) : Ans2 (Dec.parse.j1 (B u) p0 p1 p2 p3) (decBody u) := by
  unfold Dec.parse.j1 decBody
  have hle := preL_le pDigit u
  rw [Dec.digitsOf_eq _ (by rw [size_B]; omega)]
  simp only [letk, Option.bind_some, L_B]
  rw [take_B _ _ hle, chk_pos ⟨by omega, by rw [size_B]; omega⟩, Int.toNat_natCast, ext_D1, pre1 _ _ (by rw [List.length_drop]; omega)]
  simp only [Option.bind_some]
  have hlen : (u.drop (preL pDigit u)).length = u.length - preL pDigit u := List.length_drop
  have hft : (u.take (preL pDigit u)).length = preL pDigit u := by rw [List.length_take]; omega
  by_cases hlt : preL pDigit u < u.length
  · have hne : u.drop (preL pDigit u) ≠ [] := by intro h; rw [h] at hlen; simp at hlen; omega
    simp only [ne_eq, hne, not_false_iff, decide_true, hlt, Bool.true_and, Bool.and_true]
    cases hp : (u.drop (preL pDigit u)).getD 0 0 == 46 with
    | true =>
      simp only [cond, if_true]
      have h2 := preL_le pDigit (u.drop (preL pDigit u + 1))
      have h2l : (u.drop (preL pDigit u + 1)).length = u.length - (preL pDigit u + 1) := List.length_drop
      rw [chk_pos ⟨by omega, by rw [size_B]; omega⟩, show (1 : Int).toNat = 1 from rfl, ext_D1, List.drop_drop, Dec.digitsOf_eq _ (by rw [size_B]; omega)]
      simp only [Option.bind_some, L_B]
      rw [take_B _ _ h2, w64n (by omega) (by omega), chk_pos ⟨by omega, by rw [size_B]; omega⟩, show ((1 : Int) + ((preL pDigit (u.drop (preL pDigit u + 1)) : Nat) : Int)).toNat = 1 + preL pDigit (u.drop (preL pDigit u + 1)) by omega, ext_D1, List.drop_drop]
      have hbt : ((u.drop (preL pDigit u + 1)).take (preL pDigit (u.drop (preL pDigit u + 1)))).length = preL pDigit (u.drop (preL pDigit u + 1)) := by rw [List.length_take]; omega
      have := parse_j2 (u.take (preL pDigit u)) (u.drop (preL pDigit u + (1 + preL pDigit (u.drop (preL pDigit u + 1))))) ((u.drop (preL pDigit u + 1)).take (preL pDigit (u.drop (preL pDigit u + 1)))) (by rw [List.length_drop]; omega) (by omega) p0 p1 p2 p3
      rw [hft, hbt, ← Nat.add_assoc] at this
      rw [← Nat.add_assoc]
      exact this
    | false =>
      simp only [cond, Bool.false_eq_true, if_false]
      have := parse_j2 (u.take (preL pDigit u)) (u.drop (preL pDigit u)) [] (by omega) (by simp; omega) p0 p1 p2 p3
      rw [hft] at this
      exact this
  · have hnil : u.drop (preL pDigit u) = [] := List.drop_of_length_le (by omega)
    simp only [hnil, hlt, ne_eq, not_true_eq_false, decide_false, Bool.false_and, Bool.and_false, cond, Bool.false_eq_true, if_false]
    have := parse_j2 (u.take (preL pDigit u)) [] [] (by simp) (by simp; omega) p0 p1 p2 p3
    rw [hft] at this
    exact this
theorem parse_j0 (u : BS) (hu : u.length < 2 ^ 39) (p0 : Int) (p1 p2 : ByteArray) (p3 : Int) : Ans2 (Dec.parse.j0 (B u) p0 p1 p2 p3) (decide (u = [105, 110, 102]) || decide (u = [110, 97, 110]) || decBody u) := by
  unfold Dec.parse.j0
  simp only [letk, eqL, L_B, Dec.parse.j9]
  refine Ans2.cond (fun h => ?_) (fun h => ?_)
  · have : u = [105, 110, 102] := beq_iff_eq.1 h
    simp only [this, decide_true, Bool.true_or, cond]
    exact ⟨_, rfl⟩
  · have h1 : u ≠ [105, 110, 102] := beq_eq_false_iff_ne.1 h
    refine Ans2.cond (fun h => ?_) (fun h => ?_)
    · have : u = [110, 97, 110] := beq_iff_eq.1 h
      simp only [this, decide_true, Bool.true_or, Bool.or_true]
      exact ⟨_, rfl⟩
    · have h2 : u ≠ [110, 97, 110] := beq_eq_false_iff_ne.1 h
      simp only [h1, h2, decide_false, Bool.false_or]
      exact parse_j1 u hu _ _ _ _
theorem parse_eq (s : ByteArray) (hs : s.size < 2 ^ 39) : Ans2 (Dec.parse s) (decIs (L s)) := by
  unfold Dec.parse decIs
  have hl := L_len s
  simp only [letk, eqL, L_e]
  by_cases hne : L s = []
  · have : s = B [] := by rw [← B_L s, hne]
    subst this
    simp only [L_B, beq_self_eq_true, Bool.not_true, cond, Dec.parse.j10, unsign, ne_eq, not_true_eq_false, decide_false, Bool.false_and, Bool.false_eq_true, if_false]
    exact parse_j0 [] (by simp) _ _ _ _
  · have hpos : 0 < s.size := by rw [← hl]; exact List.length_pos_iff.2 hne
    have hbq : (L s == []) = false := by simpa using hne
    simp only [hbq, Bool.not_false, cond]
    rw [chk_pos ⟨by omega, by omega⟩]
    have e45 : (bt s 0 == 45) = ((L s).getD 0 0 == 45) := beq_u8 _ 45 (by omega)
    have e43 : (bt s 0 == 43) = ((L s).getD 0 0 == 43) := beq_u8 _ 43 (by omega)
    have hd : ((L s).drop 1).length < 2 ^ 39 := by rw [List.length_drop]; omega
    rw [chk_pos ⟨by omega, by omega⟩, e45, e43]
    simp only [unsign, ne_eq, hne, not_false_iff, decide_true, Bool.true_and, isSign]
    have j10t : Ans2 (Dec.parse.j10 s true) (decide ((L s).drop 1 = [105, 110, 102]) || decide ((L s).drop 1 = [110, 97, 110]) || decBody ((L s).drop 1)) := by
      unfold Dec.parse.j10
      simp only [letk, cond]
      rw [chk_pos ⟨by omega, by omega⟩, e45, chk_pos ⟨by omega, by omega⟩, chk_pos ⟨by omega, by omega⟩, show (1 : Int).toNat = 1 from rfl, ext_D]
      cases ((L s).getD 0 0 == 45)
      · exact parse_j0 _ hd _ _ _ _
      · exact parse_j0 _ hd _ _ _ _
    cases h45 : (L s).getD 0 0 == 45 with
    | true =>
      simp only [Bool.or_true, if_true]
      exact j10t
    | false =>
      cases h43 : (L s).getD 0 0 == 43 with
      | true =>
        simp only [Bool.true_or, if_true]
        exact j10t
      | false =>
        simp only [Bool.or_self, Bool.false_eq_true, if_false]
        have := parse_j0 (L s) (by omega) 0 ⟨#[]⟩ ⟨#[]⟩ 0
        rw [B_L] at this
        exact this
theorem Dec.Is_eq (s : ByteArray) (hs : s.size < 2 ^ 39) : Dec.Is s = some (decIs (L s)) := by
  obtain ⟨a, h⟩ := parse_eq s hs
  unfold Dec.Is
  rw [h]; rfl
theorem ascii_app (a b : BS) : asciiL (a ++ b) = (asciiL a && asciiL b) := by unfold asciiL; rw [List.all_append]
theorem ascii_nil : asciiL [] = true := rfl
theorem ascii_cons (c : UInt8) (l : BS) : asciiL (c :: l) = (decide (c.toNat < 128) && asciiL l) := rfl
theorem ascii_dig (c : UInt8) (h : pDigit c.toNat = true) : c.toNat < 128 := by
  simp only [pDigit, Bool.and_eq_true, decide_eq_true_eq] at h; omega
theorem ascii_digs {l : BS} (h : ∀ c ∈ l, pDigit c.toNat = true) : asciiL l = true := by
  unfold asciiL
  simp only [List.all_eq_true, decide_eq_true_eq]
  exact fun c hc => ascii_dig c (h c hc)
theorem take_preL (p : Int → Bool) : ∀ (l : BS), ∀ c ∈ l.take (preL p l), p c.toNat = true
  | [], c, h => by simp at h
  | a :: l, c, h => by
    simp only [preL, List.takeWhile_cons] at h
    split at h
    · rename_i ha
      rcases List.mem_cons.1 h with rfl | h
      · exact ha
      · exact take_preL p l c h
    · simp at h
theorem ascii_split (l : BS) (n : Nat) (h1 : asciiL (l.take n) = true) (h2 : asciiL (l.drop n) = true) : asciiL l = true := by
  rw [← List.take_append_drop n l, ascii_app, h1, h2]; rfl
theorem ascii_head (l : BS) (h : (l.getD 0 0).toNat < 128) (h2 : asciiL (l.drop 1) = true) : asciiL l = true := by
  cases l with
  | nil => rfl
  | cons a r => rw [ascii_cons, decide_eq_true (show a.toNat < 128 from h)]; exact h2
theorem ascii_unsign (l : BS) (h : asciiL (unsign l) = true) : asciiL l = true := by
  unfold unsign at h
  split at h
  · rename_i h1
    refine ascii_head l ?_ h
    simp only [Bool.and_eq_true, isSign, Bool.or_eq_true, beq_iff_eq] at h1
    rcases h1.2 with h2 | h2 <;> rw [h2] <;> decide
  · exact h
theorem ascii_decTail (l : BS) (h : decTail l = true) : asciiL l = true := by
  unfold decTail at h
  split at h
  · rename_i h0; rw [h0]; rfl
  · split at h
    · rename_i h1
      simp only [Bool.and_eq_true, beq_iff_eq] at h
      refine ascii_head l ?_ (ascii_unsign _ (ascii_digs (preL_all h.2)))
      simp only [isExp, Bool.or_eq_true, beq_iff_eq] at h1
      rcases h1 with ((h1 | h1) | h1) | h1 <;> rw [h1] <;> decide
    · cases h
theorem ascii_decBody (l : BS) (h : decBody l = true) : asciiL l = true := by
  unfold decBody at h
  simp only at h
  refine ascii_split l (preL pDigit l) (ascii_digs (take_preL _ _)) ?_
  split at h
  · rename_i h1
    simp only [Bool.and_eq_true, beq_iff_eq] at h1
    split at h
    · cases h
    · refine ascii_head _ (by rw [h1.1]; decide) ?_
      rw [List.drop_drop]
      refine ascii_split _ (preL pDigit (l.drop (preL pDigit l + 1))) (ascii_digs (take_preL _ _)) ?_
      rw [List.drop_drop]
      exact ascii_decTail _ h
  · split at h
    · cases h
    · exact ascii_decTail _ h
theorem ascii_decIs (l : BS) (h : decIs l = true) : asciiL l = true := by
  unfold decIs at h
  simp only [Bool.or_eq_true, decide_eq_true_eq] at h
  refine ascii_unsign l ?_
  rcases h with (h | h) | h
  · rw [h]; rfl
  · rw [h]; rfl
  · exact ascii_decBody _ h
theorem trimLeft_eq (s : ByteArray) : Strs.TrimLeft s ⟨#[43, 45]⟩ = some (B (trimS (L s))) := by
  unfold Strs.TrimLeft
  rw [chk_pos ⟨by decide, by decide⟩]
  congr 2
  unfold Lib.trimLeftS trimS
  congr 1
  funext c
  show List.contains [43, 45] c = _
  unfold isSign
  rw [List.contains_cons, List.contains_cons, List.contains_nil, Bool.or_false]
theorem isReal_j0 (s : ByteArray) (hs : s.size < 2 ^ 31) (ha : asciiL (L s) = true) : Tok.isReal.j0 s = some (numR (L s) && (numN (L s) == (L s).length) &&
    (decide (Lib.indexAny (L s) [101, 100] < 0) || decide (preL pDigit (trimS ((L s).drop ((Lib.indexAny (L s) [101, 100]).toNat + 1))) ≤ 3))) := by
  unfold Tok.isReal.j0
  have hl := L_len s
  rw [Tok.number_eq s (by omega)]
  unfold Strs.IndexAny
  rw [chk_pos ⟨by omega, by decide, ha, by decide⟩]
  simp only [letk, Option.bind_some]
  rw [show L (⟨#[101, 100]⟩ : ByteArray) = [101, 100] from rfl]
  cases numR (L s) with
  | false => simp [cond]
  | true =>
    simp only [cond, Bool.true_and]
    have e : ((numN (L s) : Int) == (s.size : Int)) = (numN (L s) == (L s).length) := by
      rw [hl, Bool.eq_iff_iff, beq_iff_eq, beq_iff_eq]; omega
    rw [e]
    cases numN (L s) == (L s).length with
    | false => simp
    | true =>
      simp only [Bool.true_and]
      have hle := Lib.indexAny_ge [101, 100] (L s)
      have hlt : Lib.indexAny (L s) [101, 100] < s.size ∨ Lib.indexAny (L s) [101, 100] < 0 := by
        have key : ∀ l : BS, Lib.indexAny l [101, 100] < l.length ∨ Lib.indexAny l [101, 100] < 0 := by
          intro l
          induction l with
          | nil => right; decide
          | cons b l ih =>
            simp only [Lib.indexAny]
            split
            · left; simp only [List.length_cons]; omega
            · split
              · right; omega
              · left; simp only [List.length_cons]
                have := Lib.indexAny_ge [101, 100] l
                rename_i h
                simp only [beq_iff_eq] at h
                omega
        have := key (L s)
        rw [hl] at this; exact this
      by_cases h0 : Lib.indexAny (L s) [101, 100] < 0
      · simp [h0]
      · simp only [h0, decide_false, Bool.false_or]
        rw [w64n (by omega) (by omega), chk_pos (by omega)]
        rw [show (Lib.indexAny (L s) [101, 100] + 1).toNat = (Lib.indexAny (L s) [101, 100]).toNat + 1 by omega, ext_D, trimLeft_eq, L_B]
        simp only [Option.bind_some]
        have hln : (trimS ((L s).drop ((Lib.indexAny (L s) [101, 100]).toNat + 1))).length < 2 ^ 62 := by
          have h1 : (trimS ((L s).drop ((Lib.indexAny (L s) [101, 100]).toNat + 1))).length ≤ ((L s).drop ((Lib.indexAny (L s) [101, 100]).toNat + 1)).length := (List.dropWhile_suffix _).length_le
          rw [List.length_drop] at h1; omega
        rw [Tok.run_eq Tok.isDigit_eq _ (by rw [size_B]; exact hln), L_B]
        simp only [Option.bind_some]
        congr 1
        rw [Bool.eq_iff_iff, decide_eq_true_eq, decide_eq_true_eq]; omega
theorem Tok.isReal_eq (s : ByteArray) (hs : s.size < 2 ^ 31) : Tok.isReal s = some (isRealL (L s)) := by
  unfold Tok.isReal isRealL
  have hl := L_len s
  simp only [letk, eqL, L_e]
  by_cases hne : L s = []
  · simp [hne]
  · have hpos : 0 < s.size := by rw [← hl]; exact List.length_pos_iff.2 hne
    have hbq : (L s == []) = false := by simpa using hne
    simp only [hbq, cond, ne_eq, hne, not_false_iff, decide_true, Bool.true_and]
    rw [chk_pos ⟨by omega, by omega⟩, chk_pos ⟨by omega, by omega⟩, Tok.isDigit_eq, bt0]
    simp only [Option.bind_some]
    have e46 : ((((L s).getD 0 0).toNat : Int) != 46) = !((L s).getD 0 0 == 46) := by
      rw [bne, show ((((L s).getD 0 0).toNat : Int) == 46) = _ from beq_u8 _ 46 (by omega)]; rfl
    have hsm : Tok.small s = some (B (Go.Q.small (L s))) := Tok.small_eq s (by omega)
    have rest : (Option.bind (Tok.small s) fun t22 => match !(L s == L t22) with
        | true => some false
        | false => Option.bind (Dec.Is s) fun t27 => match !t27 with
          | true => some false
          | false => Tok.isReal.j0 s) = some ((L s == Go.Q.small (L s)) && decIs (L s) && numR (L s) && (numN (L s) == (L s).length) &&
            (decide (Lib.indexAny (L s) [101, 100] < 0) || decide (preL pDigit (trimS ((L s).drop ((Lib.indexAny (L s) [101, 100]).toNat + 1))) ≤ 3))) := by
      rw [hsm, Option.bind_some, L_B, Dec.Is_eq s (by omega), Option.bind_some]
      cases L s == Go.Q.small (L s) with
      | false => simp
      | true =>
        cases hd : decIs (L s) with
        | false => simp
        | true =>
          simp only [Bool.not_true, Bool.true_and]
          exact isReal_j0 s hs (ascii_decIs _ hd)
    cases pDigit (((L s).getD 0 0).toNat : Int) with
    | true =>
      simp only [Bool.not_true, Bool.true_or, Bool.true_and]
      exact rest
    | false =>
      simp only [Bool.not_false, Bool.false_or]
      rw [e46]
      cases (L s).getD 0 0 == 46 with
      | true => simp only [Bool.not_true, Bool.true_and]; exact rest
      | false => simp

end Go.Q
