import Derived.Test.YthdklcpkoeehnaaDoorP6
namespace Go.Q
open Go Go.Proofs
set_option maxRecDepth 10000

theorem bytes_all (p : UInt8 → Bool) (h : (List.range 256).all (fun n => p (UInt8.ofNat n)) = true) (c : UInt8) : p c = true := by
  simp only [List.all_eq_true, List.mem_range] at h
  have := h c.toNat c.toNat_lt
  simpa using this

theorem low_low (c : UInt8) : low (low c) = low c := by
  have := bytes_all (fun c => low (low c) == low c) (by decide +kernel) c
  exact beq_iff_eq.1 this
theorem low_part (c : UInt8) : pPart ((low c).toNat : Int) = pPart (c.toNat : Int) := by
  have := bytes_all (fun c => pPart ((low c).toNat : Int) == pPart (c.toNat : Int)) (by decide +kernel) c
  exact beq_iff_eq.1 this
theorem low_digit (c : UInt8) : pDigit ((low c).toNat : Int) = pDigit (c.toNat : Int) := by
  have := bytes_all (fun c => pDigit ((low c).toNat : Int) == pDigit (c.toNat : Int)) (by decide +kernel) c
  exact beq_iff_eq.1 this
theorem low_letter (c : UInt8) : pLetter ((low c).toNat : Int) = pLetter (c.toNat : Int) := by
  have := bytes_all (fun c => pLetter ((low c).toNat : Int) == pLetter (c.toNat : Int)) (by decide +kernel) c
  exact beq_iff_eq.1 this
theorem low_exp (c : UInt8) : isExp (low c) = isExp c := by
  have := bytes_all (fun c => isExp (low c) == isExp c) (by decide +kernel) c
  exact beq_iff_eq.1 this
theorem low_sign (c : UInt8) : isSign (low c) = isSign c := by
  have := bytes_all (fun c => isSign (low c) == isSign c) (by decide +kernel) c
  exact beq_iff_eq.1 this
/-- A byte that is no letter is the small one of itself alone. -/
def plainB (x : UInt8) : Bool := !(pLetter (x.toNat : Int)) && (x != 32)
theorem low_plain {x c : UInt8} (h : pLetter (x.toNat : Int) = false) : low c = x ↔ c = x := by
  constructor
  · intro e
    have h2 := bytes_all (fun c => pLetter ((low c).toNat : Int) || low c == c) (by decide +kernel) c
    simp only [Bool.or_eq_true, beq_iff_eq] at h2
    rcases h2 with h2 | h2
    · rw [e, h] at h2; cases h2
    · rw [← h2, e]
  · rintro rfl
    have h2 := bytes_all (fun c => pLetter (c.toNat : Int) || low c == c) (by decide +kernel) c
    simp only [Bool.or_eq_true, beq_iff_eq] at h2
    rcases h2 with h2 | h2
    · rw [h] at h2; cases h2
    · exact h2

def nb (l : BS) : BS := l.takeWhile (· != 32)
def norm (l : BS) : BS := small (nb l)

theorem nb_nil : nb [] = [] := rfl
theorem nb_cons (c : UInt8) (r : BS) : nb (c :: r) = if c = 32 then [] else c :: nb r := by
  unfold nb
  rw [List.takeWhile_cons]
  by_cases h : c = 32 <;> simp [h]
theorem nb_le (l : BS) : (nb l).length ≤ l.length := (List.takeWhile_prefix _).length_le
theorem norm_len (l : BS) : (norm l).length = (nb l).length := by simp [norm, small]
theorem nb_take : ∀ (l : BS) (n : Nat), n ≤ (nb l).length → (nb l).take n = l.take n
  | [], n, _ => rfl
  | c :: r, 0, _ => by simp
  | c :: r, n + 1, h => by
    rw [nb_cons] at h ⊢
    split at h
    · simp at h
    · rename_i hc
      rw [if_neg hc, List.take_succ_cons, List.take_succ_cons, nb_take r n (by simpa using h)]
theorem nb_drop : ∀ (l : BS) (n : Nat), n ≤ (nb l).length → (nb l).drop n = nb (l.drop n)
  | [], n, _ => by simp [nb]
  | c :: r, 0, _ => by simp
  | c :: r, n + 1, h => by
    rw [nb_cons] at h ⊢
    split at h
    · simp at h
    · rename_i hc
      rw [if_neg hc, List.drop_succ_cons, List.drop_succ_cons, nb_drop r n (by simpa using h)]
theorem nb_at : ∀ (l : BS) (n : Nat), n < (nb l).length → (nb l).getD n 0 = l.getD n 0
  | [], n, h => by simp [nb] at h
  | c :: r, n, h => by
    rw [nb_cons] at h ⊢
    split at h
    · simp at h
    · rename_i hc
      rw [if_neg hc]
      cases n with
      | zero => rfl
      | succ n => exact nb_at r n (by simpa using h)
/-- What stands behind the bytes that are no blanks. -/
theorem nb_end : ∀ (l : BS), (nb l).length < l.length → l.getD (nb l).length 0 = 32
  | [], h => by simp at h
  | c :: r, h => by
    rw [nb_cons] at h ⊢
    by_cases hc : c = 32
    · simp [hc]
    · rw [if_neg hc] at h ⊢
      simpa using nb_end r (by simpa using h)

theorem norm_drop (l : BS) (n : Nat) (h : n ≤ (nb l).length) : (norm l).drop n = norm (l.drop n) := by
  unfold norm small
  rw [← List.map_drop, nb_drop l n h]
theorem small_small (l : BS) : small (small l) = small l := by
  unfold small
  rw [List.map_map]
  exact List.map_congr_left (fun c _ => low_low c)
theorem norm_take (l : BS) (n : Nat) (h : n ≤ (nb l).length) : small ((norm l).take n) = small (l.take n) := by
  unfold norm
  rw [show (small (nb l)).take n = small ((nb l).take n) from by unfold small; rw [List.map_take], small_small, nb_take l n h]
theorem norm_at (l : BS) (n : Nat) (h : n < (nb l).length) : (norm l).getD n 0 = low (l.getD n 0) := by
  unfold norm small
  rw [← nb_at l n h]
  simp [List.getD, h]

theorem preL_norm {p : Int → Bool} (hp : ∀ c : UInt8, p ((low c).toNat : Int) = p (c.toNat : Int)) (h32 : p 32 = false) : ∀ l : BS, preL p (norm l) = preL p l
  | [] => rfl
  | c :: r => by
    unfold norm
    rw [nb_cons]
    by_cases hc : c = 32
    · subst hc
      simp only [if_true]
      have : p ((32 : UInt8).toNat : Int) = false := h32
      simp [preL, small, h32]
    · rw [if_neg hc]
      have ih := preL_norm hp h32 r
      unfold norm at ih
      simp only [preL, small, List.map_cons, List.takeWhile_cons, hp c] at ih ⊢
      split
      · simp only [List.length_cons]; exact congrArg (· + 1) ih
      · rfl
theorem preL_nb {p : Int → Bool} (h32 : p 32 = false) : ∀ l : BS, preL p l ≤ (nb l).length
  | [] => by simp [preL]
  | c :: r => by
    have ih := preL_nb h32 r
    rw [nb_cons]
    simp only [preL, List.takeWhile_cons] at ih ⊢
    by_cases hc : c = 32
    · subst hc
      simp [h32]
    · rw [if_neg hc]
      split
      · simp only [List.length_cons]; omega
      · simp

theorem wtest_norm (l w : BS) (hw : ∀ x ∈ w, x ≠ 32) : wtest (norm l) w = wtest l w := by
  unfold wtest
  rw [norm_len]
  have hle := nb_le l
  by_cases h : w.length ≤ (nb l).length
  · rw [decide_eq_true h, decide_eq_true (by omega), norm_take l _ h]
  · rw [decide_eq_false h]
    simp only [Bool.false_and]
    by_cases h2 : w.length ≤ l.length
    · rw [decide_eq_true h2, Bool.true_and]
      symm
      rw [beq_eq_false_iff_ne]
      intro e
      have h3 := nb_end l (by omega)
      have h4 : (small (l.take w.length)).getD (nb l).length 0 = 32 := by
        have hlt : (nb l).length < (l.take w.length).length := by rw [List.length_take]; omega
        have hlt2 : (nb l).length < l.length := by omega
        unfold small
        simp only [List.getD, List.getElem?_map, List.getElem?_eq_getElem hlt, Option.map_some, Option.getD_some, List.getElem_take]
        simp only [List.getD, List.getElem?_eq_getElem hlt2, Option.getD_some] at h3
        rw [h3]; rfl
      rw [e] at h4
      have h5 : (nb l).length < w.length := by omega
      simp only [List.getD, List.getElem?_eq_getElem h5, Option.getD_some] at h4
      exact hw _ (List.getElem_mem h5) h4
    · rw [decide_eq_false h2]; rfl

theorem words_plain : ∀ w ∈ words, ∀ x ∈ w, x ≠ 32 := by decide
theorem find_congr {α : Type} {p q : α → Bool} : ∀ {l : List α}, (∀ x ∈ l, p x = q x) → l.find? p = l.find? q
  | [], _ => rfl
  | a :: l, h => by
    rw [List.find?_cons, List.find?_cons, h a (by simp), find_congr (fun x hx => h x (by simp [hx]))]
theorem wordOf_norm (l : BS) : wordOf (norm l) = wordOf l := by
  unfold wordOf
  rw [find_congr (fun w hw => wtest_norm l w (words_plain w hw))]

theorem norm_nil : norm [] = [] := rfl
theorem norm_blank {l : BS} (h : l = [] ∨ l.getD 0 0 = 32) : norm l = [] := by
  cases l with
  | nil => rfl
  | cons c r =>
    rcases h with h | h
    · cases h
    · have : c = 32 := h
      subst this; rfl
theorem nb_pos {l : BS} (h0 : l ≠ []) (h : l.getD 0 0 ≠ 32) : 0 < (nb l).length := by
  cases l with
  | nil => exact absurd rfl h0
  | cons c r => rw [nb_cons, if_neg (show ¬ c = 32 from h)]; simp
theorem norm_ne {l : BS} (h0 : l ≠ []) (h : l.getD 0 0 ≠ 32) : norm l ≠ [] := by
  intro e
  have := nb_pos h0 h
  rw [← norm_len, e] at this
  simp at this

theorem expo_norm (l : BS) : expo (norm l) = expo l := by
  by_cases hb : l = [] ∨ l.getD 0 0 = 32
  · rw [norm_blank hb]
    rcases hb with rfl | hb
    · rfl
    · unfold expo
      rw [if_pos (.inl rfl), if_pos (.inr (by rw [hb]; rfl))]
  · have h0 : l ≠ [] := fun h => hb (.inl h)
    have h1 : l.getD 0 0 ≠ 32 := fun h => hb (.inr h)
    have hp := nb_pos h0 h1
    have hle := nb_le l
    unfold expo
    rw [norm_at l 0 hp, low_exp]
    simp only [norm_ne h0 h1, h0, false_or]
    have en : expoN (norm l) = expoN l := by
      unfold expoN
      rw [norm_len]
      by_cases h2 : 1 < (nb l).length
      · rw [decide_eq_true h2, decide_eq_true (by omega), norm_at l 1 h2, low_sign]
      · rw [decide_eq_false h2]
        by_cases h3 : 1 < l.length
        · have := nb_end l (by omega)
          rw [show (nb l).length = 1 by omega] at this
          rw [this, decide_eq_true h3]; rfl
        · rw [decide_eq_false h3]; rfl
    rw [en]
    have hen : expoN l ≤ (nb l).length := by
      unfold expoN
      split
      · rename_i h
        simp only [Bool.and_eq_true, decide_eq_true_eq] at h
        rcases Nat.lt_or_ge 1 (nb l).length with h2 | h2
        · omega
        · have := nb_end l (by omega)
          rw [show (nb l).length = 1 by omega] at this
          rw [this] at h; exact absurd h.2 (by decide)
      · omega
    rw [norm_drop l _ hen, preL_norm low_digit (by decide)]

theorem expo_nb (l : BS) : expo l ≤ (nb l).length := by
  have := expo_le (norm l)
  rw [expo_norm, norm_len] at this
  exact this

theorem pointOk_norm (l : BS) : pointOk (norm l) = pointOk l := by
  by_cases hb : l = [] ∨ l.getD 0 0 = 32
  · rw [norm_blank hb]
    rcases hb with rfl | hb
    · rfl
    · unfold pointOk
      rw [hb]
      cases decide (l = []) <;> rfl
  · have h0 : l ≠ [] := fun h => hb (.inl h)
    have h1 : l.getD 0 0 ≠ 32 := fun h => hb (.inr h)
    unfold pointOk
    rw [norm_at l 0 (nb_pos h0 h1), low_letter, low_exp, decide_eq_false h0, decide_eq_false (norm_ne h0 h1)]

theorem low_46 (c : UInt8) : (low c == 46) = (c == 46) := by
  rw [Bool.eq_iff_iff, beq_iff_eq, beq_iff_eq]; exact low_plain (by decide)

theorem hasPoint_norm (l : BS) : hasPoint (norm l) = hasPoint l := by
  unfold hasPoint
  rw [preL_norm low_digit (by decide), norm_len]
  have h1 := preL_nb (p := pDigit) (by decide) l
  have hle := nb_le l
  rcases Nat.lt_or_ge (preL pDigit l) (nb l).length with h | h
  · rw [decide_eq_true h, decide_eq_true (show preL pDigit l < l.length by omega), norm_at l _ h, low_46, norm_drop l _ h1, norm_drop l _ (by omega), wordOf_norm, pointOk_norm]
  · rw [decide_eq_false (by omega : ¬ preL pDigit l < (nb l).length)]
    simp only [Bool.false_and]
    by_cases h2 : preL pDigit l < l.length
    · have := nb_end l (by omega)
      rw [show (nb l).length = preL pDigit l by omega] at this
      rw [this, decide_eq_true h2]; rfl
    · rw [decide_eq_false h2]; rfl

theorem hasPoint_lt {l : BS} (h : hasPoint l = true) : preL pDigit l < (nb l).length := by
  rw [← hasPoint_norm] at h
  unfold hasPoint at h
  simp only [Bool.and_eq_true, decide_eq_true_eq] at h
  rw [preL_norm low_digit (by decide), norm_len] at h
  exact h.1.1.1

theorem pointN_norm (l : BS) : pointN (norm l) = pointN l := by
  unfold pointN
  rw [hasPoint_norm, preL_norm low_digit (by decide)]
  split
  · rename_i h
    have := hasPoint_lt h
    rw [norm_drop l _ (by omega), preL_norm low_digit (by decide)]
  · rfl
theorem pointN_nb (l : BS) : pointN l ≤ (nb l).length := by
  unfold pointN
  split
  · rename_i h
    have h1 := hasPoint_lt h
    have h2 := preL_nb (p := pDigit) (by decide) (l.drop (preL pDigit l + 1))
    rw [← nb_drop l _ (by omega), List.length_drop] at h2
    omega
  · exact preL_nb (by decide) l
theorem numN_norm (l : BS) : numN (norm l) = numN l := by
  unfold numN
  rw [pointN_norm, norm_drop l _ (pointN_nb l), expo_norm]
theorem numN_nb (l : BS) : numN l ≤ (nb l).length := by
  unfold numN
  have h1 := pointN_nb l
  have h2 := expo_nb (l.drop (pointN l))
  rw [← nb_drop l _ h1, List.length_drop] at h2
  omega
theorem numR_norm (l : BS) : numR (norm l) = numR l := by
  unfold numR
  rw [hasPoint_norm, pointN_norm, norm_drop l _ (pointN_nb l), expo_norm]
theorem numT_norm (l : BS) : numT (norm l) = numT l := by
  unfold numT
  rw [numR_norm, numN_norm, norm_take l _ (numN_nb l)]

theorem prefix_norm : ∀ (o l : BS), (∀ x ∈ o, plainB x = true) → List.isPrefixOf o (norm l) = List.isPrefixOf o l
  | [], l, _ => by simp [List.isPrefixOf]
  | x :: o, [], _ => rfl
  | x :: o, c :: r, h => by
    have hx := h x (by simp)
    simp only [plainB, Bool.and_eq_true, Bool.not_eq_true', bne_iff_ne] at hx
    have ih := prefix_norm o r (fun y hy => h y (by simp [hy]))
    unfold norm at ih ⊢
    rw [nb_cons]
    by_cases hc : c = 32
    · subst hc
      have : (x == 32) = false := beq_eq_false_iff_ne.2 hx.2
      simp [small, List.isPrefixOf, this]
    · rw [if_neg hc]
      simp only [small, List.map_cons, List.isPrefixOf] at ih ⊢
      rw [ih]
      congr 1
      rw [Bool.eq_iff_iff, beq_iff_eq, beq_iff_eq, eq_comm, low_plain hx.1, eq_comm]
theorem signs_plain : ∀ o ∈ signs, ∀ x ∈ o, plainB x = true := by decide

/-- A token at the front is found by the bytes up to the next blank, whatever their case. -/
theorem first_norm (l : BS) (h0 : l ≠ []) (h1 : l.getD 0 0 ≠ 32) (hq : ¬ (l.getD 0 0 = 39 ∨ l.getD 0 0 = 34)) : firstSpec (norm l) = firstSpec l := by
  have hp := nb_pos h0 h1
  have hle := nb_le l
  unfold firstSpec
  rw [norm_at l 0 hp, low_letter, low_digit, wordOf_norm, preL_norm low_part (by decide), norm_take l _ (preL_nb (by decide) l), numT_norm, numN_norm]
  rw [find_congr (fun o ho => prefix_norm o l (signs_plain o ho))]
  have e39 : (low (l.getD 0 0) = 39 ∨ low (l.getD 0 0) = 34) ↔ (l.getD 0 0 = 39 ∨ l.getD 0 0 = 34) := or_congr (low_plain (by decide)) (low_plain (by decide))
  have e46 : (low (l.getD 0 0) = 46 ∧ 1 < (norm l).length ∧ pDigit (((norm l).getD 1 0).toNat : Int) = true) ↔ (l.getD 0 0 = 46 ∧ 1 < l.length ∧ pDigit ((l.getD 1 0).toNat : Int) = true) := by
    rw [norm_len]
    refine and_congr (low_plain (by decide)) ?_
    rcases Nat.lt_or_ge 1 (nb l).length with h | h
    · rw [norm_at l 1 h, low_digit]
      exact and_congr ⟨fun _ => by omega, fun _ => h⟩ Iff.rfl
    · constructor
      · intro h2; omega
      · intro h2
        have := nb_end l (by omega)
        rw [show (nb l).length = 1 by omega] at this
        rw [this] at h2; exact absurd h2.2 (by decide)
  have en : (numN l < (norm l).length ∧ pPart (((norm l).getD (numN l) 0).toNat : Int) = true) ↔ (numN l < l.length ∧ pPart ((l.getD (numN l) 0).toNat : Int) = true) := by
    rw [norm_len]
    have h2 := numN_nb l
    rcases Nat.lt_or_ge (numN l) (nb l).length with h | h
    · rw [norm_at l _ h, low_part]
      exact and_congr ⟨fun _ => by omega, fun _ => h⟩ Iff.rfl
    · constructor
      · intro h3; omega
      · intro h3
        have := nb_end l (by omega)
        rw [show (nb l).length = numN l by omega] at this
        rw [this] at h3; exact absurd h3.2 (by decide)
  simp only [e39, e46, en, hq, if_false]
end Go.Q
