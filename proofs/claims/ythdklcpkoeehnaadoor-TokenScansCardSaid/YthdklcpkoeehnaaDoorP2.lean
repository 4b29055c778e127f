import Derived.Test.YthdklcpkoeehnaaDoorP1
import Derived.Lib.AtoiTie
namespace Go.Q
open Go Go.Proofs

def BL (ws : List BS) : List ByteArray := ws.map B
theorem Tok.words_eq : Tok.words = some (BL Go.Q.words) := rfl
theorem Tok.signs_eq : Tok.signs = some (BL Go.Q.signs) := rfl
theorem BL_get {ws : List BS} {i : Nat} (h : i < ws.length) : (BL ws)[i]? = some (B ws[i]) := by simp [BL, h]
theorem BL_len (ws : List BS) : (BL ws).length = ws.length := by simp [BL]

theorem idx_l0 (ws : List BS) (v : ByteArray) (hw : ws.length < 2 ^ 62) : ∀ k n : Nat, n + k = ws.length → (∀ j (h1 : j < ws.length), j < n → L v ≠ ws[j]) → Slcs.Index___string_string_.l0 (BL ws) v ws.length n = some (idxS ws (L v)) := by
  intro k
  induction k with
  | zero =>
    intro n hn hj
    rw [Slcs.Index___string_string_.l0_eq, Slcs.Index___string_string_.s0]
    simp only [letk]
    rw [decide_eq_false (by omega : ¬ (n : Int) < (ws.length : Int))]
    simp only [cond, Option.bind_some, Sum.elim_inr]
    rw [idxS_none hj (by omega)]
  | succ k ih =>
    intro n hn hj
    have hlt : n < ws.length := by omega
    rw [Slcs.Index___string_string_.l0_eq, Slcs.Index___string_string_.s0]
    simp only [letk]
    rw [decide_eq_true (by omega : (n : Int) < (ws.length : Int))]
    simp only [cond]
    rw [chk_pos (by omega), Int.toNat_natCast, BL_get hlt]
    simp only [Option.bind_some, eqL, L_B]
    by_cases he : L v = ws[n]
    · simp only [he, beq_self_eq_true, Option.bind_some, Sum.elim_inr]
      rw [← he, idxS_found hj hlt he]
    · rw [show (L v == ws[n]) = false from beq_eq_false_iff_ne.2 he, w64n (by omega) (by omega)]
      simp only [Option.bind_some, Sum.elim_inl]
      exact ih (n + 1) (by omega) (ne_succ hj hlt he)

theorem idx_nonneg (ws : List BS) (v : BS) : decide (idxS ws v ≥ 0) = decide (v ∈ ws) := by
  unfold idxS
  split <;> rename_i h <;> simp [h]

theorem contains_eq (ws : List BS) (v : ByteArray) (hw : ws.length < 2 ^ 62) : Slcs.Contains___string_string_ (BL ws) v = some (decide (L v ∈ ws)) := by
  unfold Slcs.Contains___string_string_ Slcs.Index___string_string_
  simp only [letk, BL_len]
  have := idx_l0 ws v hw ws.length 0 (by omega) (fun j _ h => by omega)
  rw [show ((0 : Nat) : Int) = 0 from rfl] at this
  rw [this]
  simp only [Option.bind_some, idx_nonneg]

theorem hasPrefix_eq (s p : ByteArray) (_hs : s.size < 2 ^ 62) (hp : p.size < 2 ^ 62) : Strs.HasPrefix s p = some ((L p).isPrefixOf (L s)) := by
  unfold Strs.HasPrefix Slite.HasPrefix
  have h1 := L_len s
  have h2 := L_len p
  simp only [letk, ge_iff_le]
  by_cases h : p.size ≤ s.size
  · rw [decide_eq_true (by omega : (p.size : Int) ≤ s.size)]
    simp only [cond]
    rw [chk_pos (by omega)]
    simp only [Option.bind_some, eqL, Int.toNat_natCast, ext_B, L_B]
    congr 1
    rw [Bool.eq_iff_iff, beq_iff_eq, List.isPrefixOf_iff_prefix, ← h2]
    exact ⟨fun e => e ▸ List.take_prefix _ _, fun e => (List.prefix_iff_eq_take.1 e).symm⟩
  · rw [decide_eq_false (by omega : ¬ (p.size : Int) ≤ s.size)]
    simp only [cond, Option.bind_some]
    congr 1
    symm
    rw [Bool.eq_false_iff]
    intro h3
    have := (List.isPrefixOf_iff_prefix.1 h3).length_le
    omega

theorem index_self {l : BS} {c : Int} (h : l.length = 1) (hc : c = ((l.getD (0 : Int).toNat 0).toNat : Int)) : Lib.indexByte l c.toNat.toUInt8 = 0 := by
  match l, h with
  | [b], _ =>
    subst hc
    simp [Lib.indexByte]

theorem contains1_eq (s p : ByteArray) (hp : p.size = 1) : Strs.Contains s p = some (decide (0 ≤ Lib.indexByte (L s) (bt p 0).toNat.toUInt8)) := by
  unfold Strs.Contains Strs.Index Slite.Index
  simp only [letk, eqL]
  rw [show ((p.size : Int) == 0) = false from beq_eq_false_iff_ne.2 (by omega)]
  simp only [cond, Slite.Index.j5, letk]
  rw [show ((p.size : Int) == 1) = true from beq_iff_eq.2 (by omega)]
  cases h : L p == L s with
  | true =>
    simp only [Option.bind_some]
    have h1 : L p = L s := by simpa using h
    rw [index_self (c := bt p 0) (by rw [← h1, L_len, hp]) (by rw [← h1]; rfl)]
  | false =>
    simp only [Slite.IndexByte, Balg.IndexByteString]
    rw [chk_pos ⟨by omega, by omega⟩]
    simp only [Option.bind_some, ge_iff_le]

theorem contE (p : ByteArray) (hp : p.size = 1) : Strs.Contains ⟨#[101, 69, 100, 68]⟩ p = some (isExp ((L p).getD 0 0)) := by
  rw [contains1_eq _ _ hp]
  congr 1
  rw [bt_L, show (0 : Int).toNat = 0 from rfl]
  have := expC ((L p).getD 0 0)
  have e : (((L p).getD 0 0).toNat : Int).toNat.toUInt8 = (L p).getD 0 0 := by
    rw [Int.toNat_natCast]; simp
  rw [e]
  cases h : isExp ((L p).getD 0 0) with
  | true => exact decide_eq_true (this.2 h)
  | false => exact decide_eq_false (fun h2 => by rw [this.1 h2] at h; cases h)

theorem pre1 (u : BS) (c : UInt8) (hu : u.length < 2 ^ 60) : Strs.HasPrefix (B u) ⟨#[c]⟩ = some (decide (u ≠ []) && (u.getD 0 0 == c)) := by
  rw [hasPrefix_eq _ _ (by rw [size_B]; omega) (by show 1 < _; omega)]
  congr 1
  cases u with
  | nil => rfl
  | cons a r =>
    show (c == a && List.isPrefixOf [] r) = (decide (a :: r ≠ []) && (a == c))
    simp only [List.isPrefixOf, Bool.and_true, ne_eq, reduceCtorEq, not_false_iff, decide_true, Bool.true_and]
    exact Bool.beq_comm

theorem ext_D1 (u : BS) (n : Nat) : (B u).extract n (B u).size = B (u.drop n) := by rw [ext_D, L_B]
theorem ext_T1 (u : BS) (n : Nat) : (B u).extract 0 n = B (u.take n) := by rw [ext_B, L_B]

theorem word_l0 (s : ByteArray) (hs : s.size < 2 ^ 62) : ∀ k n : Nat, n + k = words.length → (∀ j (h1 : j < words.length), j < n → wtest (L s) words[j] = false) → Tok.word.l0 s (BL words) words.length n = some (B (wordOf (L s))) := by
  intro k
  induction k with
  | zero =>
    intro n hn hj
    rw [Tok.word.l0_eq, Tok.word.s0]
    simp only [letk]
    rw [decide_eq_false (by omega : ¬ (n : Int) < (words.length : Int))]
    simp only [cond, Option.bind_some, Sum.elim_inr, wordOf]
    rw [find_no hj (by omega)]
    rfl
  | succ k ih =>
    intro n hn hj
    have hl := L_len s
    have hlt : n < words.length := by omega
    have hw6 : words.length = 6 := rfl
    rw [Tok.word.l0_eq, Tok.word.s0]
    simp only [letk]
    rw [decide_eq_true (by omega : (n : Int) < (words.length : Int))]
    simp only [cond]
    rw [chk_pos (by omega), Int.toNat_natCast, BL_get hlt]
    simp only [Option.bind_some, eqL, L_B, ge_iff_le, Int.toNat_natCast]
    have hsz : (B words[n]).size = words[n].length := rfl
    have again : wtest (L s) words[n] = false → Tok.word.l0 s (BL words) words.length (IntKind.i64.wrap ((n : Int) + 1)) = some (B (wordOf (L s))) := fun h => by
      rw [w64n (by omega) (by omega)]
      exact ih (n + 1) (by omega) (no_succ (p := wtest (L s)) hj hlt h)
    by_cases h1 : words[n].length ≤ s.size
    · rw [decide_eq_true (by omega : ((B words[n]).size : Int) ≤ s.size)]
      simp only []
      rw [chk_pos (by omega), hsz, ext_B, Tok.small_eq _ (by rw [size_B, List.length_take]; omega)]
      simp only [Option.bind_some, L_B]
      cases h2 : Go.Q.small ((L s).take words[n].length) == words[n] with
      | true =>
        simp only [Option.bind_some, Sum.elim_inr, wordOf]
        rw [find_at hj hlt (by unfold wtest; rw [h2, decide_eq_true (by omega)]; rfl)]
        rfl
      | false =>
        simp only [Option.bind_some, Sum.elim_inl]
        exact again (by unfold wtest; rw [h2, Bool.and_false])
    · rw [decide_eq_false (by omega : ¬ ((B words[n]).size : Int) ≤ s.size)]
      simp only [Option.bind_some, Sum.elim_inl]
      exact again (by unfold wtest; rw [decide_eq_false (by omega)]; rfl)

theorem Tok.word_eq (s : ByteArray) (hs : s.size < 2 ^ 62) : Tok.word s = some (B (wordOf (L s))) := by
  unfold Tok.word
  rw [Tok.words_eq]
  simp only [Option.bind_some, letk, BL_len]
  exact word_l0 s hs Go.Q.words.length 0 (by omega) (fun j _ h => by omega)

theorem u8n (c : UInt8) : ((c.toNat : Int) == 43) = (c == 43) ∧ ((c.toNat : Int) == 45) = (c == 45) ∧ ((c.toNat : Int) == 46) = (c == 46) ∧ ((c.toNat : Int) == 32) = (c == 32) ∧ ((c.toNat : Int) == 39) = (c == 39) ∧ ((c.toNat : Int) == 34) = (c == 34) :=
  ⟨beq_u8 c 43 (by omega), beq_u8 c 45 (by omega), beq_u8 c 46 (by omega), beq_u8 c 32 (by omega), beq_u8 c 39 (by omega), beq_u8 c 34 (by omega)⟩

theorem expo_j1 (u : BS) (n : Nat) (hu : u.length < 2 ^ 62) (hn : n ≤ u.length) : Tok.exponent.j1 (B u) n = some (if preL pDigit (u.drop n) = 0 then 0 else ((n + preL pDigit (u.drop n) : Nat) : Int)) := by
  unfold Tok.exponent.j1
  rw [chk_pos ⟨by omega, by rw [size_B]; omega⟩]
  simp only [letk, Int.toNat_natCast, ext_D1]
  have h1 := preL_le pDigit (u.drop n)
  rw [List.length_drop] at h1
  rw [Tok.run_eq Tok.isDigit_eq _ (by rw [size_B, List.length_drop]; omega)]
  simp only [Option.bind_some, L_B]
  by_cases h : preL pDigit (u.drop n) = 0
  · simp [h]
  · rw [if_neg h, show (((preL pDigit (u.drop n) : Nat) : Int) == 0) = false from beq_eq_false_iff_ne.2 (by omega)]
    simp only [cond]
    rw [w64n (by omega) (by omega)]
    congr 1

theorem Tok.exponent_eq (s : ByteArray) (hs : s.size < 2 ^ 61) : Tok.exponent s = some (expo (L s) : Int) := by
  obtain ⟨u, rfl⟩ : ∃ u, s = B u := ⟨L s, (B_L s).symm⟩
  rw [L_B]
  rw [size_B] at hs
  unfold Tok.exponent expo
  simp only [letk, eqL, L_B, L_e]
  by_cases hne : u = []
  · simp [hne]
  · have h0 : 0 < u.length := List.length_pos_iff.2 hne
    rw [show (u == []) = false from beq_eq_false_iff_ne.2 hne]
    simp only [cond]
    rw [chk_pos ⟨by omega, by rw [size_B]; omega⟩, show (1 : Int).toNat = 1 from rfl, ext_T1, contE _ (by rw [size_B, List.length_take]; omega)]
    simp only [Option.bind_some, L_B]
    have e0 : (u.take 1).getD 0 0 = u.getD 0 0 := by cases u <;> simp
    rw [e0]
    cases hx : isExp (u.getD 0 0) with
    | false => simp
    | true =>
      simp only [Bool.not_true, hne, Bool.true_eq_false, or_self, if_false, Tok.exponent.j0, letk]
      have hsz : (B u).size = u.length := rfl
      have key : ∀ n : Nat, n ≤ u.length → n = expoN u → Tok.exponent.j1 (B u) n = some (((if preL pDigit (u.drop (expoN u)) = 0 then 0 else expoN u + preL pDigit (u.drop (expoN u)) : Nat)) : Int) := by
        rintro n hn rfl
        rw [expo_j1 u _ (by omega) hn]
        congr 1
        split <;> rfl
      unfold expoN at key ⊢
      have w2 : IntKind.i64.wrap (1 + 1) = 2 := by decide
      by_cases h1 : 1 < u.length
      · rw [decide_eq_true (by omega : (1 : Int) < ((B u).size : Int))]
        rw [decide_eq_true h1] at *
        simp only [cond, Bool.true_and]
        have hb : bt (B u) 1 = ((u.getD 1 0).toNat : Int) := rfl
        rw [chk_pos (by omega), chk_pos (by omega), hb, (u8n _).1, (u8n _).2.1, w2]
        simp only [Bool.true_and] at key
        unfold isSign at key ⊢
        cases h43 : u.getD 1 0 == 43 with
        | true =>
          simp only [h43, Bool.true_or, if_true] at key ⊢
          exact key 2 (by omega) rfl
        | false =>
          cases h45 : u.getD 1 0 == 45 with
          | true =>
            simp only [h43, h45, Bool.or_true, if_true] at key ⊢
            exact key 2 (by omega) rfl
          | false =>
            simp only [h43, h45, Bool.or_self, Bool.false_eq_true, if_false] at key ⊢
            exact key 1 (by omega) rfl
      · rw [decide_eq_false (by omega : ¬ (1 : Int) < ((B u).size : Int))]
        rw [decide_eq_false h1] at *
        simp only [Bool.false_and, Bool.false_eq_true, if_false, cond] at key ⊢
        exact key 1 (by omega) rfl

end Go.Q
