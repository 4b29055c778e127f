import Derived.Test.YthdklcpkoeehnaaGreatDoorGT2
import Derived.Lib.AtoiTie
namespace Go.Q
open Go Go.Proofs

theorem chk_pos {ρ : Type} {c : Prop} {X : Option ρ} (h : c) : chk c X = X := if_pos h
theorem w64n {x : Int} (h0 : 0 ≤ x) (h : x < 9223372036854775808) : IntKind.i64.wrap x = x := w64 ⟨by omega, h⟩
theorem size_B (l : BS) : (B l).size = l.length := rfl
theorem L_e : L (⟨#[]⟩ : ByteArray) = [] := rfl
theorem eqL (s t : ByteArray) : (s.toList == t.toList) = (L s == L t) := by rw [toList_L, toList_L]
theorem ext_B (s : ByteArray) (n : Nat) : s.extract 0 n = B ((L s).take n) := by rw [← B_L (s.extract 0 n), L_take]
theorem ext_D (s : ByteArray) (n : Nat) : s.extract n s.size = B ((L s).drop n) := by rw [← B_L (s.extract n s.size), L_drop]
theorem bt0 (s : ByteArray) : bt s 0 = (((L s).getD 0 0).toNat : Int) := rfl
theorem beq_u8 (c : UInt8) (n : Nat) (hn : n < 256) : ((c.toNat : Int) == (n : Int)) = (c == UInt8.ofNat n) := by
  rw [Bool.eq_iff_iff, beq_iff_eq, beq_iff_eq]; exact u8_eq hn
theorem bne_u8 (c d : UInt8) : ((c.toNat : Int) != (d.toNat : Int)) = (c != d) := by
  rw [bne, bne, Bool.not_inj_iff, Bool.eq_iff_iff, beq_iff_eq, beq_iff_eq]
  constructor
  · intro h; exact UInt8.toNat_inj.1 (by omega)
  · rintro rfl; rfl

theorem Tok.isText_eq (c : Int) : Tok.isText c = some (pText c) := by
  unfold Tok.isText pText
  simp only [letk, ge_iff_le]
  cases decide (32 ≤ c) <;> simp
theorem Tok.isDigit_eq (c : Int) : Tok.isDigit c = some (pDigit c) := by
  unfold Tok.isDigit pDigit
  simp only [letk, ge_iff_le]
  cases decide (48 ≤ c) <;> simp
theorem Tok.isLetter_eq (c : Int) : Tok.isLetter c = some (pLetter c) := by
  unfold Tok.isLetter pLetter
  simp only [letk, ge_iff_le]
  cases decide (97 ≤ c) <;> cases decide (c ≤ 122) <;> cases decide (65 ≤ c) <;> simp
theorem Tok.isPart_eq (c : Int) : Tok.isPart c = some (pPart c) := by
  unfold Tok.isPart pPart
  rw [Tok.isLetter_eq, Tok.isDigit_eq]
  simp only [Option.bind_some, letk]
  cases pLetter c <;> cases pDigit c <;> simp
  rw [Bool.eq_iff_iff]; simp

theorem preL_step (p : Int → Bool) {l : BS} {n : Nat} (h : n < l.length) : preL p (l.drop n) = if p (l.getD n 0).toNat then 1 + preL p (l.drop (n + 1)) else 0 := by
  rw [List.drop_eq_getElem_cons h]
  simp only [preL, List.takeWhile_cons, List.getD, List.getElem?_eq_getElem h, Option.getD_some]
  split <;> simp [Nat.add_comm]

theorem Tok.run_l0 {is : Int → Option Bool} {p : Int → Bool} (h : ∀ c, is c = some (p c)) (s : ByteArray) (hs : s.size < 2 ^ 62) : ∀ k n : Nat, n + k = s.size → Tok.run.l0 s is n = some ((n + preL p ((L s).drop n) : Nat) : Int) := by
  intro k
  induction k with
  | zero =>
    intro n hn
    rw [Tok.run.l0_eq, Tok.run.s0]
    simp only [letk]
    rw [decide_eq_false (by omega : ¬ (n : Int) < s.size)]
    have : (L s).drop n = [] := List.drop_of_length_le (by rw [L_len]; omega)
    simp [cond, this, preL]
  | succ k ih =>
    intro n hn
    have hl := L_len s
    rw [Tok.run.l0_eq, Tok.run.s0]
    simp only [letk]
    rw [decide_eq_true (by omega : (n : Int) < s.size)]
    simp only [cond]
    rw [chk_pos (by omega), h, bt_L]
    simp only [Option.bind_some, Int.toNat_natCast]
    rw [preL_step p (by omega : n < (L s).length)]
    cases p ((L s).getD n 0).toNat with
    | true =>
      simp only [Option.bind_some, Sum.elim_inl, if_true]
      rw [w64n (by omega) (by omega)]
      have := ih (n + 1) (by omega)
      rw [show ((n : Int) + 1) = ((n + 1 : Nat) : Int) by omega, this, show n + 1 + preL p ((L s).drop (n + 1)) = n + (1 + preL p ((L s).drop (n + 1))) by omega]
    | false => simp

theorem Tok.run_eq {is : Int → Option Bool} {p : Int → Bool} (h : ∀ c, is c = some (p c)) (s : ByteArray) (hs : s.size < 2 ^ 62) : Tok.run s is = some (preL p (L s) : Int) := by
  unfold Tok.run
  have := Tok.run_l0 h s hs s.size 0 (by omega)
  simpa using this

/-! small -/

theorem low_int (c : UInt8) : ((low c).toNat : Int) = if decide ((c.toNat : Int) ≥ 65) && decide ((c.toNat : Int) ≤ 90) then IntKind.u8.wrap (IntKind.u8.wrap ((c.toNat : Int) - 65) + 97) else (c.toNat : Int) := by
  have h : ∀ n : Fin 256, ((low (UInt8.ofNat n)).toNat : Int) = if decide (((UInt8.ofNat n).toNat : Int) ≥ 65) && decide (((UInt8.ofNat n).toNat : Int) ≤ 90) then IntKind.u8.wrap (IntKind.u8.wrap (((UInt8.ofNat n).toNat : Int) - 65) + 97) else ((UInt8.ofNat n).toNat : Int) := by decide +kernel
  have := h ⟨c.toNat, c.toNat_lt⟩
  simpa using this

def smI (l : BS) (i : Nat) : List Int := ((l.take i).map fun c => ((low c).toNat : Int)) ++ (l.drop i).map fun c => (c.toNat : Int)
theorem smI_len (l : BS) (i : Nat) (h : i ≤ l.length) : (smI l i).length = l.length := by simp [smI]; omega
theorem smI_get {l : BS} {i : Nat} (h : i < l.length) : (smI l i)[i]? = some ((l.getD i 0).toNat : Int) := by
  unfold smI
  rw [List.getElem?_append_right (by simp; omega)]
  simp [Nat.min_eq_left (Nat.le_of_lt h), h]
theorem smI_set {l : BS} {i : Nat} (h : i < l.length) : (smI l i).set i ((low (l.getD i 0)).toNat : Int) = smI l (i + 1) := by
  unfold smI
  rw [List.set_append_right _ _ (by simp; omega)]
  simp only [List.length_map, List.length_take, Nat.min_eq_left (Nat.le_of_lt h), Nat.sub_self]
  rw [List.drop_eq_getElem_cons h, List.take_succ_eq_append_getElem h]
  simp only [List.map_cons, List.map_append, List.set_cons_zero, List.append_assoc, List.map_nil, List.cons_append, List.nil_append, List.getD, List.getElem?_eq_getElem h, Option.getD_some]
theorem smI_same {l : BS} {i : Nat} (h : i < l.length) (hc : ((low (l.getD i 0)).toNat : Int) = ((l.getD i 0).toNat : Int)) : smI l i = smI l (i + 1) := by
  rw [← smI_set h, hc]
  have := smI_get h
  exact (List.set_getElem? this).symm
where
  List.set_getElem? {α : Type} {l : List α} {i : Nat} {x : α} (h : l[i]? = some x) : l.set i x = l := by
    apply List.ext_getElem?
    intro j
    rw [List.getElem?_set]
    split
    · rename_i e; subst e
      split
      · exact h.symm
      · rename_i hn; rw [List.getElem?_eq_none (by omega)] at h; cases h
    · rfl

theorem Tok.small_l0 (l : BS) (hl : l.length < 2 ^ 62) : ∀ k n : Nat, n + k = l.length → Tok.small.l0 l.length (smI l n) n = some (B (Go.Q.small l)) := by
  intro k
  induction k with
  | zero =>
    intro n hn
    rw [Tok.small.l0_eq, Tok.small.s0]
    simp only [letk]
    rw [decide_eq_false (by omega : ¬ (n : Int) < (l.length : Int))]
    simp only [cond, Option.map_some, Option.bind_some, Sum.elim_inr, smI]
    rw [List.take_of_length_le (by omega), List.drop_of_length_le (by omega), List.map_nil, List.append_nil]
    congr 1
    have := ofInts_nat (Go.Q.small l)
    rw [← this]
    simp [Go.Q.small, List.map_map, Function.comp_def]
  | succ k ih =>
    intro n hn
    have hlt : n < l.length := by omega
    have hlen := smI_len l n (by omega)
    rw [Tok.small.l0_eq, Tok.small.s0]
    simp only [letk]
    rw [decide_eq_true (by omega : (n : Int) < (l.length : Int))]
    simp only [cond]
    rw [chk_pos (by omega), Int.toNat_natCast, Nat.zero_add, smI_get hlt]
    simp only [Option.bind_some, Tok.small.j0, letk]
    have hlow := low_int (l.getD n 0)
    have key : (Option.bind (bif (decide (((l.getD n 0).toNat : Int) ≥ 65) && decide (((l.getD n 0).toNat : Int) ≤ 90)) then
        chk (0 ≤ (n : Int) ∧ (n : Int) < ((smI l n).length : Int)) (Option.bind ((smI l n)[0 + (n : Int).toNat]?) fun _ => some (Sum.inl ((smI l n).set (0 + (n : Int).toNat) (IntKind.u8.wrap (IntKind.u8.wrap (((l.getD n 0).toNat : Int) - 65) + 97)), IntKind.i64.wrap ((n : Int) + 1))))
        else some (Sum.inl (smI l n, IntKind.i64.wrap ((n : Int) + 1)))) (Sum.elim (fun v : List Int × Int => Tok.small.l0 (l.length : Int) v.1 v.2) some)) = some (B (Go.Q.small l)) := by
      have ih := ih (n + 1) (by omega)
      rw [w64n (by omega) (by omega), show ((n : Int) + 1) = ((n + 1 : Nat) : Int) by omega]
      cases hc : (decide (((l.getD n 0).toNat : Int) ≥ 65) && decide (((l.getD n 0).toNat : Int) ≤ 90)) with
      | true =>
        rw [hc, if_pos rfl] at hlow
        simp only [cond]
        rw [chk_pos (by omega), Int.toNat_natCast, Nat.zero_add, smI_get hlt]
        simp only [Option.bind_some, Sum.elim_inl]
        rw [← hlow, smI_set hlt]
        exact ih
      | false =>
        rw [hc, if_neg (by simp)] at hlow
        simp only [cond, Option.bind_some, Sum.elim_inl]
        rw [smI_same hlt hlow]
        exact ih
    cases h1 : decide (((l.getD n 0).toNat : Int) ≥ 65) with
    | false => rw [h1] at key; simpa using key
    | true =>
      rw [h1, Bool.true_and] at key
      exact key

theorem Tok.small_eq (s : ByteArray) (hs : s.size < 2 ^ 62) : Tok.small s = some (B (Go.Q.small (L s))) := by
  unfold Tok.small
  simp only [letk]
  have h := Tok.small_l0 (L s) (by rw [L_len]; exact hs) (L s).length 0 (by omega)
  have e : bytesI s = smI (L s) 0 := by simp [smI, bytesI, L]
  rw [e, smI_len _ _ (by omega)]
  exact h

end Go.Q
namespace Go.Q
open Go Go.Proofs

def BL (ws : List BS) : List ByteArray := ws.map B
theorem Tok.words_eq : Tok.words = some (BL Go.Q.words) := rfl
theorem Tok.signs_eq : Tok.signs = some (BL Go.Q.signs) := rfl
theorem BL_get {ws : List BS} {i : Nat} (h : i < ws.length) : (BL ws)[i]? = some (B ws[i]) := by simp [BL, h]
theorem BL_len (ws : List BS) : (BL ws).length = ws.length := by simp [BL]

theorem idx_l0 (ws : List BS) (v : ByteArray) (hw : ws.length < 2 ^ 62) : ∀ k n : Nat, n + k = ws.length → (∀ j (h1 : j < ws.length), j < n → L v ≠ ws[j]) → Slcs.Index___string_string_.l0 (BL ws) v ws.length n = some (idxS ws (L v)) := by
  intro k
  induction k with
  | zero =>
    intro n hn hj
    rw [Slcs.Index___string_string_.l0_eq, Slcs.Index___string_string_.s0]
    simp only [letk]
    rw [decide_eq_false (by omega : ¬ (n : Int) < (ws.length : Int))]
    simp only [cond, Option.bind_some, Sum.elim_inr]
    rw [idxS_none hj (by omega)]
  | succ k ih =>
    intro n hn hj
    have hlt : n < ws.length := by omega
    rw [Slcs.Index___string_string_.l0_eq, Slcs.Index___string_string_.s0]
    simp only [letk]
    rw [decide_eq_true (by omega : (n : Int) < (ws.length : Int))]
    simp only [cond]
    rw [chk_pos (by omega), Int.toNat_natCast, BL_get hlt]
    simp only [Option.bind_some, eqL, L_B]
    by_cases he : L v = ws[n]
    · simp only [he, beq_self_eq_true, Option.bind_some, Sum.elim_inr]
      rw [← he, idxS_found hj hlt he]
    · rw [show (L v == ws[n]) = false from beq_eq_false_iff_ne.2 he, w64n (by omega) (by omega)]
      simp only [Option.bind_some, Sum.elim_inl]
      exact ih (n + 1) (by omega) (ne_succ hj hlt he)

theorem idx_nonneg (ws : List BS) (v : BS) : decide (idxS ws v ≥ 0) = decide (v ∈ ws) := by
  unfold idxS
  split <;> rename_i h <;> simp [h]

theorem contains_eq (ws : List BS) (v : ByteArray) (hw : ws.length < 2 ^ 62) : Slcs.Contains___string_string_ (BL ws) v = some (decide (L v ∈ ws)) := by
  unfold Slcs.Contains___string_string_ Slcs.Index___string_string_
  simp only [letk, BL_len]
  have := idx_l0 ws v hw ws.length 0 (by omega) (fun j _ h => by omega)
  rw [show ((0 : Nat) : Int) = 0 from rfl] at this
  rw [this]
  simp only [Option.bind_some, idx_nonneg]

theorem hasPrefix_eq (s p : ByteArray) (_hs : s.size < 2 ^ 62) (hp : p.size < 2 ^ 62) : Strs.HasPrefix s p = some ((L p).isPrefixOf (L s)) := by
  unfold Strs.HasPrefix Slite.HasPrefix
  have h1 := L_len s
  have h2 := L_len p
  simp only [letk, ge_iff_le]
  by_cases h : p.size ≤ s.size
  · rw [decide_eq_true (by omega : (p.size : Int) ≤ s.size)]
    simp only [cond]
    rw [chk_pos (by omega)]
    simp only [Option.bind_some, eqL, Int.toNat_natCast, ext_B, L_B]
    congr 1
    rw [Bool.eq_iff_iff, beq_iff_eq, List.isPrefixOf_iff_prefix, ← h2]
    exact ⟨fun e => e ▸ List.take_prefix _ _, fun e => (List.prefix_iff_eq_take.1 e).symm⟩
  · rw [decide_eq_false (by omega : ¬ (p.size : Int) ≤ s.size)]
    simp only [cond, Option.bind_some]
    congr 1
    symm
    rw [Bool.eq_false_iff]
    intro h3
    have := (List.isPrefixOf_iff_prefix.1 h3).length_le
    omega

theorem index_self {l : BS} {c : Int} (h : l.length = 1) (hc : c = ((l.getD (0 : Int).toNat 0).toNat : Int)) : Lib.indexByte l c.toNat.toUInt8 = 0 := by
  match l, h with
  | [b], _ =>
    subst hc
    simp [Lib.indexByte]

theorem contains1_eq (s p : ByteArray) (hp : p.size = 1) : Strs.Contains s p = some (decide (0 ≤ Lib.indexByte (L s) (bt p 0).toNat.toUInt8)) := by
  unfold Strs.Contains Strs.Index Slite.Index
  simp only [letk, eqL]
  rw [show ((p.size : Int) == 0) = false from beq_eq_false_iff_ne.2 (by omega)]
  simp only [cond, Slite.Index.j5, letk]
  rw [show ((p.size : Int) == 1) = true from beq_iff_eq.2 (by omega)]
  cases h : L p == L s with
  | true =>
    simp only [Option.bind_some]
    have h1 : L p = L s := by simpa using h
    rw [index_self (c := bt p 0) (by rw [← h1, L_len, hp]) (by rw [← h1]; rfl)]
  | false =>
    simp only [Slite.IndexByte, Balg.IndexByteString]
    rw [chk_pos ⟨by omega, by omega⟩]
    simp only [Option.bind_some, ge_iff_le]

theorem contE (p : ByteArray) (hp : p.size = 1) : Strs.Contains ⟨#[101, 69, 100, 68]⟩ p = some (isExp ((L p).getD 0 0)) := by
  rw [contains1_eq _ _ hp]
  congr 1
  rw [bt_L, show (0 : Int).toNat = 0 from rfl]
  have := expC ((L p).getD 0 0)
  have e : (((L p).getD 0 0).toNat : Int).toNat.toUInt8 = (L p).getD 0 0 := by
    rw [Int.toNat_natCast]; simp
  rw [e]
  cases h : isExp ((L p).getD 0 0) with
  | true => exact decide_eq_true (this.2 h)
  | false => exact decide_eq_false (fun h2 => by rw [this.1 h2] at h; cases h)

theorem pre1 (u : BS) (c : UInt8) (hu : u.length < 2 ^ 60) : Strs.HasPrefix (B u) ⟨#[c]⟩ = some (decide (u ≠ []) && (u.getD 0 0 == c)) := by
  rw [hasPrefix_eq _ _ (by rw [size_B]; omega) (by show 1 < _; omega)]
  congr 1
  cases u with
  | nil => rfl
  | cons a r =>
    show (c == a && List.isPrefixOf [] r) = (decide (a :: r ≠ []) && (a == c))
    simp only [List.isPrefixOf, Bool.and_true, ne_eq, reduceCtorEq, not_false_iff, decide_true, Bool.true_and]
    exact Bool.beq_comm

theorem ext_D1 (u : BS) (n : Nat) : (B u).extract n (B u).size = B (u.drop n) := by rw [ext_D, L_B]
theorem ext_T1 (u : BS) (n : Nat) : (B u).extract 0 n = B (u.take n) := by rw [ext_B, L_B]

theorem word_l0 (s : ByteArray) (hs : s.size < 2 ^ 62) : ∀ k n : Nat, n + k = words.length → (∀ j (h1 : j < words.length), j < n → wtest (L s) words[j] = false) → Tok.word.l0 s (BL words) words.length n = some (B (wordOf (L s))) := by
  intro k
  induction k with
  | zero =>
    intro n hn hj
    rw [Tok.word.l0_eq, Tok.word.s0]
    simp only [letk]
    rw [decide_eq_false (by omega : ¬ (n : Int) < (words.length : Int))]
    simp only [cond, Option.bind_some, Sum.elim_inr, wordOf]
    rw [find_no hj (by omega)]
    rfl
  | succ k ih =>
    intro n hn hj
    have hl := L_len s
    have hlt : n < words.length := by omega
    have hw6 : words.length = 6 := rfl
    rw [Tok.word.l0_eq, Tok.word.s0]
    simp only [letk]
    rw [decide_eq_true (by omega : (n : Int) < (words.length : Int))]
    simp only [cond]
    rw [chk_pos (by omega), Int.toNat_natCast, BL_get hlt]
    simp only [Option.bind_some, eqL, L_B, ge_iff_le, Int.toNat_natCast]
    have hsz : (B words[n]).size = words[n].length := rfl
    have again : wtest (L s) words[n] = false → Tok.word.l0 s (BL words) words.length (IntKind.i64.wrap ((n : Int) + 1)) = some (B (wordOf (L s))) := fun h => by
      rw [w64n (by omega) (by omega)]
      exact ih (n + 1) (by omega) (no_succ (p := wtest (L s)) hj hlt h)
    by_cases h1 : words[n].length ≤ s.size
    · rw [decide_eq_true (by omega : ((B words[n]).size : Int) ≤ s.size)]
      simp only []
      rw [chk_pos (by omega), hsz, ext_B, Tok.small_eq _ (by rw [size_B, List.length_take]; omega)]
      simp only [Option.bind_some, L_B]
      cases h2 : Go.Q.small ((L s).take words[n].length) == words[n] with
      | true =>
        simp only [Option.bind_some, Sum.elim_inr, wordOf]
        rw [find_at hj hlt (by unfold wtest; rw [h2, decide_eq_true (by omega)]; rfl)]
        rfl
      | false =>
        simp only [Option.bind_some, Sum.elim_inl]
        exact again (by unfold wtest; rw [h2, Bool.and_false])
    · rw [decide_eq_false (by omega : ¬ ((B words[n]).size : Int) ≤ s.size)]
      simp only [Option.bind_some, Sum.elim_inl]
      exact again (by unfold wtest; rw [decide_eq_false (by omega)]; rfl)

theorem Tok.word_eq (s : ByteArray) (hs : s.size < 2 ^ 62) : Tok.word s = some (B (wordOf (L s))) := by
  unfold Tok.word
  rw [Tok.words_eq]
  simp only [Option.bind_some, letk, BL_len]
  exact word_l0 s hs Go.Q.words.length 0 (by omega) (fun j _ h => by omega)

theorem u8n (c : UInt8) : ((c.toNat : Int) == 43) = (c == 43) ∧ ((c.toNat : Int) == 45) = (c == 45) ∧ ((c.toNat : Int) == 46) = (c == 46) ∧ ((c.toNat : Int) == 32) = (c == 32) ∧ ((c.toNat : Int) == 39) = (c == 39) ∧ ((c.toNat : Int) == 34) = (c == 34) :=
  ⟨beq_u8 c 43 (by omega), beq_u8 c 45 (by omega), beq_u8 c 46 (by omega), beq_u8 c 32 (by omega), beq_u8 c 39 (by omega), beq_u8 c 34 (by omega)⟩

theorem expo_j1 (u : BS) (n : Nat) (hu : u.length < 2 ^ 62) (hn : n ≤ u.length) : Tok.exponent.j1 (B u) n = some (if preL pDigit (u.drop n) = 0 then 0 else ((n + preL pDigit (u.drop n) : Nat) : Int)) := by
  unfold Tok.exponent.j1
  rw [chk_pos ⟨by omega, by rw [size_B]; omega⟩]
  simp only [letk, Int.toNat_natCast, ext_D1]
  have h1 := preL_le pDigit (u.drop n)
  rw [List.length_drop] at h1
  rw [Tok.run_eq Tok.isDigit_eq _ (by rw [size_B, List.length_drop]; omega)]
  simp only [Option.bind_some, L_B]
  by_cases h : preL pDigit (u.drop n) = 0
  · simp [h]
  · rw [if_neg h, show (((preL pDigit (u.drop n) : Nat) : Int) == 0) = false from beq_eq_false_iff_ne.2 (by omega)]
    simp only [cond]
    rw [w64n (by omega) (by omega)]
    congr 1

theorem Tok.exponent_eq (s : ByteArray) (hs : s.size < 2 ^ 61) : Tok.exponent s = some (expo (L s) : Int) := by
  obtain ⟨u, rfl⟩ : ∃ u, s = B u := ⟨L s, (B_L s).symm⟩
  rw [L_B]
  rw [size_B] at hs
  unfold Tok.exponent expo
  simp only [letk, eqL, L_B, L_e]
  by_cases hne : u = []
  · simp [hne]
  · have h0 : 0 < u.length := List.length_pos_iff.2 hne
    rw [show (u == []) = false from beq_eq_false_iff_ne.2 hne]
    simp only [cond]
    rw [chk_pos ⟨by omega, by rw [size_B]; omega⟩, show (1 : Int).toNat = 1 from rfl, ext_T1, contE _ (by rw [size_B, List.length_take]; omega)]
    simp only [Option.bind_some, L_B]
    have e0 : (u.take 1).getD 0 0 = u.getD 0 0 := by cases u <;> simp
    rw [e0]
    cases hx : isExp (u.getD 0 0) with
    | false => simp
    | true =>
      simp only [Bool.not_true, hne, Bool.true_eq_false, or_self, if_false, Tok.exponent.j0, letk]
      have hsz : (B u).size = u.length := rfl
      have key : ∀ n : Nat, n ≤ u.length → n = expoN u → Tok.exponent.j1 (B u) n = some (((if preL pDigit (u.drop (expoN u)) = 0 then 0 else expoN u + preL pDigit (u.drop (expoN u)) : Nat)) : Int) := by
        rintro n hn rfl
        rw [expo_j1 u _ (by omega) hn]
        congr 1
        split <;> rfl
      unfold expoN at key ⊢
      have w2 : IntKind.i64.wrap (1 + 1) = 2 := by decide
      by_cases h1 : 1 < u.length
      · rw [decide_eq_true (by omega : (1 : Int) < ((B u).size : Int))]
        rw [decide_eq_true h1] at *
        simp only [cond, Bool.true_and]
        have hb : bt (B u) 1 = ((u.getD 1 0).toNat : Int) := rfl
        rw [chk_pos (by omega), chk_pos (by omega), hb, (u8n _).1, (u8n _).2.1, w2]
        simp only [Bool.true_and] at key
        unfold isSign at key ⊢
        cases h43 : u.getD 1 0 == 43 with
        | true =>
          simp only [h43, Bool.true_or, if_true] at key ⊢
          exact key 2 (by omega) rfl
        | false =>
          cases h45 : u.getD 1 0 == 45 with
          | true =>
            simp only [h43, h45, Bool.or_true, if_true] at key ⊢
            exact key 2 (by omega) rfl
          | false =>
            simp only [h43, h45, Bool.or_self, Bool.false_eq_true, if_false] at key ⊢
            exact key 1 (by omega) rfl
      · rw [decide_eq_false (by omega : ¬ (1 : Int) < ((B u).size : Int))]
        rw [decide_eq_false h1] at *
        simp only [Bool.false_and, Bool.false_eq_true, if_false, cond] at key ⊢
        exact key 1 (by omega) rfl

end Go.Q
namespace Go.Q
open Go Go.Proofs

theorem num_j0 (u : BS) (n : Nat) (r : Bool) (hu : u.length < 2 ^ 60) (hn : n ≤ u.length) : Tok.number.j0 (B u) n r = some (((n + expo (u.drop n) : Nat) : Int), r || decide (0 < expo (u.drop n))) := by
  unfold Tok.number.j0
  rw [chk_pos ⟨by omega, by rw [size_B]; omega⟩]
  simp only [letk, Int.toNat_natCast, ext_D1]
  have h1 := expo_le (u.drop n)
  rw [List.length_drop] at h1
  rw [Tok.exponent_eq _ (by rw [size_B, List.length_drop]; omega)]
  simp only [Option.bind_some, L_B, gt_iff_lt]
  by_cases h : 0 < expo (u.drop n)
  · rw [decide_eq_true (by omega : (0 : Int) < (expo (u.drop n) : Int)), decide_eq_true h, w64n (by omega) (by omega)]
    simp
  · have h0 : expo (u.drop n) = 0 := by omega
    rw [h0]
    simp

theorem num_j3 (u : BS) (n : Nat) (r : Bool) (hu : u.length < 2 ^ 60) (hn : n < u.length) : Tok.number.j3 (B u) n r =
    some ((((if r then (n + (1 + preL pDigit (u.drop (n + 1)))) + expo (u.drop (n + (1 + preL pDigit (u.drop (n + 1))))) else n + expo (u.drop n) : Nat)) : Int),
      r || decide (0 < expo (u.drop n))) := by
  unfold Tok.number.j3
  cases r with
  | false => simp only [cond]; rw [num_j0 u n false hu (by omega)]; simp
  | true =>
    simp only [cond, letk]
    have h1 := preL_le pDigit (u.drop (n + 1))
    rw [List.length_drop] at h1
    rw [w64n (by omega) (by omega), chk_pos ⟨by omega, by rw [size_B]; omega⟩, show ((n : Int) + 1).toNat = n + 1 by omega, ext_D1, Tok.run_eq Tok.isDigit_eq _ (by rw [size_B, List.length_drop]; omega)]
    simp only [Option.bind_some, L_B]
    rw [w64n (x := 1 + _) (by omega) (by omega), w64n (by omega) (by omega)]
    have := num_j0 u (n + (1 + preL pDigit (u.drop (n + 1)))) true hu (by omega)
    rw [show (((n + (1 + preL pDigit (u.drop (n + 1))) : Nat)) : Int) = (n : Int) + (1 + (preL pDigit (u.drop (n + 1)) : Int)) by omega] at this
    rw [this]
    simp

theorem Tok.number_eq (s : ByteArray) (hs : s.size < 2 ^ 60) : Tok.number s = some ((numN (L s) : Int), numR (L s)) := by
  obtain ⟨u, rfl⟩ : ∃ u, s = B u := ⟨L s, (B_L s).symm⟩
  rw [L_B]
  rw [size_B] at hs
  have hsz : (B u).size = u.length := rfl
  have hle := preL_le pDigit u
  unfold Tok.number
  rw [Tok.run_eq Tok.isDigit_eq _ (by rw [size_B]; omega)]
  simp only [Option.bind_some, letk, L_B]
  have no : hasPoint u = false → Tok.number.j1 (B u) (preL pDigit u : Nat) false = some ((numN u : Int), numR u) := fun h => by
    unfold Tok.number.j1 numN numR pointN
    rw [h]
    simp only [cond, Bool.false_eq_true, if_false]
    rw [num_j0 u _ false hs hle]
  by_cases hlt : preL pDigit u < u.length
  · rw [decide_eq_true (by omega : ((preL pDigit u : Nat) : Int) < ((B u).size : Int))]
    simp only [cond]
    rw [chk_pos (by omega), show bt (B u) (preL pDigit u : Nat) = ((u.getD (preL pDigit u) 0).toNat : Int) from rfl, (u8n _).2.2.1]
    cases h46 : u.getD (preL pDigit u) 0 == 46 with
    | false => exact no (by unfold hasPoint; rw [h46]; simp)
    | true =>
      simp only []
      rw [chk_pos (by omega), Int.toNat_natCast, ext_D1, Tok.word_eq _ (by rw [size_B, List.length_drop]; omega)]
      simp only [Option.bind_some, eqL, L_B, L_e]
      cases hw : wordOf (u.drop (preL pDigit u)) == [] with
      | false =>
        have hw' : ¬ wordOf (u.drop (preL pDigit u)) = [] := beq_eq_false_iff_ne.1 hw
        exact no (by unfold hasPoint; rw [decide_eq_false hw']; simp)
      | true =>
        have hw' : wordOf (u.drop (preL pDigit u)) = [] := beq_iff_eq.1 hw
        unfold Tok.number.j1
        simp only [cond, letk]
        have hp : hasPoint u = pointOk (u.drop (preL pDigit u + 1)) := by
          unfold hasPoint; rw [decide_eq_true hlt, h46, decide_eq_true hw']; simp
        -- what stands behind the point
        have fin : ∀ r : Bool, r = pointOk (u.drop (preL pDigit u + 1)) → Tok.number.j3 (B u) (preL pDigit u : Nat) r = some ((numN u : Int), numR u) := by
          rintro r rfl
          rw [num_j3 u _ _ hs hlt]
          unfold numN numR pointN
          rw [hp]
          cases h : pointOk (u.drop (preL pDigit u + 1)) <;> simp
        rw [w64n (by omega) (by omega)]
        have hnl : (u.drop (preL pDigit u + 1)).length = u.length - (preL pDigit u + 1) := List.length_drop
        by_cases hn : preL pDigit u + 1 < u.length
        · rw [decide_eq_true (by omega : ((preL pDigit u : Nat) : Int) + 1 < ((B u).size : Int))]
          simp only []
          rw [w64n (by omega) (by omega), chk_pos (by omega)]
          have hnext : (B u).extract ((preL pDigit u : Nat) + 1 : Int).toNat ((preL pDigit u : Nat) + 2 : Int).toNat = B [(u.drop (preL pDigit u + 1)).getD 0 0] := by
            rw [← B_L ((B u).extract _ _), L_ext, L_B, show (((preL pDigit u : Nat) : Int) + 1).toNat = preL pDigit u + 1 by omega, show (((preL pDigit u : Nat) : Int) + 2).toNat = preL pDigit u + 2 by omega]
            congr 1
            rw [List.drop_take, show preL pDigit u + 2 - (preL pDigit u + 1) = 1 by omega]
            cases h : u.drop (preL pDigit u + 1) with
            | nil => rw [h] at hnl; simp at hnl; omega
            | cons a r => rfl
          rw [hnext]
          unfold Tok.number.j2
          simp only [letk, eqL, L_B, L_e]
          rw [show (([(u.drop (preL pDigit u + 1)).getD 0 0] : BS) == []) = false from rfl]
          simp only [cond]
          rw [chk_pos ⟨by omega, by rw [size_B]; show (0 : Int) < 1; omega⟩, show bt (B [(u.drop (preL pDigit u + 1)).getD 0 0]) 0 = (((u.drop (preL pDigit u + 1)).getD 0 0).toNat : Int) from rfl, Tok.isLetter_eq]
          simp only [Option.bind_some]
          have hne : ¬ u.drop (preL pDigit u + 1) = [] := by intro h; rw [h] at hnl; simp at hnl; omega
          cases hlet : pLetter (((u.drop (preL pDigit u + 1)).getD 0 0).toNat : Int) with
          | false => exact fin true (by unfold pointOk; rw [hlet]; simp)
          | true =>
            simp only [Bool.not_true]
            rw [contE _ rfl]
            simp only [Option.bind_some, L_B]
            exact fin _ (by unfold pointOk; rw [hlet, decide_eq_false hne]; rfl)
        · rw [decide_eq_false (by omega : ¬ ((preL pDigit u : Nat) : Int) + 1 < ((B u).size : Int))]
          simp only []
          have hne : u.drop (preL pDigit u + 1) = [] := List.drop_of_length_le (by omega)
          unfold Tok.number.j2
          simp only [letk, beq_self_eq_true]
          exact fin true (by unfold pointOk; rw [decide_eq_true hne]; rfl)
  · rw [decide_eq_false (by omega : ¬ ((preL pDigit u : Nat) : Int) < ((B u).size : Int))]
    exact no (by unfold hasPoint; rw [decide_eq_false hlt]; rfl)
end Go.Q
namespace Go.Q
open Go Go.Proofs

theorem chk_neg {ρ : Type} {c : Prop} [Decidable c] {X : Option ρ} (h : ¬ c) : chk c X = none := if_neg h
theorem Dec.digitsOf_l0 (s : ByteArray) (hs : s.size < 2 ^ 62) : ∀ k n : Nat, n + k = s.size → Dec.digitsOf.l0 s n = some (B ((L s).take (n + preL pDigit ((L s).drop n)))) := by
  intro k
  induction k with
  | zero =>
    intro n hn
    rw [Dec.digitsOf.l0_eq, Dec.digitsOf.s0]
    simp only [letk]
    rw [decide_eq_false (by omega : ¬ (n : Int) < s.size)]
    have : (L s).drop n = [] := List.drop_of_length_le (by rw [L_len]; omega)
    simp only [cond]
    rw [chk_pos (by omega), this, Int.toNat_natCast, ext_B]
    simp [preL]
  | succ k ih =>
    intro n hn
    have hl := L_len s
    rw [Dec.digitsOf.l0_eq, Dec.digitsOf.s0]
    simp only [letk]
    rw [decide_eq_true (by omega : (n : Int) < s.size)]
    simp only [cond]
    rw [chk_pos (by omega), bt_L]
    rw [chk_pos (by omega)]
    rw [chk_pos (by omega)]
    simp only [Int.toNat_natCast]
    rw [preL_step pDigit (by omega : n < (L s).length)]
    have ih := ih (n + 1) (by omega)
    rw [w64n (by omega) (by omega), ext_B]
    unfold pDigit
    cases h1 : decide (48 ≤ (((L s).getD n 0).toNat : Int)) with
    | false => simp []
    | true =>
      cases h2 : decide ((((L s).getD n 0).toNat : Int) ≤ 57) with
      | false => simp []
      | true =>
        simp only [Option.bind_some, Sum.elim_inl, Bool.and_self, if_true]
        rw [show ((n : Int) + 1) = ((n + 1 : Nat) : Int) by omega, ih, show n + 1 + preL pDigit ((L s).drop (n + 1)) = n + (1 + preL pDigit ((L s).drop (n + 1))) by omega]
        rfl
theorem Dec.digitsOf_eq (s : ByteArray) (hs : s.size < 2 ^ 62) : Dec.digitsOf s = some (B ((L s).take (preL pDigit (L s)))) := by
  unfold Dec.digitsOf
  have := Dec.digitsOf_l0 s hs s.size 0 (by omega)
  simpa using this
theorem preL_all {p : Int → Bool} : ∀ {l : BS}, preL p l = l.length → ∀ c ∈ l, p c.toNat = true
  | [], _, c, h => by simp at h
  | a :: l, h, c, hc => by
    simp only [preL, List.takeWhile_cons] at h
    split at h
    · rename_i ha
      rcases List.mem_cons.1 hc with rfl | hc
      · exact ha
      · exact preL_all (l := l) (by simpa [preL] using h) c hc
    · simp at h
theorem preL_of_all {p : Int → Bool} : ∀ {l : BS}, (∀ c ∈ l, p c.toNat = true) → preL p l = l.length
  | [], _ => rfl
  | a :: l, h => by
    have ih := preL_of_all (l := l) (fun c hc => h c (by simp [hc]))
    simp only [preL] at ih
    simp [preL, h a (by simp), ih]
theorem decNat_digits : ∀ (l : BS) (_h : l ≠ []), (∀ c ∈ l, pDigit c.toNat = true) → l.length ≤ 18 → ∃ n, Lib.parseMag l = .ok n ∧ n < 10 ^ l.length := by
  intro l h0 h hl
  have key : ∀ (l : BS) (acc : Nat), (∀ c ∈ l, pDigit c.toNat = true) → ∀ k, acc < 10 ^ k → k + l.length ≤ 18 → ∃ n, Lib.parseUint10 acc l = .ok n ∧ n < 10 ^ (k + l.length) := by
    intro l
    induction l with
    | nil => intro acc _ k hk _; exact ⟨acc, rfl, by simpa using hk⟩
    | cons c r ih =>
      intro acc h k hk hl
      have hc := h c (by simp)
      simp only [pDigit, Bool.and_eq_true, decide_eq_true_eq] at hc
      simp only [List.length_cons] at hl
      have hp : 10 ^ (k + 1) ≤ 10 ^ 18 := Nat.pow_le_pow_right (by omega) (by omega)
      have hp2 : 10 ^ (k + 1) = 10 ^ k * 10 := Nat.pow_succ ..
      have hp3 : (10 : Nat) ^ 18 = 1000000000000000000 := by decide
      obtain ⟨n, h1, h2⟩ := ih (acc * 10 + (c.toNat - 48)) (fun c hc => h c (by simp [hc])) (k + 1) (by omega) (by omega)
      refine ⟨n, ?_, by rw [List.length_cons, show k + (r.length + 1) = k + 1 + r.length by omega]; exact h2⟩
      simp only [Lib.parseUint10]
      rw [if_pos (by omega), if_neg (by omega), if_neg (by omega)]
      exact h1
  obtain ⟨n, h1, h2⟩ := key l 0 h 0 (by simp) (by omega)
  refine ⟨n, ?_, by simpa using h2⟩
  unfold Lib.parseMag
  rw [if_neg h0, h1]
theorem atoi_digits (l : BS) (h0 : l ≠ []) (h : ∀ c ∈ l, pDigit c.toNat = true) (hl : l.length ≤ 18) : ∃ n : Nat, Lib.atoiAll l = .ok (n : Int) ∧ n < 10 ^ l.length := by
  obtain ⟨n, h1, h2⟩ := decNat_digits l h0 h hl
  match l, h0 with
  | c :: r, _ =>
    have hc := h c (by simp)
    simp only [pDigit, Bool.and_eq_true, decide_eq_true_eq] at hc
    refine ⟨n, ?_, h2⟩
    have hp : 10 ^ (c :: r).length ≤ 10 ^ 18 := Nat.pow_le_pow_right (by omega) hl
    have hp3 : (10 : Nat) ^ 18 = 1000000000000000000 := by decide
    simp only [Lib.atoiAll]
    rw [if_neg (by omega), h1]
    simp only
    rw [if_neg (by omega), if_neg (by omega), if_neg (by omega)]
/-- An answer whose second part is known. -/
def Ans2 {α : Type} (x : Option (α × Bool)) (b : Bool) : Prop := ∃ a, x = some (a, b)
theorem Ans2.mk {α : Type} (a : α) (b : Bool) : Ans2 (some (a, b)) b := ⟨a, rfl⟩
theorem Ans2.cond {α : Type} {X Y : Option (α × Bool)} {b c : Bool} (h1 : b = true → Ans2 X c) (h2 : b = false → Ans2 Y c) : Ans2 (bif b then X else Y) c := by
  cases b
  · exact h2 rfl
  · exact h1 rfl
theorem parse_j4 (u : BS) (hu : u.length < 2 ^ 40) (p0 : Int) (p1 p2 : ByteArray) (p3 : Int) (m : Bool) : Ans2 (Dec.parse.j4 (B u) p0 p1 p2 p3 m) (decide (u ≠ []) && decide (u.length ≤ 4) && (preL pDigit u == u.length)) := by
  unfold Dec.parse.j4
  simp only [letk, eqL, L_B, L_e, size_B]
  refine Ans2.cond (fun h => ?_) (fun h => ?_)
  · simp only [beq_iff_eq] at h
    subst h
    exact ⟨_, rfl⟩
  · refine Ans2.cond (fun h1 => ?_) (fun h1 => ?_)
    · have : ¬ u.length ≤ 4 := by simp at h1; omega
      simp only [this, decide_false, Bool.and_false, Bool.false_and]
      exact ⟨_, rfl⟩
    · have h4 : u.length ≤ 4 := by simp at h1; omega
      have hne : u ≠ [] := by simpa using h
      rw [Dec.digitsOf_eq _ (by rw [size_B]; omega)]
      simp only [Option.bind_some, L_B]
      have hle := preL_le pDigit u
      cases h2 : preL pDigit u == u.length with
      | false =>
        have : (List.take (preL pDigit u) u == u) = false := by
          simp only [beq_eq_false_iff_ne] at h2 ⊢
          intro e
          have := congrArg List.length e
          rw [List.length_take] at this; omega
        rw [this]
        simp only [Bool.and_false]
        exact ⟨_, rfl⟩
      | true =>
        have h2' : preL pDigit u = u.length := by simpa using h2
        have : (List.take (preL pDigit u) u == u) = true := by rw [h2', List.take_length]; simp
        rw [this]
        obtain ⟨n, hn, _⟩ := atoi_digits u hne (preL_all h2') (by omega)
        simp only [h4, Bool.not_true, Dec.parse.j7, cond, Dec.parse.j5, Strconv.Atoi, L_B]
        rw [chk_pos (by rw [size_B]; omega), hn]
        have hT : (decide (u ≠ []) && decide True && true) = true := by simp [hne]
        simp only [Option.bind_some]
        rw [hT]
        cases m <;> exact ⟨_, rfl⟩
theorem parse_j3 (u : BS) (hu : u.length < 2 ^ 40) (p0 : Int) (p1 p2 : ByteArray) (p3 : Int) : Ans2 (Dec.parse.j3 (B u) p0 p1 p2 p3) (decTail u) := by
  unfold Dec.parse.j3 decTail
  simp only [letk, eqL, L_B, L_e]
  refine Ans2.cond (fun h => ?_) (fun h => ?_)
  · simp only [beq_iff_eq] at h
    rw [if_pos h]; exact ⟨_, rfl⟩
  · have hne : u ≠ [] := by simpa using h
    have h0 : 0 < u.length := List.length_pos_iff.2 hne
    rw [if_neg hne, chk_pos ⟨by omega, by rw [size_B]; omega⟩, show (1 : Int).toNat = 1 from rfl, ext_T1, contE _ (by rw [size_B, List.length_take]; omega)]
    simp only [Option.bind_some, L_B]
    have e0 : (u.take 1).getD 0 0 = u.getD 0 0 := by cases u <;> simp
    rw [e0]
    cases hx : isExp (u.getD 0 0) with
    | false => simp only [Bool.not_false, cond]; exact ⟨_, rfl⟩
    | true =>
      simp only [Bool.not_true, cond, if_true]
      rw [chk_pos ⟨by omega, by rw [size_B]; omega⟩, ext_D1]
      have hd : (u.drop 1).length < 2 ^ 40 := by rw [List.length_drop]; omega
      rw [pre1 _ _ (by omega), pre1 _ _ (by omega)]
      simp only [Option.bind_some, unsign, isSign]
      have hd2 : ((u.drop 1).drop 1).length < 2 ^ 40 := by rw [List.length_drop]; omega
      by_cases hne1 : u.drop 1 = []
      · simp only [hne1, ne_eq, not_true_eq_false, decide_false, Bool.false_and]
        exact parse_j4 [] (by simp) p0 p1 p2 p3 false
      · have hl1 : 0 < (u.drop 1).length := List.length_pos_iff.2 hne1
        simp only [ne_eq, hne1, not_false_iff, decide_true, Bool.true_and]
        cases h45 : (u.drop 1).getD 0 0 == 45 with
        | true =>
          simp only [Bool.or_true, if_true]
          rw [chk_pos ⟨by omega, by rw [size_B]; omega⟩, ext_D1]
          exact parse_j4 _ hd2 p0 p1 p2 p3 true
        | false =>
          cases h43 : (u.drop 1).getD 0 0 == 43 with
          | true =>
            simp only [Bool.true_or, if_true]
            rw [chk_pos ⟨by omega, by rw [size_B]; omega⟩, ext_D1]
            exact parse_j4 _ hd2 p0 p1 p2 p3 false
          | false =>
            simp only [Bool.or_self, Bool.false_eq_true, if_false]
            exact parse_j4 _ hd p0 p1 p2 p3 false
theorem parse_j2 (f : BS) (u : BS) (b : BS) (hu : u.length < 2 ^ 40) (hf : f.length + b.length < 2 ^ 40) (p0 : Int) (p1 p2 : ByteArray) (p3 : Int) :
    Ans2 (Dec.parse.j2 (B f) (B u) p0 p1 p2 p3 (B b)) (if f.length + b.length = 0 || f.length + b.length > 60 then false else decTail u) := by
  unfold Dec.parse.j2
  rw [chk_pos (by rw [size_B, size_B]; omega)]
  have e : B f ++ B b = B (f ++ b) := by rw [← B_L (B f ++ B b), L_app, L_B, L_B]
  simp only [letk, e, eqL, L_B, L_e, Dec.parse.j8]
  refine Ans2.cond (fun h => ?_) (fun h => ?_)
  · have : f.length + b.length = 0 := by
      simp only [beq_iff_eq] at h
      rw [← List.length_append, h]; rfl
    simp only [this, decide_true, Bool.true_or, if_true, cond]
    exact ⟨_, rfl⟩
  · have hne : f.length + b.length ≠ 0 := by
      rw [← List.length_append]
      intro h2
      rw [List.length_eq_zero_iff.1 h2] at h
      simp at h
    refine Ans2.cond (fun h1 => ?_) (fun h1 => ?_)
    · have : f.length + b.length > 60 := by simp [size_B] at h1; omega
      simp only [this, decide_true, Bool.or_true, if_true]
      exact ⟨_, rfl⟩
    · have : ¬ f.length + b.length > 60 := by simp [size_B] at h1; omega
      simp only [this, hne, decide_false, Bool.or_self, Bool.false_eq_true, if_false]
      exact parse_j3 u hu _ _ _ _
theorem take_B (u : BS) (n : Nat) (h : n ≤ u.length) : (B (u.take n)).size = n := by rw [size_B, List.length_take]; omega
theorem parse_j1 (u : BS) (hu : u.length < 2 ^ 39) (p0 : Int) (p1 p2 : ByteArray) (p3 : Int) : Ans2 (Dec.parse.j1 (B u) p0 p1 p2 p3) (decBody u) := by
  unfold Dec.parse.j1 decBody
  have hle := preL_le pDigit u
  rw [Dec.digitsOf_eq _ (by rw [size_B]; omega)]
  simp only [letk, Option.bind_some, L_B]
  rw [take_B _ _ hle, chk_pos ⟨by omega, by rw [size_B]; omega⟩, Int.toNat_natCast, ext_D1, pre1 _ _ (by rw [List.length_drop]; omega)]
  simp only [Option.bind_some]
  have hlen : (u.drop (preL pDigit u)).length = u.length - preL pDigit u := List.length_drop
  have hft : (u.take (preL pDigit u)).length = preL pDigit u := by rw [List.length_take]; omega
  by_cases hlt : preL pDigit u < u.length
  · have hne : u.drop (preL pDigit u) ≠ [] := by intro h; rw [h] at hlen; simp at hlen; omega
    simp only [ne_eq, hne, not_false_iff, decide_true, hlt, Bool.true_and, Bool.and_true]
    cases hp : (u.drop (preL pDigit u)).getD 0 0 == 46 with
    | true =>
      simp only [cond, if_true]
      have h2 := preL_le pDigit (u.drop (preL pDigit u + 1))
      have h2l : (u.drop (preL pDigit u + 1)).length = u.length - (preL pDigit u + 1) := List.length_drop
      rw [chk_pos ⟨by omega, by rw [size_B]; omega⟩, show (1 : Int).toNat = 1 from rfl, ext_D1, List.drop_drop, Dec.digitsOf_eq _ (by rw [size_B]; omega)]
      simp only [Option.bind_some, L_B]
      rw [take_B _ _ h2, w64n (by omega) (by omega), chk_pos ⟨by omega, by rw [size_B]; omega⟩, show ((1 : Int) + ((preL pDigit (u.drop (preL pDigit u + 1)) : Nat) : Int)).toNat = 1 + preL pDigit (u.drop (preL pDigit u + 1)) by omega, ext_D1, List.drop_drop]
      have hbt : ((u.drop (preL pDigit u + 1)).take (preL pDigit (u.drop (preL pDigit u + 1)))).length = preL pDigit (u.drop (preL pDigit u + 1)) := by rw [List.length_take]; omega
      have := parse_j2 (u.take (preL pDigit u)) (u.drop (preL pDigit u + (1 + preL pDigit (u.drop (preL pDigit u + 1))))) ((u.drop (preL pDigit u + 1)).take (preL pDigit (u.drop (preL pDigit u + 1)))) (by rw [List.length_drop]; omega) (by omega) p0 p1 p2 p3
      rw [hft, hbt, ← Nat.add_assoc] at this
      rw [← Nat.add_assoc]
      exact this
    | false =>
      simp only [cond, Bool.false_eq_true, if_false]
      have := parse_j2 (u.take (preL pDigit u)) (u.drop (preL pDigit u)) [] (by omega) (by simp; omega) p0 p1 p2 p3
      rw [hft] at this
      exact this
  · have hnil : u.drop (preL pDigit u) = [] := List.drop_of_length_le (by omega)
    simp only [hnil, hlt, ne_eq, not_true_eq_false, decide_false, Bool.false_and, Bool.and_false, cond, Bool.false_eq_true, if_false]
    have := parse_j2 (u.take (preL pDigit u)) [] [] (by simp) (by simp; omega) p0 p1 p2 p3
    rw [hft] at this
    exact this
theorem parse_j0 (u : BS) (hu : u.length < 2 ^ 39) (p0 : Int) (p1 p2 : ByteArray) (p3 : Int) : Ans2 (Dec.parse.j0 (B u) p0 p1 p2 p3) (decide (u = [105, 110, 102]) || decide (u = [110, 97, 110]) || decBody u) := by
  unfold Dec.parse.j0
  simp only [letk, eqL, L_B, Dec.parse.j9]
  refine Ans2.cond (fun h => ?_) (fun h => ?_)
  · have : u = [105, 110, 102] := beq_iff_eq.1 h
    simp only [this, decide_true, Bool.true_or, cond]
    exact ⟨_, rfl⟩
  · have h1 : u ≠ [105, 110, 102] := beq_eq_false_iff_ne.1 h
    refine Ans2.cond (fun h => ?_) (fun h => ?_)
    · have : u = [110, 97, 110] := beq_iff_eq.1 h
      simp only [this, decide_true, Bool.true_or, Bool.or_true]
      exact ⟨_, rfl⟩
    · have h2 : u ≠ [110, 97, 110] := beq_eq_false_iff_ne.1 h
      simp only [h1, h2, decide_false, Bool.false_or]
      exact parse_j1 u hu _ _ _ _
theorem parse_eq (s : ByteArray) (hs : s.size < 2 ^ 39) : Ans2 (Dec.parse s) (decIs (L s)) := by
  unfold Dec.parse decIs
  have hl := L_len s
  simp only [letk, eqL, L_e]
  by_cases hne : L s = []
  · have : s = B [] := by rw [← B_L s, hne]
    subst this
    simp only [L_B, beq_self_eq_true, Bool.not_true, cond, Dec.parse.j10, unsign, ne_eq, not_true_eq_false, decide_false, Bool.false_and, Bool.false_eq_true, if_false]
    exact parse_j0 [] (by simp) _ _ _ _
  · have hpos : 0 < s.size := by rw [← hl]; exact List.length_pos_iff.2 hne
    have hbq : (L s == []) = false := by simpa using hne
    simp only [hbq, Bool.not_false, cond]
    rw [chk_pos ⟨by omega, by omega⟩]
    have e45 : (bt s 0 == 45) = ((L s).getD 0 0 == 45) := beq_u8 _ 45 (by omega)
    have e43 : (bt s 0 == 43) = ((L s).getD 0 0 == 43) := beq_u8 _ 43 (by omega)
    have hd : ((L s).drop 1).length < 2 ^ 39 := by rw [List.length_drop]; omega
    rw [chk_pos ⟨by omega, by omega⟩, e45, e43]
    simp only [unsign, ne_eq, hne, not_false_iff, decide_true, Bool.true_and, isSign]
    have j10t : Ans2 (Dec.parse.j10 s true) (decide ((L s).drop 1 = [105, 110, 102]) || decide ((L s).drop 1 = [110, 97, 110]) || decBody ((L s).drop 1)) := by
      unfold Dec.parse.j10
      simp only [letk, cond]
      rw [chk_pos ⟨by omega, by omega⟩, e45, chk_pos ⟨by omega, by omega⟩, chk_pos ⟨by omega, by omega⟩, show (1 : Int).toNat = 1 from rfl, ext_D]
      cases ((L s).getD 0 0 == 45)
      · exact parse_j0 _ hd _ _ _ _
      · exact parse_j0 _ hd _ _ _ _
    cases h45 : (L s).getD 0 0 == 45 with
    | true =>
      simp only [Bool.or_true, if_true]
      exact j10t
    | false =>
      cases h43 : (L s).getD 0 0 == 43 with
      | true =>
        simp only [Bool.true_or, if_true]
        exact j10t
      | false =>
        simp only [Bool.or_self, Bool.false_eq_true, if_false]
        have := parse_j0 (L s) (by omega) 0 ⟨#[]⟩ ⟨#[]⟩ 0
        rw [B_L] at this
        exact this
theorem Dec.Is_eq (s : ByteArray) (hs : s.size < 2 ^ 39) : Dec.Is s = some (decIs (L s)) := by
  obtain ⟨a, h⟩ := parse_eq s hs
  unfold Dec.Is
  rw [h]; rfl
theorem ascii_app (a b : BS) : asciiL (a ++ b) = (asciiL a && asciiL b) := by unfold asciiL; rw [List.all_append]
theorem ascii_nil : asciiL [] = true := rfl
theorem ascii_cons (c : UInt8) (l : BS) : asciiL (c :: l) = (decide (c.toNat < 128) && asciiL l) := rfl
theorem ascii_dig (c : UInt8) (h : pDigit c.toNat = true) : c.toNat < 128 := by
  simp only [pDigit, Bool.and_eq_true, decide_eq_true_eq] at h; omega
theorem ascii_digs {l : BS} (h : ∀ c ∈ l, pDigit c.toNat = true) : asciiL l = true := by
  unfold asciiL
  simp only [List.all_eq_true, decide_eq_true_eq]
  exact fun c hc => ascii_dig c (h c hc)
theorem take_preL (p : Int → Bool) : ∀ (l : BS), ∀ c ∈ l.take (preL p l), p c.toNat = true
  | [], c, h => by simp at h
  | a :: l, c, h => by
    simp only [preL, List.takeWhile_cons] at h
    split at h
    · rename_i ha
      rcases List.mem_cons.1 h with rfl | h
      · exact ha
      · exact take_preL p l c h
    · simp at h
theorem ascii_split (l : BS) (n : Nat) (h1 : asciiL (l.take n) = true) (h2 : asciiL (l.drop n) = true) : asciiL l = true := by
  rw [← List.take_append_drop n l, ascii_app, h1, h2]; rfl
theorem ascii_head (l : BS) (h : (l.getD 0 0).toNat < 128) (h2 : asciiL (l.drop 1) = true) : asciiL l = true := by
  cases l with
  | nil => rfl
  | cons a r => rw [ascii_cons, decide_eq_true (show a.toNat < 128 from h)]; exact h2
theorem ascii_unsign (l : BS) (h : asciiL (unsign l) = true) : asciiL l = true := by
  unfold unsign at h
  split at h
  · rename_i h1
    refine ascii_head l ?_ h
    simp only [Bool.and_eq_true, isSign, Bool.or_eq_true, beq_iff_eq] at h1
    rcases h1.2 with h2 | h2 <;> rw [h2] <;> decide
  · exact h
theorem ascii_decTail (l : BS) (h : decTail l = true) : asciiL l = true := by
  unfold decTail at h
  split at h
  · rename_i h0; rw [h0]; rfl
  · split at h
    · rename_i h1
      simp only [Bool.and_eq_true, beq_iff_eq] at h
      refine ascii_head l ?_ (ascii_unsign _ (ascii_digs (preL_all h.2)))
      simp only [isExp, Bool.or_eq_true, beq_iff_eq] at h1
      rcases h1 with ((h1 | h1) | h1) | h1 <;> rw [h1] <;> decide
    · cases h
theorem ascii_decBody (l : BS) (h : decBody l = true) : asciiL l = true := by
  unfold decBody at h
  simp only at h
  refine ascii_split l (preL pDigit l) (ascii_digs (take_preL _ _)) ?_
  split at h
  · rename_i h1
    simp only [Bool.and_eq_true, beq_iff_eq] at h1
    split at h
    · cases h
    · refine ascii_head _ (by rw [h1.1]; decide) ?_
      rw [List.drop_drop]
      refine ascii_split _ (preL pDigit (l.drop (preL pDigit l + 1))) (ascii_digs (take_preL _ _)) ?_
      rw [List.drop_drop]
      exact ascii_decTail _ h
  · split at h
    · cases h
    · exact ascii_decTail _ h
theorem ascii_decIs (l : BS) (h : decIs l = true) : asciiL l = true := by
  unfold decIs at h
  simp only [Bool.or_eq_true, decide_eq_true_eq] at h
  refine ascii_unsign l ?_
  rcases h with (h | h) | h
  · rw [h]; rfl
  · rw [h]; rfl
  · exact ascii_decBody _ h
theorem trimLeft_eq (s : ByteArray) : Strs.TrimLeft s ⟨#[43, 45]⟩ = some (B (trimS (L s))) := by
  unfold Strs.TrimLeft
  rw [chk_pos ⟨by decide, by decide⟩]
  congr 2
  unfold Lib.trimLeftS trimS
  congr 1
  funext c
  show List.contains [43, 45] c = _
  unfold isSign
  rw [List.contains_cons, List.contains_cons, List.contains_nil, Bool.or_false]
theorem isReal_j0 (s : ByteArray) (hs : s.size < 2 ^ 31) (ha : asciiL (L s) = true) : Tok.isReal.j0 s = some (numR (L s) && (numN (L s) == (L s).length) &&
    (decide (Lib.indexAny (L s) [101, 100] < 0) || decide (preL pDigit (trimS ((L s).drop ((Lib.indexAny (L s) [101, 100]).toNat + 1))) ≤ 3))) := by
  unfold Tok.isReal.j0
  have hl := L_len s
  rw [Tok.number_eq s (by omega)]
  unfold Strs.IndexAny
  rw [chk_pos ⟨by omega, by decide, ha, by decide⟩]
  simp only [letk, Option.bind_some]
  rw [show L (⟨#[101, 100]⟩ : ByteArray) = [101, 100] from rfl]
  cases numR (L s) with
  | false => simp [cond]
  | true =>
    simp only [cond, Bool.true_and]
    have e : ((numN (L s) : Int) == (s.size : Int)) = (numN (L s) == (L s).length) := by
      rw [hl, Bool.eq_iff_iff, beq_iff_eq, beq_iff_eq]; omega
    rw [e]
    cases numN (L s) == (L s).length with
    | false => simp
    | true =>
      simp only [Bool.true_and]
      have hle := Lib.indexAny_ge [101, 100] (L s)
      have hlt : Lib.indexAny (L s) [101, 100] < s.size ∨ Lib.indexAny (L s) [101, 100] < 0 := by
        have key : ∀ l : BS, Lib.indexAny l [101, 100] < l.length ∨ Lib.indexAny l [101, 100] < 0 := by
          intro l
          induction l with
          | nil => right; decide
          | cons b l ih =>
            simp only [Lib.indexAny]
            split
            · left; simp only [List.length_cons]; omega
            · split
              · right; omega
              · left; simp only [List.length_cons]
                have := Lib.indexAny_ge [101, 100] l
                rename_i h
                simp only [beq_iff_eq] at h
                omega
        have := key (L s)
        rw [hl] at this; exact this
      by_cases h0 : Lib.indexAny (L s) [101, 100] < 0
      · simp [h0]
      · simp only [h0, decide_false, Bool.false_or]
        rw [w64n (by omega) (by omega), chk_pos (by omega)]
        rw [show (Lib.indexAny (L s) [101, 100] + 1).toNat = (Lib.indexAny (L s) [101, 100]).toNat + 1 by omega, ext_D, trimLeft_eq, L_B]
        simp only [Option.bind_some]
        have hln : (trimS ((L s).drop ((Lib.indexAny (L s) [101, 100]).toNat + 1))).length < 2 ^ 62 := by
          have h1 : (trimS ((L s).drop ((Lib.indexAny (L s) [101, 100]).toNat + 1))).length ≤ ((L s).drop ((Lib.indexAny (L s) [101, 100]).toNat + 1)).length := (List.dropWhile_suffix _).length_le
          rw [List.length_drop] at h1; omega
        rw [Tok.run_eq Tok.isDigit_eq _ (by rw [size_B]; exact hln), L_B]
        simp only [Option.bind_some]
        congr 1
        rw [Bool.eq_iff_iff, decide_eq_true_eq, decide_eq_true_eq]; omega
theorem Tok.isReal_eq (s : ByteArray) (hs : s.size < 2 ^ 31) : Tok.isReal s = some (isRealL (L s)) := by
  unfold Tok.isReal isRealL
  have hl := L_len s
  simp only [letk, eqL, L_e]
  by_cases hne : L s = []
  · simp [hne]
  · have hpos : 0 < s.size := by rw [← hl]; exact List.length_pos_iff.2 hne
    have hbq : (L s == []) = false := by simpa using hne
    simp only [hbq, cond, ne_eq, hne, not_false_iff, decide_true, Bool.true_and]
    rw [chk_pos ⟨by omega, by omega⟩, chk_pos ⟨by omega, by omega⟩, Tok.isDigit_eq, bt0]
    simp only [Option.bind_some]
    have e46 : ((((L s).getD 0 0).toNat : Int) != 46) = !((L s).getD 0 0 == 46) := by
      rw [bne, show ((((L s).getD 0 0).toNat : Int) == 46) = _ from beq_u8 _ 46 (by omega)]; rfl
    have hsm : Tok.small s = some (B (Go.Q.small (L s))) := Tok.small_eq s (by omega)
    have rest : (Option.bind (Tok.small s) fun t22 => match !(L s == L t22) with
        | true => some false
        | false => Option.bind (Dec.Is s) fun t27 => match !t27 with
          | true => some false
          | false => Tok.isReal.j0 s) = some ((L s == Go.Q.small (L s)) && decIs (L s) && numR (L s) && (numN (L s) == (L s).length) &&
            (decide (Lib.indexAny (L s) [101, 100] < 0) || decide (preL pDigit (trimS ((L s).drop ((Lib.indexAny (L s) [101, 100]).toNat + 1))) ≤ 3))) := by
      rw [hsm, Option.bind_some, L_B, Dec.Is_eq s (by omega), Option.bind_some]
      cases L s == Go.Q.small (L s) with
      | false => simp
      | true =>
        cases hd : decIs (L s) with
        | false => simp
        | true =>
          simp only [Bool.not_true, Bool.true_and]
          exact isReal_j0 s hs (ascii_decIs _ hd)
    cases pDigit (((L s).getD 0 0).toNat : Int) with
    | true =>
      simp only [Bool.not_true, Bool.true_or, Bool.true_and]
      exact rest
    | false =>
      simp only [Bool.not_false, Bool.false_or]
      rw [e46]
      cases (L s).getD 0 0 == 46 with
      | true => simp only [Bool.not_true, Bool.true_and]; exact rest
      | false => simp

end Go.Q
