import Derived.Test.YthdklcpkoeehnaaDoorGT2
namespace Go.Q
open Go Go.Proofs

theorem chk_pos {ρ : Type} {c : Prop} {X : Option ρ} (h : c) : chk c X = X := if_pos h
theorem w64n {x : Int} (h0 : 0 ≤ x) (h : x < 9223372036854775808) : IntKind.i64.wrap x = x := w64 ⟨by omega, h⟩
theorem size_B (l : BS) : (B l).size = l.length := rfl
theorem L_e : L (⟨#[]⟩ : ByteArray) = [] := rfl
theorem eqL (s t : ByteArray) : (s.toList == t.toList) = (L s == L t) := by rw [toList_L, toList_L]
theorem ext_B (s : ByteArray) (n : Nat) : s.extract 0 n = B ((L s).take n) := by rw [← B_L (s.extract 0 n), L_take]
theorem ext_D (s : ByteArray) (n : Nat) : s.extract n s.size = B ((L s).drop n) := by rw [← B_L (s.extract n s.size), L_drop]
theorem bt0 (s : ByteArray) : bt s 0 = (((L s).getD 0 0).toNat : Int) := rfl
theorem beq_u8 (c : UInt8) (n : Nat) (hn : n < 256) : ((c.toNat : Int) == (n : Int)) = (c == UInt8.ofNat n) := by
  rw [Bool.eq_iff_iff, beq_iff_eq, beq_iff_eq]; exact u8_eq hn
theorem bne_u8 (c d : UInt8) : ((c.toNat : Int) != (d.toNat : Int)) = (c != d) := by
  rw [bne, bne, Bool.not_inj_iff, Bool.eq_iff_iff, beq_iff_eq, beq_iff_eq]
  constructor
  · intro h; exact UInt8.toNat_inj.1 (by omega)
  · rintro rfl; rfl

theorem Tok.isText_eq (c : Int) : Tok.isText c = some (pText c) := by
  unfold Tok.isText pText
  simp only [letk, ge_iff_le]
  cases decide (32 ≤ c) <;> simp
theorem Tok.isDigit_eq (c : Int) : Tok.isDigit c = some (pDigit c) := by
  unfold Tok.isDigit pDigit
  simp only [letk, ge_iff_le]
  cases decide (48 ≤ c) <;> simp
theorem Tok.isLetter_eq (c : Int) : Tok.isLetter c = some (pLetter c) := by
  unfold Tok.isLetter pLetter
  simp only [letk, ge_iff_le]
  cases decide (97 ≤ c) <;> cases decide (c ≤ 122) <;> cases decide (65 ≤ c) <;> simp
theorem Tok.isPart_eq (c : Int) : Tok.isPart c = some (pPart c) := by
  unfold Tok.isPart pPart
  rw [Tok.isLetter_eq, Tok.isDigit_eq]
  simp only [Option.bind_some, letk]
  cases pLetter c <;> cases pDigit c <;> simp
  rw [Bool.eq_iff_iff]; simp

theorem preL_step (p : Int → Bool) {l : BS} {n : Nat} (h : n < l.length) : preL p (l.drop n) = if p (l.getD n 0).toNat then 1 + preL p (l.drop (n + 1)) else 0 := by
  rw [List.drop_eq_getElem_cons h]
  simp only [preL, List.takeWhile_cons, List.getD, List.getElem?_eq_getElem h, Option.getD_some]
  split <;> simp [Nat.add_comm]

theorem Tok.run_l0 {is : Int → Option Bool} {p : Int → Bool} (h : ∀ c, is c = some (p c)) (s : ByteArray) (hs : s.size < 2 ^ 62) : ∀ k n : Nat, n + k = s.size → Tok.run.l0 s is n = some ((n + preL p ((L s).drop n) : Nat) : Int) := by
  intro k
  induction k with
  | zero =>
    intro n hn
    rw [Tok.run.l0_eq, Tok.run.s0]
    simp only [letk]
    rw [decide_eq_false (by omega : ¬ (n : Int) < s.size)]
    have : (L s).drop n = [] := List.drop_of_length_le (by rw [L_len]; omega)
    simp [cond, this, preL]
  | succ k ih =>
    intro n hn
    have hl := L_len s
    rw [Tok.run.l0_eq, Tok.run.s0]
    simp only [letk]
    rw [decide_eq_true (by omega : (n : Int) < s.size)]
    simp only [cond]
    rw [chk_pos (by omega), h, bt_L]
    simp only [Option.bind_some, Int.toNat_natCast]
    rw [preL_step p (by omega : n < (L s).length)]
    cases p ((L s).getD n 0).toNat with
    | true =>
      simp only [Option.bind_some, Sum.elim_inl, if_true]
      rw [w64n (by omega) (by omega)]
      have := ih (n + 1) (by omega)
      rw [show ((n : Int) + 1) = ((n + 1 : Nat) : Int) by omega, this, show n + 1 + preL p ((L s).drop (n + 1)) = n + (1 + preL p ((L s).drop (n + 1))) by omega]
    | false => simp

theorem Tok.run_eq {is : Int → Option Bool} {p : Int → Bool} (h : ∀ c, is c = some (p c)) (s : ByteArray) (hs : s.size < 2 ^ 62) : Tok.run s is = some (preL p (L s) : Int) := by
  unfold Tok.run
  have := Tok.run_l0 h s hs s.size 0 (by omega)
  simpa using this

/-! small -/

theorem low_int (c : UInt8) : ((low c).toNat : Int) = if decide ((c.toNat : Int) ≥ 65) && decide ((c.toNat : Int) ≤ 90) then IntKind.u8.wrap (IntKind.u8.wrap ((c.toNat : Int) - 65) + 97) else (c.toNat : Int) := by
  have h : ∀ n : Fin 256, ((low (UInt8.ofNat n)).toNat : Int) = if decide (((UInt8.ofNat n).toNat : Int) ≥ 65) && decide (((UInt8.ofNat n).toNat : Int) ≤ 90) then IntKind.u8.wrap (IntKind.u8.wrap (((UInt8.ofNat n).toNat : Int) - 65) + 97) else ((UInt8.ofNat n).toNat : Int) := by decide +kernel
  have := h ⟨c.toNat, c.toNat_lt⟩
  simpa using this

def smI (l : BS) (i : Nat) : List Int := ((l.take i).map fun c => ((low c).toNat : Int)) ++ (l.drop i).map fun c => (c.toNat : Int)
theorem smI_len (l : BS) (i : Nat) (h : i ≤ l.length) : (smI l i).length = l.length := by simp [smI]; omega
theorem smI_get {l : BS} {i : Nat} (h : i < l.length) : (smI l i)[i]? = some ((l.getD i 0).toNat : Int) := by
  unfold smI
  rw [List.getElem?_append_right (by simp; omega)]
  simp [Nat.min_eq_left (Nat.le_of_lt h), h]
theorem smI_set {l : BS} {i : Nat} (h : i < l.length) : (smI l i).set i ((low (l.getD i 0)).toNat : Int) = smI l (i + 1) := by
  unfold smI
  rw [List.set_append_right _ _ (by simp; omega)]
  simp only [List.length_map, List.length_take, Nat.min_eq_left (Nat.le_of_lt h), Nat.sub_self]
  rw [List.drop_eq_getElem_cons h, List.take_succ_eq_append_getElem h]
  simp only [List.map_cons, List.map_append, List.set_cons_zero, List.append_assoc, List.map_nil, List.cons_append, List.nil_append, List.getD, List.getElem?_eq_getElem h, Option.getD_some]
theorem smI_same {l : BS} {i : Nat} (h : i < l.length) (hc : ((low (l.getD i 0)).toNat : Int) = ((l.getD i 0).toNat : Int)) : smI l i = smI l (i + 1) := by
  rw [← smI_set h, hc]
  have := smI_get h
  exact (List.set_getElem? this).symm
where
  List.set_getElem? {α : Type} {l : List α} {i : Nat} {x : α} (h : l[i]? = some x) : l.set i x = l := by
    apply List.ext_getElem?
    intro j
    rw [List.getElem?_set]
    split
    · rename_i e; subst e
      split
      · exact h.symm
      · rename_i hn; rw [List.getElem?_eq_none (by omega)] at h; cases h
    · rfl

theorem Tok.small_l0 (l : BS) (hl : l.length < 2 ^ 62) : ∀ k n : Nat, n + k = l.length → Tok.small.l0 l.length (smI l n) n = some (B (Go.Q.small l)) := by
  intro k
  induction k with
  | zero =>
    intro n hn
    rw [Tok.small.l0_eq, Tok.small.s0]
    simp only [letk]
    rw [decide_eq_false (by omega : ¬ (n : Int) < (l.length : Int))]
    simp only [cond, Option.map_some, Option.bind_some, Sum.elim_inr, smI]
    rw [List.take_of_length_le (by omega), List.drop_of_length_le (by omega), List.map_nil, List.append_nil]
    congr 1
    have := ofInts_nat (Go.Q.small l)
    rw [← this]
    simp [Go.Q.small, List.map_map, Function.comp_def]
  | succ k ih =>
    intro n hn
    have hlt : n < l.length := by omega
    have hlen := smI_len l n (by omega)
    rw [Tok.small.l0_eq, Tok.small.s0]
    simp only [letk]
    rw [decide_eq_true (by omega : (n : Int) < (l.length : Int))]
    simp only [cond]
    rw [chk_pos (by omega), Int.toNat_natCast, Nat.zero_add, smI_get hlt]
    simp only [Option.bind_some, Tok.small.j0, letk]
    have hlow := low_int (l.getD n 0)
    have key : (Option.bind (bif (decide (((l.getD n 0).toNat : Int) ≥ 65) && decide (((l.getD n 0).toNat : Int) ≤ 90)) then
        chk (0 ≤ (n : Int) ∧ (n : Int) < ((smI l n).length : Int)) (Option.bind ((smI l n)[0 + (n : Int).toNat]?) fun _ => some (Sum.inl ((smI l n).set (0 + (n : Int).toNat) (IntKind.u8.wrap (IntKind.u8.wrap (((l.getD n 0).toNat : Int) - 65) + 97)), IntKind.i64.wrap ((n : Int) + 1))))
        else some (Sum.inl (smI l n, IntKind.i64.wrap ((n : Int) + 1)))) (Sum.elim (fun v : List Int × Int => Tok.small.l0 (l.length : Int) v.1 v.2) some)) = some (B (Go.Q.small l)) := by
      have ih := ih (n + 1) (by omega)
      rw [w64n (by omega) (by omega), show ((n : Int) + 1) = ((n + 1 : Nat) : Int) by omega]
      cases hc : (decide (((l.getD n 0).toNat : Int) ≥ 65) && decide (((l.getD n 0).toNat : Int) ≤ 90)) with
      | true =>
        rw [hc, if_pos rfl] at hlow
        simp only [cond]
        rw [chk_pos (by omega), Int.toNat_natCast, Nat.zero_add, smI_get hlt]
        simp only [Option.bind_some, Sum.elim_inl]
        rw [← hlow, smI_set hlt]
        exact ih
      | false =>
        rw [hc, if_neg (by simp)] at hlow
        simp only [cond, Option.bind_some, Sum.elim_inl]
        rw [smI_same hlt hlow]
        exact ih
    cases h1 : decide (((l.getD n 0).toNat : Int) ≥ 65) with
    | false => rw [h1] at key; simpa using key
    | true =>
      rw [h1, Bool.true_and] at key
      exact key

theorem Tok.small_eq (s : ByteArray) (hs : s.size < 2 ^ 62) : Tok.small s = some (B (Go.Q.small (L s))) := by
  unfold Tok.small
  simp only [letk]
  have h := Tok.small_l0 (L s) (by rw [L_len]; exact hs) (L s).length 0 (by omega)
  have e : bytesI s = smI (L s) 0 := by simp [smI, bytesI, L]
  rw [e, smI_len _ _ (by omega)]
  exact h

end Go.Q
