import Derived.Test.YthdklcpkoeehnaaDoorP4
namespace Go.Q
open Go Go.Proofs

theorem Tok.isInt_eq (s : ByteArray) (hs : s.size < 2 ^ 60) : Tok.isInt s = some (Go.Q.isInt (L s)) := by
  have hl := L_len s
  unfold Tok.isInt Go.Q.isInt
  simp only [letk, ge_iff_le]
  rw [hl]
  by_cases h1 : 1 ≤ s.size
  · rw [decide_eq_true (by omega : (1 : Int) ≤ s.size), decide_eq_true h1]
    simp only [cond]
    by_cases h2 : s.size ≤ 10
    · rw [decide_eq_true (by omega : (s.size : Int) ≤ 10), decide_eq_true h2, Tok.run_eq Tok.isDigit_eq _ (by omega)]
      simp only [Option.bind_some, Bool.true_and]
      congr 1
      rw [Bool.eq_iff_iff, beq_iff_eq, beq_iff_eq]; omega
    · rw [decide_eq_false (by omega : ¬ (s.size : Int) ≤ 10), decide_eq_false h2]
      simp
  · rw [decide_eq_false (by omega : ¬ (1 : Int) ≤ s.size), decide_eq_false h1]
    simp

theorem Tok.IsName_eq (s : ByteArray) (hs : s.size < 2 ^ 60) : Tok.IsName s = some (Go.Q.isName (L s)) := by
  have hl := L_len s
  unfold Tok.IsName Go.Q.isName
  simp only [letk, eqL, L_e]
  by_cases hne : L s = []
  · simp [hne]
  · have h0 : 0 < s.size := by rw [← hl]; exact List.length_pos_iff.2 hne
    rw [show (L s == []) = false from beq_eq_false_iff_ne.2 hne, decide_eq_true hne, hl]
    simp only [Bool.not_false, cond, Bool.true_and]
    by_cases h2 : s.size ≤ 12
    · rw [decide_eq_true (by omega : (s.size : Int) ≤ 12), decide_eq_true h2]
      simp only [Bool.true_and]
      rw [chk_pos ⟨by omega, by omega⟩, Tok.isLetter_eq, bt0]
      simp only [Option.bind_some]
      cases pLetter (((L s).getD 0 0).toNat : Int) with
      | false => simp
      | true =>
        simp only [Bool.true_and]
        rw [Tok.run_eq Tok.isPart_eq _ (by omega)]
        simp only [Option.bind_some]
        have e : (((preL pPart (L s) : Nat) : Int) == (s.size : Int)) = (preL pPart (L s) == s.size) := by
          rw [Bool.eq_iff_iff, beq_iff_eq, beq_iff_eq]; omega
        rw [e]
        cases preL pPart (L s) == s.size with
        | false => simp
        | true =>
          simp only [Bool.true_and]
          rw [Tok.small_eq _ (by omega)]
          simp only [Option.bind_some, L_B]
    · rw [decide_eq_false (by omega : ¬ (s.size : Int) ≤ 12), decide_eq_false h2]
      simp

theorem Tok.Valid_1_eq (ws : List BS) (t : api.Token) (hw : ws.length < 2 ^ 62) : Tok.Valid_1 (BL ws) t = some (decide (L t.Text ∈ ws)) := by
  unfold Tok.Valid_1
  rw [contains_eq _ _ hw]
  rfl

theorem Tok.Valid_eq (t : api.Token) (hs : t.Text.size < 2 ^ 31) : Tok.Valid t = some (Go.Q.valid (L t.Kind) (L t.Text)) := by
  have hl := L_len t.Text
  unfold Tok.Valid Go.Q.valid
  simp only [letk, eqL]
  rw [show L (⟨#[110, 97, 109, 101]⟩ : ByteArray) = kName from rfl, show L (⟨#[105, 110, 116]⟩ : ByteArray) = kInt from rfl, show L (⟨#[114, 101, 97, 108]⟩ : ByteArray) = kReal from rfl, show L (⟨#[116, 101, 120, 116]⟩ : ByteArray) = kText from rfl, show L (⟨#[111, 112]⟩ : ByteArray) = kOp from rfl, show L (⟨#[108, 111, 103, 105, 99, 97, 108]⟩ : ByteArray) = kLog from rfl]
  by_cases h1 : L t.Kind = kName
  · rw [if_pos h1, show (L t.Kind == kName) = true from beq_iff_eq.2 h1]
    simp only [cond]
    rw [Tok.IsName_eq _ (by omega)]; rfl
  rw [if_neg h1, show (L t.Kind == kName) = false from beq_eq_false_iff_ne.2 h1]
  by_cases h2 : L t.Kind = kInt
  · rw [if_pos h2, show (L t.Kind == kInt) = true from beq_iff_eq.2 h2]
    simp only [cond]
    rw [Tok.isInt_eq _ (by omega)]; rfl
  rw [if_neg h2, show (L t.Kind == kInt) = false from beq_eq_false_iff_ne.2 h2]
  by_cases h3 : L t.Kind = kReal
  · rw [if_pos h3, show (L t.Kind == kReal) = true from beq_iff_eq.2 h3]
    simp only [cond]
    rw [Tok.isReal_eq _ (by omega)]; rfl
  rw [if_neg h3, show (L t.Kind == kReal) = false from beq_eq_false_iff_ne.2 h3]
  by_cases h4 : L t.Kind = kText
  · rw [if_pos h4, show (L t.Kind == kText) = true from beq_iff_eq.2 h4]
    simp only [cond]
    rw [Tok.run_eq Tok.isText_eq _ (by omega)]
    simp only [Option.bind_some]
    congr 1
    rw [Bool.eq_iff_iff, beq_iff_eq, beq_iff_eq]; omega
  rw [if_neg h4, show (L t.Kind == kText) = false from beq_eq_false_iff_ne.2 h4]
  by_cases h5 : L t.Kind = kOp
  · rw [if_pos h5, show (L t.Kind == kOp) = true from beq_iff_eq.2 h5]
    simp only [cond]
    rw [Tok.signs_eq, Option.bind_some, Tok.Valid_1_eq _ _ (by decide)]
    simp only [Option.bind_some]
    cases decide (L t.Text ∈ Go.Q.signs) with
    | true => simp
    | false =>
      simp only [Bool.false_or]
      rw [Tok.words_eq, Option.bind_some, chk_pos (by decide)]
      rw [show ((BL Go.Q.words).drop 0).take ((4 : Int).toNat - 0) = BL (Go.Q.words.take 4) from rfl, Tok.Valid_1_eq _ _ (by decide)]
      rfl
  rw [if_neg h5, show (L t.Kind == kOp) = false from beq_eq_false_iff_ne.2 h5]
  by_cases h6 : L t.Kind = kLog
  · rw [if_pos h6, show (L t.Kind == kLog) = true from beq_iff_eq.2 h6]
    simp only [cond]
    rw [Tok.words_eq, Option.bind_some, chk_pos (by decide)]
    rw [show ((BL Go.Q.words).drop (4 : Int).toNat).take ((BL Go.Q.words).length - (4 : Int).toNat) = BL (Go.Q.words.drop 4) from rfl, Tok.Valid_1_eq _ _ (by decide)]
    rfl
  rw [if_neg h6, show (L t.Kind == kLog) = false from beq_eq_false_iff_ne.2 h6]
  rfl

/-! quoted -/

def nI (l : BS) : List Int := l.map fun c => (c.toNat : Int)
theorem nI_len (l : BS) : (nI l).length = l.length := by simp [nI]

theorem quoted_l0 (l : BS) (hl : l.length < 2 ^ 40) : ∀ k (n : Nat) (out : BS), l.length - n ≤ k → n ≤ l.length → QInv l out n → Tok.quoted.l0 (B l) ((l.getD 0 0).toNat : Int) (nI out) n = some (B (Go.Q.quoted l).1, ((Go.Q.quoted l).2 : Int)) := by
  have hsz : (B l).size = l.length := rfl
  have hbt : ∀ n : Nat, bt (B l) n = ((l.getD n 0).toNat : Int) := fun n => rfl
  intro k
  induction k with
  | zero =>
    intro n out hn hle hq
    rw [Tok.quoted.l0_eq, Tok.quoted.s0]
    simp only [letk]
    rw [decide_eq_false (by omega : ¬ (n : Int) < ((B l).size : Int))]
    simp only [cond, Option.bind_some, Sum.elim_inr]
    rw [hq.none (by omega)]
    rfl
  | succ k ih =>
    intro n out hn hle hq
    have hq1 := hq.1
    have hq2 := hq.2.1
    have hno : (nI out).length = out.length := nI_len out
    rw [Tok.quoted.l0_eq, Tok.quoted.s0]
    simp only [letk]
    by_cases hlt : n < l.length
    · rw [decide_eq_true (by omega : (n : Int) < ((B l).size : Int))]
      simp only [cond]
      rw [chk_pos (by omega), chk_pos (by omega), hbt, bne_u8]
      have push : ∀ c : UInt8, nI out ++ [(c.toNat : Int)] = nI (out ++ [c]) := fun c => by simp [nI]
      by_cases hc : l.getD n 0 = l.getD 0 0
      · rw [show (l.getD n 0 != l.getD 0 0) = false by rw [hc]; exact bne_self_eq_false _]
        simp only []
        rw [w64n (by omega) (by omega)]
        -- a quote
        have twice : n + 1 < l.length → l.getD (n + 1) 0 = l.getD 0 0 → (Tok.quoted.j0 (B l) ((l.getD 0 0).toNat : Int) n (nI out)).bind (Sum.elim (fun v : List Int × Int => Tok.quoted.l0 (B l) ((l.getD 0 0).toNat : Int) v.1 v.2) some) = some (B (Go.Q.quoted l).1, ((Go.Q.quoted l).2 : Int)) := fun h1 h2 => by
          unfold Tok.quoted.j0
          rw [chk_pos (by simp only [List.length_cons, List.length_nil, Nat.mul_one]; omega)]
          simp only [letk, Option.bind_some, Sum.elim_inl]
          rw [w64n (x := (n : Int) + 1) (by omega) (by omega), w64n (by omega) (by omega), push, show ((n : Int) + 1 + 1) = ((n + 1 + 1 : Nat) : Int) by omega]
          exact ih (n + 1 + 1) _ (by omega) (by omega) (hq.twice h1 hc h2)
        have ends : (n + 1 = l.length ∨ ¬ l.getD (n + 1) 0 = l.getD 0 0) → (Tok.quoted.j1 (B l) ((l.getD 0 0).toNat : Int) n (nI out) true).bind (Sum.elim (fun v : List Int × Int => Tok.quoted.l0 (B l) ((l.getD 0 0).toNat : Int) v.1 v.2) some) = some (B (Go.Q.quoted l).1, ((Go.Q.quoted l).2 : Int)) := fun h => by
          unfold Tok.quoted.j1
          simp only [letk, cond, Option.bind_some, Sum.elim_inr]
          rw [w64n (by omega) (by omega), hq.ends hlt hc h]
          unfold nI
          rw [ofInts_nat]
          simp
        by_cases he : n + 1 = l.length
        · rw [show ((n : Int) + 1 == ((B l).size : Int)) = true from beq_iff_eq.2 (by omega)]
          exact ends (.inl he)
        · rw [show ((n : Int) + 1 == ((B l).size : Int)) = false from beq_eq_false_iff_ne.2 (by omega)]
          simp only []
          rw [chk_pos (by omega), show ((n : Int) + 1) = ((n + 1 : Nat) : Int) by omega, hbt, bne_u8]
          by_cases h2 : l.getD (n + 1) 0 = l.getD 0 0
          · rw [show (l.getD (n + 1) 0 != l.getD 0 0) = false by simp only [h2, bne_self_eq_false]]
            have := twice (by omega) h2
            unfold Tok.quoted.j1
            exact this
          · rw [show (l.getD (n + 1) 0 != l.getD 0 0) = true from bne_iff_ne.2 h2]
            exact ends (.inr h2)
      · rw [show (l.getD n 0 != l.getD 0 0) = true from bne_iff_ne.2 hc]
        simp only []
        rw [chk_pos (by simp only [List.length_cons, List.length_nil, Nat.mul_one]; omega)]
        simp only [Option.bind_some, Sum.elim_inl]
        rw [w64n (by omega) (by omega), push, show ((n : Int) + 1) = ((n + 1 : Nat) : Int) by omega]
        exact ih (n + 1) _ (by omega) (by omega) (hq.other hlt hc)
    · rw [decide_eq_false (by omega : ¬ (n : Int) < ((B l).size : Int))]
      simp only [cond, Option.bind_some, Sum.elim_inr]
      rw [hq.none (by omega)]
      rfl

theorem Tok.quoted_eq (s : ByteArray) (hs : s.size < 2 ^ 40) (h0 : 0 < s.size) : Tok.quoted s = some (B (Go.Q.quoted (L s)).1, ((Go.Q.quoted (L s)).2 : Int)) := by
  have hl := L_len s
  unfold Tok.quoted
  rw [chk_pos ⟨by omega, by omega⟩]
  simp only [letk]
  have := quoted_l0 (L s) (by omega) (L s).length 1 [] (by omega) (by omega) (QInv.start _)
  rw [B_L] at this
  exact this
end Go.Q
