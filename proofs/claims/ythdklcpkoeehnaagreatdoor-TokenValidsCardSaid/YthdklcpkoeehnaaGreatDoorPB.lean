import Derived.Test.YthdklcpkoeehnaaGreatDoorPA
import Derived.Test.YthdklcpkoeehnaaGreatDoorGL1
namespace Go.Q
open Go Go.Proofs

theorem Tok.isInt_eq (s : ByteArray) (hs : s.size < 2 ^ 60) : Tok.isInt s = some (Go.Q.isInt (L s)) := by
  have hl := L_len s
  unfold Tok.isInt Go.Q.isInt
  simp only [letk, ge_iff_le]
  rw [hl]
  by_cases h1 : 1 ≤ s.size
  · rw [decide_eq_true (by omega : (1 : Int) ≤ s.size), decide_eq_true h1]
    simp only [cond]
    by_cases h2 : s.size ≤ 10
    · rw [decide_eq_true (by omega : (s.size : Int) ≤ 10), decide_eq_true h2, Tok.run_eq Tok.isDigit_eq _ (by omega)]
      simp only [Option.bind_some, Bool.true_and]
      congr 1
      rw [Bool.eq_iff_iff, beq_iff_eq, beq_iff_eq]; omega
    · rw [decide_eq_false (by omega : ¬ (s.size : Int) ≤ 10), decide_eq_false h2]
      simp
  · rw [decide_eq_false (by omega : ¬ (1 : Int) ≤ s.size), decide_eq_false h1]
    simp

theorem Tok.IsName_eq (s : ByteArray) (hs : s.size < 2 ^ 60) : Tok.IsName s = some (Go.Q.isName (L s)) := by
  have hl := L_len s
  unfold Tok.IsName Go.Q.isName
  simp only [letk, eqL, L_e]
  by_cases hne : L s = []
  · simp [hne]
  · have h0 : 0 < s.size := by rw [← hl]; exact List.length_pos_iff.2 hne
    rw [show (L s == []) = false from beq_eq_false_iff_ne.2 hne, decide_eq_true hne, hl]
    simp only [Bool.not_false, cond, Bool.true_and]
    by_cases h2 : s.size ≤ 12
    · rw [decide_eq_true (by omega : (s.size : Int) ≤ 12), decide_eq_true h2]
      simp only [Bool.true_and]
      rw [chk_pos ⟨by omega, by omega⟩, Tok.isLetter_eq, bt0]
      simp only [Option.bind_some]
      cases pLetter (((L s).getD 0 0).toNat : Int) with
      | false => simp
      | true =>
        simp only [Bool.true_and]
        rw [Tok.run_eq Tok.isPart_eq _ (by omega)]
        simp only [Option.bind_some]
        have e : (((preL pPart (L s) : Nat) : Int) == (s.size : Int)) = (preL pPart (L s) == s.size) := by
          rw [Bool.eq_iff_iff, beq_iff_eq, beq_iff_eq]; omega
        rw [e]
        cases preL pPart (L s) == s.size with
        | false => simp
        | true =>
          simp only [Bool.true_and]
          rw [Tok.small_eq _ (by omega)]
          simp only [Option.bind_some, L_B]
    · rw [decide_eq_false (by omega : ¬ (s.size : Int) ≤ 12), decide_eq_false h2]
      simp

theorem Tok.Valid_1_eq (ws : List BS) (t : api.Token) (hw : ws.length < 2 ^ 62) : Tok.Valid_1 (BL ws) t = some (decide (L t.Text ∈ ws)) := by
  unfold Tok.Valid_1
  rw [contains_eq _ _ hw]
  rfl

theorem Tok.Valid_eq (t : api.Token) (hs : t.Text.size < 2 ^ 31) : Tok.Valid t = some (Go.Q.valid (L t.Kind) (L t.Text)) := by
  have hl := L_len t.Text
  unfold Tok.Valid Go.Q.valid
  simp only [letk, eqL]
  rw [show L (⟨#[110, 97, 109, 101]⟩ : ByteArray) = kName from rfl, show L (⟨#[105, 110, 116]⟩ : ByteArray) = kInt from rfl, show L (⟨#[114, 101, 97, 108]⟩ : ByteArray) = kReal from rfl, show L (⟨#[116, 101, 120, 116]⟩ : ByteArray) = kText from rfl, show L (⟨#[111, 112]⟩ : ByteArray) = kOp from rfl, show L (⟨#[108, 111, 103, 105, 99, 97, 108]⟩ : ByteArray) = kLog from rfl]
  by_cases h1 : L t.Kind = kName
  · rw [if_pos h1, show (L t.Kind == kName) = true from beq_iff_eq.2 h1]
    simp only [cond]
    rw [Tok.IsName_eq _ (by omega)]; rfl
  rw [if_neg h1, show (L t.Kind == kName) = false from beq_eq_false_iff_ne.2 h1]
  by_cases h2 : L t.Kind = kInt
  · rw [if_pos h2, show (L t.Kind == kInt) = true from beq_iff_eq.2 h2]
    simp only [cond]
    rw [Tok.isInt_eq _ (by omega)]; rfl
  rw [if_neg h2, show (L t.Kind == kInt) = false from beq_eq_false_iff_ne.2 h2]
  by_cases h3 : L t.Kind = kReal
  · rw [if_pos h3, show (L t.Kind == kReal) = true from beq_iff_eq.2 h3]
    simp only [cond]
    rw [Tok.isReal_eq _ (by omega)]; rfl
  rw [if_neg h3, show (L t.Kind == kReal) = false from beq_eq_false_iff_ne.2 h3]
  by_cases h4 : L t.Kind = kText
  · rw [if_pos h4, show (L t.Kind == kText) = true from beq_iff_eq.2 h4]
    simp only [cond]
    rw [Tok.run_eq Tok.isText_eq _ (by omega)]
    simp only [Option.bind_some]
    congr 1
    rw [Bool.eq_iff_iff, beq_iff_eq, beq_iff_eq]; omega
  rw [if_neg h4, show (L t.Kind == kText) = false from beq_eq_false_iff_ne.2 h4]
  by_cases h5 : L t.Kind = kOp
  · rw [if_pos h5, show (L t.Kind == kOp) = true from beq_iff_eq.2 h5]
    simp only [cond]
    rw [Tok.signs_eq, Option.bind_some, Tok.Valid_1_eq _ _ (by decide)]
    simp only [Option.bind_some]
    cases decide (L t.Text ∈ Go.Q.signs) with
    | true => simp
    | false =>
      simp only [Bool.false_or]
      rw [Tok.words_eq, Option.bind_some, chk_pos (by decide)]
      rw [show ((BL Go.Q.words).drop 0).take ((4 : Int).toNat - 0) = BL (Go.Q.words.take 4) from rfl, Tok.Valid_1_eq _ _ (by decide)]
      rfl
  rw [if_neg h5, show (L t.Kind == kOp) = false from beq_eq_false_iff_ne.2 h5]
  by_cases h6 : L t.Kind = kLog
  · rw [if_pos h6, show (L t.Kind == kLog) = true from beq_iff_eq.2 h6]
    simp only [cond]
    rw [Tok.words_eq, Option.bind_some, chk_pos (by decide)]
    rw [show ((BL Go.Q.words).drop (4 : Int).toNat).take ((BL Go.Q.words).length - (4 : Int).toNat) = BL (Go.Q.words.drop 4) from rfl, Tok.Valid_1_eq _ _ (by decide)]
    rfl
  rw [if_neg h6, show (L t.Kind == kLog) = false from beq_eq_false_iff_ne.2 h6]
  rfl

/-! quoted -/

def nI (l : BS) : List Int := l.map fun c => (c.toNat : Int)
theorem nI_len (l : BS) : (nI l).length = l.length := by simp [nI]

theorem quoted_l0 (l : BS) (hl : l.length < 2 ^ 40) : ∀ k (n : Nat) (out : BS), l.length - n ≤ k → n ≤ l.length → QInv l out n → Tok.quoted.l0 (B l) ((l.getD 0 0).toNat : Int) (nI out) n = some (B (Go.Q.quoted l).1, ((Go.Q.quoted l).2 : Int)) := by
  have hsz : (B l).size = l.length := rfl
  have hbt : ∀ n : Nat, bt (B l) n = ((l.getD n 0).toNat : Int) := fun n => rfl
  intro k
  induction k with
  | zero =>
    intro n out hn hle hq
    rw [Tok.quoted.l0_eq, Tok.quoted.s0]
    simp only [letk]
    rw [decide_eq_false (by omega : ¬ (n : Int) < ((B l).size : Int))]
    simp only [cond, Option.bind_some, Sum.elim_inr]
    rw [hq.none (by omega)]
    rfl
  | succ k ih =>
    intro n out hn hle hq
    have hq1 := hq.1
    have hq2 := hq.2.1
    have hno : (nI out).length = out.length := nI_len out
    rw [Tok.quoted.l0_eq, Tok.quoted.s0]
    simp only [letk]
    by_cases hlt : n < l.length
    · rw [decide_eq_true (by omega : (n : Int) < ((B l).size : Int))]
      simp only [cond]
      rw [chk_pos (by omega), chk_pos (by omega), hbt, bne_u8]
      have push : ∀ c : UInt8, nI out ++ [(c.toNat : Int)] = nI (out ++ [c]) := fun c => by simp [nI]
      by_cases hc : l.getD n 0 = l.getD 0 0
      · rw [show (l.getD n 0 != l.getD 0 0) = false by rw [hc]; exact bne_self_eq_false _]
        simp only []
        rw [w64n (by omega) (by omega)]
        -- a quote
        have twice : n + 1 < l.length → l.getD (n + 1) 0 = l.getD 0 0 → (Tok.quoted.j0 (B l) ((l.getD 0 0).toNat : Int) n (nI out)).bind (Sum.elim (fun v : List Int × Int => Tok.quoted.l0 (B l) ((l.getD 0 0).toNat : Int) v.1 v.2) some) = some (B (Go.Q.quoted l).1, ((Go.Q.quoted l).2 : Int)) := fun h1 h2 => by
          unfold Tok.quoted.j0
          rw [chk_pos (by simp only [List.length_cons, List.length_nil, Nat.mul_one]; omega)]
          simp only [letk, Option.bind_some, Sum.elim_inl]
          rw [w64n (x := (n : Int) + 1) (by omega) (by omega), w64n (by omega) (by omega), push, show ((n : Int) + 1 + 1) = ((n + 1 + 1 : Nat) : Int) by omega]
          exact ih (n + 1 + 1) _ (by omega) (by omega) (hq.twice h1 hc h2)
        have ends : (n + 1 = l.length ∨ ¬ l.getD (n + 1) 0 = l.getD 0 0) → (Tok.quoted.j1 (B l) ((l.getD 0 0).toNat : Int) n (nI out) true).bind (Sum.elim (fun v : List Int × Int => Tok.quoted.l0 (B l) ((l.getD 0 0).toNat : Int) v.1 v.2) some) = some (B (Go.Q.quoted l).1, ((Go.Q.quoted l).2 : Int)) := fun h => by
          unfold Tok.quoted.j1
          simp only [letk, cond, Option.bind_some, Sum.elim_inr]
          rw [w64n (by omega) (by omega), hq.ends hlt hc h]
          unfold nI
          rw [ofInts_nat]
          simp
        by_cases he : n + 1 = l.length
        · rw [show ((n : Int) + 1 == ((B l).size : Int)) = true from beq_iff_eq.2 (by omega)]
          exact ends (.inl he)
        · rw [show ((n : Int) + 1 == ((B l).size : Int)) = false from beq_eq_false_iff_ne.2 (by omega)]
          simp only []
          rw [chk_pos (by omega), show ((n : Int) + 1) = ((n + 1 : Nat) : Int) by omega, hbt, bne_u8]
          by_cases h2 : l.getD (n + 1) 0 = l.getD 0 0
          · rw [show (l.getD (n + 1) 0 != l.getD 0 0) = false by simp only [h2, bne_self_eq_false]]
            have := twice (by omega) h2
            unfold Tok.quoted.j1
            exact this
          · rw [show (l.getD (n + 1) 0 != l.getD 0 0) = true from bne_iff_ne.2 h2]
            exact ends (.inr h2)
      · rw [show (l.getD n 0 != l.getD 0 0) = true from bne_iff_ne.2 hc]
        simp only []
        rw [chk_pos (by simp only [List.length_cons, List.length_nil, Nat.mul_one]; omega)]
        simp only [Option.bind_some, Sum.elim_inl]
        rw [w64n (by omega) (by omega), push, show ((n : Int) + 1) = ((n + 1 : Nat) : Int) by omega]
        exact ih (n + 1) _ (by omega) (by omega) (hq.other hlt hc)
    · rw [decide_eq_false (by omega : ¬ (n : Int) < ((B l).size : Int))]
      simp only [cond, Option.bind_some, Sum.elim_inr]
      rw [hq.none (by omega)]
      rfl

theorem Tok.quoted_eq (s : ByteArray) (hs : s.size < 2 ^ 40) (h0 : 0 < s.size) : Tok.quoted s = some (B (Go.Q.quoted (L s)).1, ((Go.Q.quoted (L s)).2 : Int)) := by
  have hl := L_len s
  unfold Tok.quoted
  rw [chk_pos ⟨by omega, by omega⟩]
  simp only [letk]
  have := quoted_l0 (L s) (by omega) (L s).length 1 [] (by omega) (by omega) (QInv.start _)
  rw [B_L] at this
  exact this
end Go.Q
namespace Go.Q
open Go Go.Proofs
set_option maxRecDepth 10000

def toTok (t : BS × BS) : api.Token := ⟨B t.1, B t.2⟩

theorem first_j0 (k t : BS) (n : Nat) (ht : t.length < 2 ^ 31) : Tok.first.j0 (B k) (B t) n = some (toTok (k, t), ((if valid k t then n else 0 : Nat) : Int)) := by
  unfold Tok.first.j0
  rw [Tok.Valid_eq _ (by rw [size_B]; exact ht)]
  simp only [Option.bind_some, letk, L_B]
  cases valid k t <;> rfl

theorem first_l0 (s : ByteArray) (hs : s.size < 2 ^ 60) : ∀ k n : Nat, n + k = signs.length → (∀ j (h1 : j < signs.length), j < n → List.isPrefixOf signs[j] (L s) = false) →
    Tok.first.l0 s (BL signs) signs.length (B []) (B []) n = some (match signs.find? (·.isPrefixOf (L s)) with | some o => (toTok (kOp, o), (o.length : Int)) | none => (toTok ([], []), 0)) := by
  intro k
  induction k with
  | zero =>
    intro n hn hj
    rw [Tok.first.l0_eq, Tok.first.s0]
    simp only [letk]
    rw [decide_eq_false (by omega : ¬ (n : Int) < (signs.length : Int))]
    simp only [cond, Option.bind_some, Sum.elim_inr]
    rw [find_no (p := fun o => List.isPrefixOf o (L s)) hj (by omega)]
    rfl
  | succ k ih =>
    intro n hn hj
    have hlt : n < signs.length := by omega
    have h21 : signs.length = 21 := rfl
    rw [Tok.first.l0_eq, Tok.first.s0]
    simp only [letk]
    rw [decide_eq_true (by omega : (n : Int) < (signs.length : Int))]
    simp only [cond]
    have hsz : signs[n].length < 2 ^ 60 := by
      have : ∀ j (h : j < signs.length), signs[j].length < 2 ^ 60 := by decide
      exact this n hlt
    rw [chk_pos (by omega), Int.toNat_natCast, BL_get hlt, Option.bind_some, hasPrefix_eq _ _ (by omega) (by rw [size_B]; omega)]
    simp only [Option.bind_some, L_B]
    cases hp : List.isPrefixOf signs[n] (L s) with
    | true =>
      simp only [Option.bind_some, Sum.elim_inr]
      rw [find_at (p := fun o => List.isPrefixOf o (L s)) hj hlt hp]
      rfl
    | false =>
      simp only [Option.bind_some, Sum.elim_inl]
      rw [w64n (by omega) (by omega)]
      exact ih (n + 1) (by omega) (no_succ (p := fun o => List.isPrefixOf o (L s)) hj hlt hp)

def fstO (p : (BS × BS) × Nat) : api.Token × Int := (toTok p.1, (p.2 : Int))

theorem first_j2 (u : BS) (b : Bool) (hu : u.length < 2 ^ 31) : Tok.first.j2 (B u) (B []) (B []) b = some (fstO (if b then (numT u, if numN u < u.length ∧ pPart ((u.getD (numN u) 0).toNat : Int) = true then 0 else if valid (numT u).1 (numT u).2 then numN u else 0)
    else match signs.find? (·.isPrefixOf u) with | some o => ((kOp, o), o.length) | none => (([], []), 0))) := by
  have hsz : (B u).size = u.length := rfl
  unfold Tok.first.j2
  cases b with
  | false =>
    simp only [cond, Bool.false_eq_true, if_false]
    rw [Tok.signs_eq]
    simp only [Option.bind_some, letk, BL_len]
    have := first_l0 (B u) (by omega) signs.length 0 (by omega) (fun j _ h => by omega)
    rw [L_B] at this
    rw [show ((0 : Nat) : Int) = 0 from rfl] at this
    rw [this]
    cases signs.find? (·.isPrefixOf u) <;> rfl
  | true =>
    simp only [cond, if_true]
    have hN := numN_leL u
    rw [Tok.number_eq _ (by omega), L_B]
    simp only [Option.bind_some, letk]
    rw [chk_pos (by omega), Int.toNat_natCast, ext_T1, Tok.small_eq _ (by rw [size_B, List.length_take]; omega), L_B]
    simp only [Option.bind_some]
    have hlen : (Go.Q.small (u.take (numN u))).length < 2 ^ 31 := by rw [Go.Q.small, List.length_map, List.length_take]; omega
    have j3 : ∀ k : BS, numT u = (k, Go.Q.small (u.take (numN u))) → Tok.first.j3 (B u) (numN u) (B k) (B (Go.Q.small (u.take (numN u)))) = some (fstO (numT u, if numN u < u.length ∧ pPart ((u.getD (numN u) 0).toNat : Int) = true then 0 else if valid (numT u).1 (numT u).2 then numN u else 0)) := by
      intro k hk
      rw [hk]
      unfold Tok.first.j3 Tok.first.j4
      simp only [letk]
      by_cases h1 : numN u < u.length
      · rw [decide_eq_true (by omega : (numN u : Int) < ((B u).size : Int))]
        simp only [cond]
        rw [chk_pos (by omega), show bt (B u) (numN u : Nat) = ((u.getD (numN u) 0).toNat : Int) from rfl, Tok.isPart_eq]
        simp only [Option.bind_some]
        cases hp : pPart ((u.getD (numN u) 0).toNat : Int) with
        | true => simp only [h1, and_self, if_true]; rfl
        | false =>
          simp only [Bool.false_eq_true, and_false, if_false]
          rw [first_j0 _ _ _ hlen]; rfl
      · rw [decide_eq_false (by omega : ¬ (numN u : Int) < ((B u).size : Int))]
        simp only [cond, h1, false_and, if_false]
        rw [first_j0 _ _ _ hlen]; rfl
    unfold numT at j3 ⊢
    cases hR : numR u with
    | true => rw [hR] at j3; exact j3 kReal rfl
    | false => rw [hR] at j3; exact j3 kInt rfl

theorem Tok.first_eq (s : ByteArray) (hs : s.size < 2 ^ 31) (h0 : 0 < s.size) : Tok.first s = some (fstO (firstSpec (L s))) := by
  obtain ⟨u, rfl⟩ : ∃ u, s = B u := ⟨L s, (B_L s).symm⟩
  rw [L_B]
  have hsz : (B u).size = u.length := rfl
  unfold Tok.first firstSpec
  rw [chk_pos (by omega)]
  simp only [letk]
  rw [Tok.isLetter_eq, bt0, L_B]
  simp only [Option.bind_some]
  cases hc : pLetter ((u.getD 0 0).toNat : Int) with
  | true =>
    have hle := preL_le pPart u
    simp only [if_true]
    rw [Tok.run_eq Tok.isPart_eq _ (by omega), L_B]
    simp only [Option.bind_some]
    rw [chk_pos (by omega), Int.toNat_natCast, ext_T1, Tok.small_eq _ (by rw [size_B, List.length_take]; omega), L_B]
    simp only [Option.bind_some]
    exact first_j0 kName _ _ (by rw [Go.Q.small, List.length_map, List.length_take]; omega)
  | false =>
    simp only [Bool.false_eq_true, if_false]
    have quot : (u.getD 0 0 = 39 ∨ u.getD 0 0 = 34) → Tok.first.j1 (B u) ((u.getD 0 0).toNat : Int) true = some (fstO ((kText, (Go.Q.quoted u).1), (Go.Q.quoted u).2)) := fun _ => by
      unfold Tok.first.j1
      simp only [cond]
      rw [Tok.quoted_eq _ (by omega) h0, L_B]
      rfl
    rw [(u8n _).2.2.2.2.1, (u8n _).2.2.2.2.2]
    cases h39 : u.getD 0 0 == 39 with
    | true =>
      have h : u.getD 0 0 = 39 := beq_iff_eq.1 h39
      simp only [cond]
      rw [if_pos (.inl h)]
      exact quot (.inl h)
    | false =>
      cases h34 : u.getD 0 0 == 34 with
      | true =>
        have h : u.getD 0 0 = 34 := beq_iff_eq.1 h34
        simp only [cond]
        rw [if_pos (.inr h)]
        exact quot (.inr h)
      | false =>
        have hn : ¬ (u.getD 0 0 = 39 ∨ u.getD 0 0 = 34) := by
          rintro (h | h)
          · exact beq_eq_false_iff_ne.1 h39 h
          · exact beq_eq_false_iff_ne.1 h34 h
        simp only [cond]
        rw [if_neg hn]
        unfold Tok.first.j1
        simp only [cond]
        rw [Tok.word_eq _ (by omega), L_B]
        simp only [Option.bind_some, letk, eqL, L_B, L_e]
        by_cases hw : wordOf u = []
        · rw [show (wordOf u == []) = true from beq_iff_eq.2 hw, if_neg (by simp [hw])]
          simp only [Bool.not_true]
          rw [Tok.isDigit_eq]
          simp only [Option.bind_some]
          have fin := fun b => first_j2 u b (by omega)
          have e46 := (u8n (u.getD 0 0)).2.2.1
          by_cases hd : pDigit ((u.getD 0 0).toNat : Int) = true
          · rw [hd, if_pos (.inl rfl)]
            exact fin true
          · have hd' : pDigit ((u.getD 0 0).toNat : Int) = false := by simpa using hd
            rw [hd']
            simp only [Bool.false_eq_true, false_or]
            rw [e46]
            by_cases h46 : u.getD 0 0 = 46
            · rw [show (u.getD 0 0 == 46) = true from beq_iff_eq.2 h46]
              simp only [gt_iff_lt]
              by_cases h1 : 1 < u.length
              · rw [decide_eq_true (by omega : (1 : Int) < ((B u).size : Int))]
                simp only []
                rw [chk_pos (by omega), show bt (B u) 1 = ((u.getD 1 0).toNat : Int) from rfl, Tok.isDigit_eq]
                simp only [Option.bind_some]
                have := fin (pDigit ((u.getD 1 0).toNat : Int))
                simp only [h46, h1, true_and] 
                exact this
              · rw [decide_eq_false (by omega : ¬ (1 : Int) < ((B u).size : Int)), if_neg (fun h => h1 h.2.1)]
                exact fin false
            · rw [show (u.getD 0 0 == 46) = false from beq_eq_false_iff_ne.2 h46, if_neg (fun h => h46 h.1)]
              exact fin false
        · rw [show (wordOf u == []) = false from beq_eq_false_iff_ne.2 hw, if_pos hw]
          simp only [Bool.not_false]
          rw [Tok.words_eq, Option.bind_some, chk_pos (by decide)]
          rw [show ((BL Go.Q.words).drop (4 : Int).toNat).take ((BL Go.Q.words).length - (4 : Int).toNat) = BL (Go.Q.words.drop 4) from rfl, contains_eq _ _ (by decide), L_B]
          simp only [Option.bind_some]
          by_cases hm : wordOf u ∈ Go.Q.words.drop 4
          · rw [decide_eq_true hm, if_pos hm]; rfl
          · rw [decide_eq_false hm, if_neg hm]; rfl

theorem scan_l0 (l : BS) (hl : l.length < 2 ^ 31) (hp : ¬ preL pText l < l.length) : ∀ k (n : Nat) (out : List (BS × BS)), l.length - n ≤ k → SInv l out n →
    Tok.Scan.l0 (B l) (out.map toTok) n = some ((scanSpec l).1.map toTok, ((scanSpec l).2.1 : Int), ((scanSpec l).2.2 : Int)) := by
  have hsz : (B l).size = l.length := rfl
  intro k
  induction k with
  | zero =>
    intro n out hn hq
    have hq1 := hq.2.1
    rw [Tok.Scan.l0_eq, Tok.Scan.s0]
    simp only [letk]
    rw [decide_eq_false (by omega : ¬ (n : Int) < ((B l).size : Int))]
    simp only [cond, Option.bind_some, Sum.elim_inr]
    rw [hq.all hp (by omega)]
    rfl
  | succ k ih =>
    intro n out hn hq
    have hq1 := hq.1
    have hq2 := hq.2.1
    rw [Tok.Scan.l0_eq, Tok.Scan.s0]
    simp only [letk]
    by_cases hlt : n < l.length
    · rw [decide_eq_true (by omega : (n : Int) < ((B l).size : Int))]
      simp only [cond]
      have hd : l.getD n 0 = (l.drop n).getD 0 0 := by rw [getD_drop]; simp
      rw [chk_pos (by omega), chk_pos (by omega), show bt (B l) n = ((l.getD n 0).toNat : Int) from rfl, (u8n _).2.2.2.1, hd]
      cases h32 : (l.drop n).getD 0 0 == 32 with
      | true =>
        simp only [Option.bind_some, Sum.elim_inl]
        rw [w64n (by omega) (by omega), show ((n : Int) + 1) = ((n + 1 : Nat) : Int) by omega]
        exact ih (n + 1) out (by omega) (hq.blank hlt (beq_iff_eq.1 h32))
      | false =>
        have hb : ¬ (l.drop n).getD 0 0 = 32 := beq_eq_false_iff_ne.1 h32
        have hnl : (l.drop n).length = l.length - n := List.length_drop
        have hle := first_le (l.drop n) (drop_ne hlt)
        have htx := first_text (l.drop n) (drop_ne hlt)
        simp only []
        rw [Int.toNat_natCast, ext_D1, Tok.first_eq _ (by rw [size_B]; omega) (by rw [size_B]; omega), L_B]
        simp only [fstO, Option.bind_some]
        by_cases h0 : (firstSpec (l.drop n)).2 = 0
        · rw [show (((firstSpec (l.drop n)).2 : Int) == 0) = true from beq_iff_eq.2 (by omega)]
          simp only [Option.bind_some, Sum.elim_inr]
          rw [hq.bad hp hlt hb (.inl h0)]
          rfl
        · rw [show (((firstSpec (l.drop n)).2 : Int) == 0) = false from beq_eq_false_iff_ne.2 (by omega)]
          simp only []
          rw [Tok.Valid_eq _ (by show (B (firstSpec (l.drop n)).1.2).size < _; rw [size_B]; omega)]
          simp only [Option.bind_some]
          rw [show L (toTok (firstSpec (l.drop n)).1).Kind = (firstSpec (l.drop n)).1.1 from rfl, show L (toTok (firstSpec (l.drop n)).1).Text = (firstSpec (l.drop n)).1.2 from rfl]
          cases hv : valid (firstSpec (l.drop n)).1.1 (firstSpec (l.drop n)).1.2 with
          | false =>
            simp only [Bool.not_false, Option.bind_some, Sum.elim_inr]
            rw [hq.bad hp hlt hb (.inr hv)]
            rfl
          | true =>
            simp only [Bool.not_true]
            unfold Tok.Scan.j0
            rw [chk_pos (by simp only [List.length_map, List.length_cons, List.length_nil]; omega)]
            simp only [letk, Option.bind_some, Sum.elim_inl]
            rw [w64n (by omega) (by omega), show ((n : Int) + ((firstSpec (l.drop n)).2 : Int)) = ((n + (firstSpec (l.drop n)).2 : Nat) : Int) by omega]
            have := ih (n + (firstSpec (l.drop n)).2) (out ++ [(firstSpec (l.drop n)).1]) (by omega) (hq.token hlt hb h0 hv)
            rw [List.map_append] at this
            exact this
    · rw [decide_eq_false (by omega : ¬ (n : Int) < ((B l).size : Int))]
      simp only [cond, Option.bind_some, Sum.elim_inr]
      rw [hq.all hp (by omega)]
      rfl

theorem Tok.Scan_eq (s : ByteArray) (hs : s.size < 2 ^ 31) : Tok.Scan s = some ((scanSpec (L s)).1.map toTok, ((scanSpec (L s)).2.1 : Int), ((scanSpec (L s)).2.2 : Int)) := by
  have hl := L_len s
  unfold Tok.Scan
  rw [Tok.run_eq Tok.isText_eq _ (by omega)]
  simp only [Option.bind_some, letk]
  by_cases h : preL pText (L s) < (L s).length
  · rw [decide_eq_true (by omega : ((preL pText (L s) : Nat) : Int) < (s.size : Int))]
    simp only [cond]
    unfold scanSpec
    rw [if_pos h]
    rfl
  · rw [decide_eq_false (by omega : ¬ ((preL pText (L s) : Nat) : Int) < (s.size : Int))]
    have := scan_l0 (L s) (by omega) h (L s).length 0 [] (by omega) (SInv.start _)
    rw [B_L] at this
    exact this
end Go.Q
namespace Go.Q
open Go Go.Proofs
set_option maxRecDepth 10000

theorem bytes_all (p : UInt8 → Bool) (h : (List.range 256).all (fun n => p (UInt8.ofNat n)) = true) (c : UInt8) : p c = true := by
  simp only [List.all_eq_true, List.mem_range] at h
  have := h c.toNat c.toNat_lt
  simpa using this

theorem low_low (c : UInt8) : low (low c) = low c := by
  have := bytes_all (fun c => low (low c) == low c) (by decide +kernel) c
  exact beq_iff_eq.1 this
theorem low_part (c : UInt8) : pPart ((low c).toNat : Int) = pPart (c.toNat : Int) := by
  have := bytes_all (fun c => pPart ((low c).toNat : Int) == pPart (c.toNat : Int)) (by decide +kernel) c
  exact beq_iff_eq.1 this
theorem low_digit (c : UInt8) : pDigit ((low c).toNat : Int) = pDigit (c.toNat : Int) := by
  have := bytes_all (fun c => pDigit ((low c).toNat : Int) == pDigit (c.toNat : Int)) (by decide +kernel) c
  exact beq_iff_eq.1 this
theorem low_letter (c : UInt8) : pLetter ((low c).toNat : Int) = pLetter (c.toNat : Int) := by
  have := bytes_all (fun c => pLetter ((low c).toNat : Int) == pLetter (c.toNat : Int)) (by decide +kernel) c
  exact beq_iff_eq.1 this
theorem low_exp (c : UInt8) : isExp (low c) = isExp c := by
  have := bytes_all (fun c => isExp (low c) == isExp c) (by decide +kernel) c
  exact beq_iff_eq.1 this
theorem low_sign (c : UInt8) : isSign (low c) = isSign c := by
  have := bytes_all (fun c => isSign (low c) == isSign c) (by decide +kernel) c
  exact beq_iff_eq.1 this
/-- A byte that is no letter is the small one of itself alone. -/
def plainB (x : UInt8) : Bool := !(pLetter (x.toNat : Int)) && (x != 32)
theorem low_plain {x c : UInt8} (h : pLetter (x.toNat : Int) = false) : low c = x ↔ c = x := by
  constructor
  · intro e
    have h2 := bytes_all (fun c => pLetter ((low c).toNat : Int) || low c == c) (by decide +kernel) c
    simp only [Bool.or_eq_true, beq_iff_eq] at h2
    rcases h2 with h2 | h2
    · rw [e, h] at h2; cases h2
    · rw [← h2, e]
  · rintro rfl
    have h2 := bytes_all (fun c => pLetter (c.toNat : Int) || low c == c) (by decide +kernel) c
    simp only [Bool.or_eq_true, beq_iff_eq] at h2
    rcases h2 with h2 | h2
    · rw [h] at h2; cases h2
    · exact h2

def nb (l : BS) : BS := l.takeWhile (· != 32)
def norm (l : BS) : BS := small (nb l)

theorem nb_nil : nb [] = [] := rfl
theorem nb_cons (c : UInt8) (r : BS) : nb (c :: r) = if c = 32 then [] else c :: nb r := by
  unfold nb
  rw [List.takeWhile_cons]
  by_cases h : c = 32 <;> simp [h]
theorem nb_le (l : BS) : (nb l).length ≤ l.length := (List.takeWhile_prefix _).length_le
theorem norm_len (l : BS) : (norm l).length = (nb l).length := by simp [norm, small]
theorem nb_take : ∀ (l : BS) (n : Nat), n ≤ (nb l).length → (nb l).take n = l.take n
  | [], n, _ => rfl
  | c :: r, 0, _ => by simp
  | c :: r, n + 1, h => by
    rw [nb_cons] at h ⊢
    split at h
    · simp at h
    · rename_i hc
      rw [if_neg hc, List.take_succ_cons, List.take_succ_cons, nb_take r n (by simpa using h)]
theorem nb_drop : ∀ (l : BS) (n : Nat), n ≤ (nb l).length → (nb l).drop n = nb (l.drop n)
  | [], n, _ => by simp [nb]
  | c :: r, 0, _ => by simp
  | c :: r, n + 1, h => by
    rw [nb_cons] at h ⊢
    split at h
    · simp at h
    · rename_i hc
      rw [if_neg hc, List.drop_succ_cons, List.drop_succ_cons, nb_drop r n (by simpa using h)]
theorem nb_at : ∀ (l : BS) (n : Nat), n < (nb l).length → (nb l).getD n 0 = l.getD n 0
  | [], n, h => by simp [nb] at h
  | c :: r, n, h => by
    rw [nb_cons] at h ⊢
    split at h
    · simp at h
    · rename_i hc
      rw [if_neg hc]
      cases n with
      | zero => rfl
      | succ n => exact nb_at r n (by simpa using h)
/-- What stands behind the bytes that are no blanks. -/
theorem nb_end : ∀ (l : BS), (nb l).length < l.length → l.getD (nb l).length 0 = 32
  | [], h => by simp at h
  | c :: r, h => by
    rw [nb_cons] at h ⊢
    by_cases hc : c = 32
    · simp [hc]
    · rw [if_neg hc] at h ⊢
      simpa using nb_end r (by simpa using h)

theorem norm_drop (l : BS) (n : Nat) (h : n ≤ (nb l).length) : (norm l).drop n = norm (l.drop n) := by
  unfold norm small
  rw [← List.map_drop, nb_drop l n h]
theorem small_small (l : BS) : small (small l) = small l := by
  unfold small
  rw [List.map_map]
  exact List.map_congr_left (fun c _ => low_low c)
theorem norm_take (l : BS) (n : Nat) (h : n ≤ (nb l).length) : small ((norm l).take n) = small (l.take n) := by
  unfold norm
  rw [show (small (nb l)).take n = small ((nb l).take n) from by unfold small; rw [List.map_take], small_small, nb_take l n h]
theorem norm_at (l : BS) (n : Nat) (h : n < (nb l).length) : (norm l).getD n 0 = low (l.getD n 0) := by
  unfold norm small
  rw [← nb_at l n h]
  simp [List.getD, h]

theorem preL_norm {p : Int → Bool} (hp : ∀ c : UInt8, p ((low c).toNat : Int) = p (c.toNat : Int)) (h32 : p 32 = false) : ∀ l : BS, preL p (norm l) = preL p l
  | [] => rfl
  | c :: r => by
    unfold norm
    rw [nb_cons]
    by_cases hc : c = 32
    · subst hc
      simp only [if_true]
      have : p ((32 : UInt8).toNat : Int) = false := h32
      simp [preL, small, h32]
    · rw [if_neg hc]
      have ih := preL_norm hp h32 r
      unfold norm at ih
      simp only [preL, small, List.map_cons, List.takeWhile_cons, hp c] at ih ⊢
      split
      · simp only [List.length_cons]; exact congrArg (· + 1) ih
      · rfl
theorem preL_nb {p : Int → Bool} (h32 : p 32 = false) : ∀ l : BS, preL p l ≤ (nb l).length
  | [] => by simp [preL]
  | c :: r => by
    have ih := preL_nb h32 r
    rw [nb_cons]
    simp only [preL, List.takeWhile_cons] at ih ⊢
    by_cases hc : c = 32
    · subst hc
      simp [h32]
    · rw [if_neg hc]
      split
      · simp only [List.length_cons]; omega
      · simp

theorem wtest_norm (l w : BS) (hw : ∀ x ∈ w, x ≠ 32) : wtest (norm l) w = wtest l w := by
  unfold wtest
  rw [norm_len]
  have hle := nb_le l
  by_cases h : w.length ≤ (nb l).length
  · rw [decide_eq_true h, decide_eq_true (by omega), norm_take l _ h]
  · rw [decide_eq_false h]
    simp only [Bool.false_and]
    by_cases h2 : w.length ≤ l.length
    · rw [decide_eq_true h2, Bool.true_and]
      symm
      rw [beq_eq_false_iff_ne]
      intro e
      have h3 := nb_end l (by omega)
      have h4 : (small (l.take w.length)).getD (nb l).length 0 = 32 := by
        have hlt : (nb l).length < (l.take w.length).length := by rw [List.length_take]; omega
        have hlt2 : (nb l).length < l.length := by omega
        unfold small
        simp only [List.getD, List.getElem?_map, List.getElem?_eq_getElem hlt, Option.map_some, Option.getD_some, List.getElem_take]
        simp only [List.getD, List.getElem?_eq_getElem hlt2, Option.getD_some] at h3
        rw [h3]; rfl
      rw [e] at h4
      have h5 : (nb l).length < w.length := by omega
      simp only [List.getD, List.getElem?_eq_getElem h5, Option.getD_some] at h4
      exact hw _ (List.getElem_mem h5) h4
    · rw [decide_eq_false h2]; rfl

theorem words_plain : ∀ w ∈ words, ∀ x ∈ w, x ≠ 32 := by decide
theorem find_congr {α : Type} {p q : α → Bool} : ∀ {l : List α}, (∀ x ∈ l, p x = q x) → l.find? p = l.find? q
  | [], _ => rfl
  | a :: l, h => by
    rw [List.find?_cons, List.find?_cons, h a (by simp), find_congr (fun x hx => h x (by simp [hx]))]
theorem wordOf_norm (l : BS) : wordOf (norm l) = wordOf l := by
  unfold wordOf
  rw [find_congr (fun w hw => wtest_norm l w (words_plain w hw))]

theorem norm_nil : norm [] = [] := rfl
theorem norm_blank {l : BS} (h : l = [] ∨ l.getD 0 0 = 32) : norm l = [] := by
  cases l with
  | nil => rfl
  | cons c r =>
    rcases h with h | h
    · cases h
    · have : c = 32 := h
      subst this; rfl
theorem nb_pos {l : BS} (h0 : l ≠ []) (h : l.getD 0 0 ≠ 32) : 0 < (nb l).length := by
  cases l with
  | nil => exact absurd rfl h0
  | cons c r => rw [nb_cons, if_neg (show ¬ c = 32 from h)]; simp
theorem norm_ne {l : BS} (h0 : l ≠ []) (h : l.getD 0 0 ≠ 32) : norm l ≠ [] := by
  intro e
  have := nb_pos h0 h
  rw [← norm_len, e] at this
  simp at this

theorem expo_norm (l : BS) : expo (norm l) = expo l := by
  by_cases hb : l = [] ∨ l.getD 0 0 = 32
  · rw [norm_blank hb]
    rcases hb with rfl | hb
    · rfl
    · unfold expo
      rw [if_pos (.inl rfl), if_pos (.inr (by rw [hb]; rfl))]
  · have h0 : l ≠ [] := fun h => hb (.inl h)
    have h1 : l.getD 0 0 ≠ 32 := fun h => hb (.inr h)
    have hp := nb_pos h0 h1
    have hle := nb_le l
    unfold expo
    rw [norm_at l 0 hp, low_exp]
    simp only [norm_ne h0 h1, h0, false_or]
    have en : expoN (norm l) = expoN l := by
      unfold expoN
      rw [norm_len]
      by_cases h2 : 1 < (nb l).length
      · rw [decide_eq_true h2, decide_eq_true (by omega), norm_at l 1 h2, low_sign]
      · rw [decide_eq_false h2]
        by_cases h3 : 1 < l.length
        · have := nb_end l (by omega)
          rw [show (nb l).length = 1 by omega] at this
          rw [this, decide_eq_true h3]; rfl
        · rw [decide_eq_false h3]; rfl
    rw [en]
    have hen : expoN l ≤ (nb l).length := by
      unfold expoN
      split
      · rename_i h
        simp only [Bool.and_eq_true, decide_eq_true_eq] at h
        rcases Nat.lt_or_ge 1 (nb l).length with h2 | h2
        · omega
        · have := nb_end l (by omega)
          rw [show (nb l).length = 1 by omega] at this
          rw [this] at h; exact absurd h.2 (by decide)
      · omega
    rw [norm_drop l _ hen, preL_norm low_digit (by decide)]

theorem expo_nb (l : BS) : expo l ≤ (nb l).length := by
  have := expo_le (norm l)
  rw [expo_norm, norm_len] at this
  exact this

theorem pointOk_norm (l : BS) : pointOk (norm l) = pointOk l := by
  by_cases hb : l = [] ∨ l.getD 0 0 = 32
  · rw [norm_blank hb]
    rcases hb with rfl | hb
    · rfl
    · unfold pointOk
      rw [hb]
      cases decide (l = []) <;> rfl
  · have h0 : l ≠ [] := fun h => hb (.inl h)
    have h1 : l.getD 0 0 ≠ 32 := fun h => hb (.inr h)
    unfold pointOk
    rw [norm_at l 0 (nb_pos h0 h1), low_letter, low_exp, decide_eq_false h0, decide_eq_false (norm_ne h0 h1)]

theorem low_46 (c : UInt8) : (low c == 46) = (c == 46) := by
  rw [Bool.eq_iff_iff, beq_iff_eq, beq_iff_eq]; exact low_plain (by decide)

theorem hasPoint_norm (l : BS) : hasPoint (norm l) = hasPoint l := by
  unfold hasPoint
  rw [preL_norm low_digit (by decide), norm_len]
  have h1 := preL_nb (p := pDigit) (by decide) l
  have hle := nb_le l
  rcases Nat.lt_or_ge (preL pDigit l) (nb l).length with h | h
  · rw [decide_eq_true h, decide_eq_true (show preL pDigit l < l.length by omega), norm_at l _ h, low_46, norm_drop l _ h1, norm_drop l _ (by omega), wordOf_norm, pointOk_norm]
  · rw [decide_eq_false (by omega : ¬ preL pDigit l < (nb l).length)]
    simp only [Bool.false_and]
    by_cases h2 : preL pDigit l < l.length
    · have := nb_end l (by omega)
      rw [show (nb l).length = preL pDigit l by omega] at this
      rw [this, decide_eq_true h2]; rfl
    · rw [decide_eq_false h2]; rfl

theorem hasPoint_lt {l : BS} (h : hasPoint l = true) : preL pDigit l < (nb l).length := by
  rw [← hasPoint_norm] at h
  unfold hasPoint at h
  simp only [Bool.and_eq_true, decide_eq_true_eq] at h
  rw [preL_norm low_digit (by decide), norm_len] at h
  exact h.1.1.1

theorem pointN_norm (l : BS) : pointN (norm l) = pointN l := by
  unfold pointN
  rw [hasPoint_norm, preL_norm low_digit (by decide)]
  split
  · rename_i h
    have := hasPoint_lt h
    rw [norm_drop l _ (by omega), preL_norm low_digit (by decide)]
  · rfl
theorem pointN_nb (l : BS) : pointN l ≤ (nb l).length := by
  unfold pointN
  split
  · rename_i h
    have h1 := hasPoint_lt h
    have h2 := preL_nb (p := pDigit) (by decide) (l.drop (preL pDigit l + 1))
    rw [← nb_drop l _ (by omega), List.length_drop] at h2
    omega
  · exact preL_nb (by decide) l
theorem numN_norm (l : BS) : numN (norm l) = numN l := by
  unfold numN
  rw [pointN_norm, norm_drop l _ (pointN_nb l), expo_norm]
theorem numN_nb (l : BS) : numN l ≤ (nb l).length := by
  unfold numN
  have h1 := pointN_nb l
  have h2 := expo_nb (l.drop (pointN l))
  rw [← nb_drop l _ h1, List.length_drop] at h2
  omega
theorem numR_norm (l : BS) : numR (norm l) = numR l := by
  unfold numR
  rw [hasPoint_norm, pointN_norm, norm_drop l _ (pointN_nb l), expo_norm]
theorem numT_norm (l : BS) : numT (norm l) = numT l := by
  unfold numT
  rw [numR_norm, numN_norm, norm_take l _ (numN_nb l)]

theorem prefix_norm : ∀ (o l : BS), (∀ x ∈ o, plainB x = true) → List.isPrefixOf o (norm l) = List.isPrefixOf o l
  | [], l, _ => by simp [List.isPrefixOf]
  | x :: o, [], _ => rfl
  | x :: o, c :: r, h => by
    have hx := h x (by simp)
    simp only [plainB, Bool.and_eq_true, Bool.not_eq_true', bne_iff_ne] at hx
    have ih := prefix_norm o r (fun y hy => h y (by simp [hy]))
    unfold norm at ih ⊢
    rw [nb_cons]
    by_cases hc : c = 32
    · subst hc
      have : (x == 32) = false := beq_eq_false_iff_ne.2 hx.2
      simp [small, List.isPrefixOf, this]
    · rw [if_neg hc]
      simp only [small, List.map_cons, List.isPrefixOf] at ih ⊢
      rw [ih]
      congr 1
      rw [Bool.eq_iff_iff, beq_iff_eq, beq_iff_eq, eq_comm, low_plain hx.1, eq_comm]
theorem signs_plain : ∀ o ∈ signs, ∀ x ∈ o, plainB x = true := by decide

/-- A token at the front is found by the bytes up to the next blank, whatever their case. -/
theorem first_norm (l : BS) (h0 : l ≠ []) (h1 : l.getD 0 0 ≠ 32) (hq : ¬ (l.getD 0 0 = 39 ∨ l.getD 0 0 = 34)) : firstSpec (norm l) = firstSpec l := by
  have hp := nb_pos h0 h1
  have hle := nb_le l
  unfold firstSpec
  rw [norm_at l 0 hp, low_letter, low_digit, wordOf_norm, preL_norm low_part (by decide), norm_take l _ (preL_nb (by decide) l), numT_norm, numN_norm]
  rw [find_congr (fun o ho => prefix_norm o l (signs_plain o ho))]
  have e39 : (low (l.getD 0 0) = 39 ∨ low (l.getD 0 0) = 34) ↔ (l.getD 0 0 = 39 ∨ l.getD 0 0 = 34) := or_congr (low_plain (by decide)) (low_plain (by decide))
  have e46 : (low (l.getD 0 0) = 46 ∧ 1 < (norm l).length ∧ pDigit (((norm l).getD 1 0).toNat : Int) = true) ↔ (l.getD 0 0 = 46 ∧ 1 < l.length ∧ pDigit ((l.getD 1 0).toNat : Int) = true) := by
    rw [norm_len]
    refine and_congr (low_plain (by decide)) ?_
    rcases Nat.lt_or_ge 1 (nb l).length with h | h
    · rw [norm_at l 1 h, low_digit]
      exact and_congr ⟨fun _ => by omega, fun _ => h⟩ Iff.rfl
    · constructor
      · intro h2; omega
      · intro h2
        have := nb_end l (by omega)
        rw [show (nb l).length = 1 by omega] at this
        rw [this] at h2; exact absurd h2.2 (by decide)
  have en : (numN l < (norm l).length ∧ pPart (((norm l).getD (numN l) 0).toNat : Int) = true) ↔ (numN l < l.length ∧ pPart ((l.getD (numN l) 0).toNat : Int) = true) := by
    rw [norm_len]
    have h2 := numN_nb l
    rcases Nat.lt_or_ge (numN l) (nb l).length with h | h
    · rw [norm_at l _ h, low_part]
      exact and_congr ⟨fun _ => by omega, fun _ => h⟩ Iff.rfl
    · constructor
      · intro h3; omega
      · intro h3
        have := nb_end l (by omega)
        rw [show (nb l).length = numN l by omega] at this
        rw [this] at h3; exact absurd h3.2 (by decide)
  simp only [e39, e46, en, hq, if_false]
end Go.Q
namespace Go.Q
open Go Go.Proofs
set_option maxRecDepth 10000

/-! lists of tokens -/

theorem tok_beq (x y : BS × BS) : (((toTok x).Kind.toList == (toTok y).Kind.toList) && (((toTok x).Text.toList == (toTok y).Text.toList) && true)) = decide (x = y) := by
  rw [eqL, eqL]
  show ((x.1 == y.1) && ((x.2 == y.2) && true)) = _
  rw [Bool.eq_iff_iff]
  simp [Prod.ext_iff]

theorem same_l0 (xs ys : List (BS × BS)) (hl : xs.length < 2 ^ 62) (he : xs.length = ys.length) : ∀ k n : Nat, n + k = xs.length →
    Slcs.Equal___quadrat_api.Token_quadrat_api.Token_.l0 (xs.map toTok) (ys.map toTok) xs.length n = some (decide (xs.drop n = ys.drop n)) := by
  intro k
  induction k with
  | zero =>
    intro n hn
    rw [Slcs.Equal___quadrat_api.Token_quadrat_api.Token_.l0_eq, Slcs.Equal___quadrat_api.Token_quadrat_api.Token_.s0]
    simp only [letk]
    rw [decide_eq_false (by omega : ¬ (n : Int) < (xs.length : Int)), List.drop_of_length_le (by omega), List.drop_of_length_le (by omega)]
    rfl
  | succ k ih =>
    intro n hn
    have h1 : n < xs.length := by omega
    have h2 : n < ys.length := by omega
    rw [Slcs.Equal___quadrat_api.Token_quadrat_api.Token_.l0_eq, Slcs.Equal___quadrat_api.Token_quadrat_api.Token_.s0]
    simp only [letk]
    rw [decide_eq_true (by omega : (n : Int) < (xs.length : Int))]
    simp only [cond]
    rw [chk_pos (by omega), Int.toNat_natCast, List.getElem?_map, List.getElem?_eq_getElem h1]
    simp only [Option.map_some, Option.bind_some]
    rw [chk_pos (by omega), List.getElem?_map, List.getElem?_eq_getElem h2]
    simp only [Option.map_some, Option.bind_some]
    rw [tok_beq, List.drop_eq_getElem_cons h1, List.drop_eq_getElem_cons h2]
    by_cases h : xs[n] = ys[n]
    · rw [decide_eq_true h]
      simp only [Bool.not_true, Option.bind_some, Sum.elim_inl]
      rw [w64n (by omega) (by omega), show ((n : Int) + 1) = ((n + 1 : Nat) : Int) by omega, ih (n + 1) (by omega), h]
      congr 1
      simp only [List.cons.injEq, true_and]
    · rw [decide_eq_false h]
      simp only [Bool.not_false, Option.bind_some, Sum.elim_inr]
      rw [decide_eq_false (fun e => h (List.cons.inj e).1)]

theorem Tok.Same_eq (xs ys : List (BS × BS)) (hl : xs.length < 2 ^ 62) : Tok.Same (xs.map toTok) (ys.map toTok) = some (decide (xs = ys)) := by
  unfold Tok.Same Slcs.Equal___quadrat_api.Token_quadrat_api.Token_
  simp only [letk, List.length_map]
  by_cases h : xs.length = ys.length
  · rw [show ((xs.length : Int) != (ys.length : Int)) = false by rw [h]; exact bne_self_eq_false _]
    simp only [cond]
    have := same_l0 xs ys hl h xs.length 0 (by omega)
    rw [show ((0 : Nat) : Int) = 0 from rfl] at this
    rw [this]
    rfl
  · rw [show ((xs.length : Int) != (ys.length : Int)) = true from bne_iff_ne.2 (by omega)]
    simp only [cond, Option.bind_some]
    rw [decide_eq_false (fun e => h (by rw [e]))]

theorem Law4.Awake_eq : Law4.Awake = some true := by
  unfold Law4.Awake
  rw [Tok.Scan_eq _ (by decide)]
  have e : scanSpec (L ⟨#[97, 40, 49, 58, 50, 41, 61, 98, 37, 99]⟩) = ([(kName, [97]), (kOp, [40]), (kInt, [49]), (kOp, [58]), (kInt, [50]), (kOp, [41]), (kOp, [61]), (kName, [98]), (kOp, [37]), (kName, [99])], 0, 0) := by decide +kernel
  rw [e]
  simp only [Option.bind_some, letk, List.map_cons, List.map_nil]
  rw [show ((([toTok (kName, [97]), toTok (kOp, [40]), toTok (kInt, [49]), toTok (kOp, [58]), toTok (kInt, [50]), toTok (kOp, [41]), toTok (kOp, [61]), toTok (kName, [98]), toTok (kOp, [37]), toTok (kName, [99])] : List api.Token).length : Int) == 10) = true from rfl]
  simp only [cond]
  rw [show (((0 : Nat) : Int) == 0) = true from rfl]
  simp only []
  rw [chk_pos (by decide), show (3 : Int).toNat = 3 from rfl]
  simp only [List.getElem?_cons_succ, List.getElem?_cons_zero, Option.bind_some, eqL]
  rw [show ((L (toTok (kOp, [58])).Kind == L ⟨#[111, 112]⟩) && ((L (toTok (kOp, [58])).Text == L ⟨#[58]⟩) && true)) = true by decide]
  simp only []
  rw [chk_pos (by decide), show (4 : Int).toNat = 4 from rfl]
  simp only [List.getElem?_cons_succ, List.getElem?_cons_zero, Option.bind_some]
  rw [show (L (toTok (kInt, [50])).Kind == L ⟨#[105, 110, 116]⟩) = true by decide]

/-! two texts with a blank between -/

theorem quo_app (q : UInt8) (hq : q ≠ 32) (b : BS) : ∀ (k : Nat) (r : BS), r.length ≤ k → ∀ p, quo q r = some p → quo q (r ++ 32 :: b) = some p
  | k, [], _, p, h => by simp [quo] at h
  | 0, c :: r, hk, p, h => by simp at hk
  | k + 1, c :: r, hk, p, h => by
    simp only [List.length_cons] at hk
    rw [quo_cons] at h
    rw [List.cons_append, quo_cons]
    split at h
    · rename_i hc
      rw [if_pos hc]
      match r, h with
      | [], h =>
        show (if 32 = q then _ else some ([], 1)) = some p
        rw [if_neg (Ne.symm hq)]
        exact h
      | c' :: r', h =>
        replace h : (if c' = q then (quo q r').map fun p => (q :: p.1, p.2 + 2) else some ([], 1)) = some p := h
        show (if c' = q then (quo q (r' ++ 32 :: b)).map fun p => (q :: p.1, p.2 + 2) else some ([], 1)) = some p
        split at h
        · rename_i h1
          rw [if_pos h1]
          cases hr : quo q r' with
          | none => rw [hr] at h; cases h
          | some p' =>
            rw [hr] at h
            simp only [List.length_cons] at hk
            rw [quo_app q hq b k r' (by omega) p' hr]
            exact h
        · rename_i h1
          rw [if_neg h1]; exact h
    · rename_i hc
      rw [if_neg hc]
      cases hr : quo q r with
      | none => rw [hr] at h; cases h
      | some p' =>
        rw [hr] at h
        rw [quo_app q hq b k r (by omega) p' hr]
        exact h

theorem nb_app (r b : BS) : nb (r ++ 32 :: b) = nb r := by
  induction r with
  | nil => rfl
  | cons c r ih =>
    rw [List.cons_append, nb_cons, nb_cons, ih]

theorem quote_no_letter {c : UInt8} (h : c = 39 ∨ c = 34) : pLetter (c.toNat : Int) = false := by
  rcases h with rfl | rfl <;> decide

theorem first_app (r b : BS) (h0 : r ≠ []) (h1 : r.getD 0 0 ≠ 32) (h2 : (firstSpec r).2 ≠ 0) : firstSpec (r ++ 32 :: b) = firstSpec r := by
  have e0 : (r ++ 32 :: b).getD 0 0 = r.getD 0 0 := by cases r with | nil => exact absurd rfl h0 | cons c r => rfl
  by_cases hq : r.getD 0 0 = 39 ∨ r.getD 0 0 = 34
  · have hl := quote_no_letter hq
    have key : ∀ l : BS, l.getD 0 0 = r.getD 0 0 → firstSpec l = ((kText, (quoted l).1), (quoted l).2) := by
      intro l hl0
      unfold firstSpec
      rw [hl0, if_neg (by rw [hl]; simp), if_pos hq]
    rw [key r rfl] at h2 ⊢
    rw [key _ e0]
    have : quoted (r ++ 32 :: b) = quoted r := by
      unfold quoted at h2 ⊢
      rw [e0]
      have ed : (r ++ 32 :: b).drop 1 = r.drop 1 ++ 32 :: b := by cases r with | nil => exact absurd rfl h0 | cons c r => rfl
      rw [ed]
      cases hr : quo (r.getD 0 0) (r.drop 1) with
      | none => rw [hr] at h2; exact absurd rfl h2
      | some p =>
        rw [quo_app _ (by rcases hq with h | h <;> rw [h] <;> decide) b _ _ (Nat.le_refl _) p hr]
    rw [this]
  · rw [← first_norm (r ++ 32 :: b) (by simp) (by rw [e0]; exact h1) (by rw [e0]; exact hq), ← first_norm r h0 h1 hq]
    unfold norm
    rw [nb_app]

theorem scanG_fuel : ∀ (f : Nat) (r : BS) (i : Nat), r.length < f → ∀ g, r.length < g → scanG f r i = scanG g r i
  | 0, r, i, h, _, _ => by omega
  | f + 1, r, i, h, 0, hg => by omega
  | f + 1, r, i, h, g + 1, hg => by
    unfold scanG
    by_cases h0 : r = []
    · rw [if_pos h0, if_pos h0]
    · rw [if_neg h0, if_neg h0]
      have hpos := List.length_pos_iff.2 h0
      split
      · exact scanG_fuel f _ _ (by rw [List.length_drop]; omega) g (by rw [List.length_drop]; omega)
      · split
        · rfl
        · rename_i hc
          have hn : (firstSpec r).2 ≠ 0 := fun e => hc (.inl e)
          rw [scanG_fuel f _ _ (by rw [List.length_drop]; omega) g (by rw [List.length_drop]; omega)]

theorem scanG_shift : ∀ (f : Nat) (r : BS) (i k : Nat), scanG f r (i + k) = match scanG f r i with | .ok ts => .ok ts | .error e => .error (e + k)
  | 0, r, i, k => rfl
  | f + 1, r, i, k => by
    unfold scanG
    split
    · rfl
    · split
      · rw [show i + k + 1 = i + 1 + k by omega, scanG_shift f _ (i + 1) k]
      · split
        · rfl
        · rw [show i + k + (firstSpec r).2 = i + (firstSpec r).2 + k by omega, scanG_shift f _ (i + (firstSpec r).2) k]
          cases scanG f (r.drop (firstSpec r).2) (i + (firstSpec r).2) <;> rfl

theorem scanG_err : ∀ (f : Nat) (r : BS) (i e : Nat), scanG f r i = .error e → e < i + r.length
  | 0, r, i, e, h => by cases h
  | f + 1, r, i, e, h => by
    unfold scanG at h
    split at h
    · cases h
    · rename_i h0
      have hpos := List.length_pos_iff.2 h0
      split at h
      · have := scanG_err f _ _ e h
        rw [List.length_drop] at this; omega
      · split at h
        · cases h; omega
        · cases hg : scanG f (r.drop (firstSpec r).2) (i + (firstSpec r).2) with
          | ok ts => rw [hg] at h; cases h
          | error e' =>
            rw [hg] at h
            have := scanG_err f _ _ e' hg
            have hle := first_le r h0
            rw [List.length_drop] at this
            simp only [Except.map] at h
            cases h; omega

theorem scanG_app (b : BS) : ∀ (f : Nat) (r : BS), r.length < f → ∀ i ts, scanG f r i = .ok ts → ∀ g, (r ++ 32 :: b).length < g →
    scanG g (r ++ 32 :: b) i = (scanG (b.length + 1) b (i + r.length + 1)).map (ts ++ ·)
  | 0, r, h, _, _, _, _, _ => by omega
  | f + 1, r, h, i, ts, hts, 0, hg => by omega
  | f + 1, r, h, i, ts, hts, g + 1, hg => by
    simp only [List.length_append, List.length_cons] at hg
    unfold scanG at hts
    by_cases h0 : r = []
    · subst h0
      rw [if_pos rfl] at hts
      cases hts
      rw [List.nil_append, scanG, if_neg (by simp), if_pos (by rfl)]
      rw [show (32 :: b).drop 1 = b from rfl, scanG_fuel g b _ (by omega) (b.length + 1) (by omega)]
      simp only [List.length_nil, Nat.add_zero]
      cases scanG (b.length + 1) b (i + 1) <;> rfl
    · rw [if_neg h0] at hts
      have hpos := List.length_pos_iff.2 h0
      have e0 : (r ++ 32 :: b).getD 0 0 = r.getD 0 0 := by cases r with | nil => exact absurd rfl h0 | cons c r => rfl
      rw [scanG, if_neg (by simp), e0]
      by_cases h1 : r.getD 0 0 = 32
      · rw [if_pos h1] at hts ⊢
        have ed : (r ++ 32 :: b).drop 1 = r.drop 1 ++ 32 :: b := by cases r with | nil => exact absurd rfl h0 | cons c r => rfl
        rw [ed, scanG_app b f _ (by rw [List.length_drop]; omega) _ ts hts g (by simp only [List.length_append, List.length_drop, List.length_cons]; omega)]
        rw [List.length_drop, show i + 1 + (r.length - 1) + 1 = i + r.length + 1 by omega]
      · rw [if_neg h1] at hts ⊢
        by_cases hc : (firstSpec r).2 = 0 ∨ valid (firstSpec r).1.1 (firstSpec r).1.2 = false
        · rw [if_pos hc] at hts; cases hts
        · rw [if_neg hc] at hts
          have hn : (firstSpec r).2 ≠ 0 := fun e => hc (.inl e)
          rw [first_app r b h0 h1 hn, if_neg hc]
          have hle := first_le r h0
          rw [List.drop_append_of_le_length hle]
          cases hg2 : scanG f (r.drop (firstSpec r).2) (i + (firstSpec r).2) with
          | error e => rw [hg2] at hts; cases hts
          | ok ts' =>
            rw [hg2] at hts
            simp only [Except.map, Except.ok.injEq] at hts
            rw [scanG_app b f _ (by rw [List.length_drop]; omega) _ ts' hg2 g (by simp only [List.length_append, List.length_drop, List.length_cons]; omega)]
            rw [List.length_drop, show i + (firstSpec r).2 + (r.length - (firstSpec r).2) + 1 = i + r.length + 1 by omega, ← hts]
            cases scanG (b.length + 1) b (i + r.length + 1) <;> simp [Except.map]

theorem preL_app {p : Int → Bool} : ∀ (a b : BS), preL p a = a.length → preL p (a ++ b) = a.length + preL p b
  | [], b, _ => by simp
  | c :: a, b, h => by
    simp only [preL, List.takeWhile_cons] at h
    split at h
    · rename_i hc
      have ih := preL_app a b (by simpa [preL] using h)
      simp only [preL] at ih
      simp only [preL, List.cons_append, List.takeWhile_cons, hc, if_true, List.length_cons, ih]
      omega
    · simp at h

/-- What the scanner says of a text whose bytes are all those of texts. -/
theorem scan_text {l : BS} (h : ¬ preL pText l < l.length) : scanSpec l = match scanG (l.length + 1) l 0 with | .ok ts => (ts, 0, 0) | .error i => ([], i, 3) := by
  unfold scanSpec
  rw [if_neg h]
  cases scanG (l.length + 1) l 0 <;> rfl
theorem scan_ok0 {l : BS} (h : (scanSpec l).2.2 = 0) : ¬ preL pText l < l.length ∧ scanG (l.length + 1) l 0 = .ok (scanSpec l).1 ∧ (scanSpec l).2.1 = 0 := by
  unfold scanSpec at h ⊢
  split
  · rename_i h1; rw [if_pos h1] at h; cases h
  · rename_i h1
    rw [if_neg h1] at h
    refine ⟨h1, ?_⟩
    cases hg : scanG (l.length + 1) l 0 with
    | ok ts => exact ⟨rfl, rfl⟩
    | error i => rw [hg] at h; cases h
theorem scan_code (l : BS) : (scanSpec l).2.2 = 0 ∨ ((scanSpec l).2.2 = 3 ∧ (scanSpec l).1 = [] ∧ (scanSpec l).2.1 < l.length) := by
  unfold scanSpec
  split
  · rename_i h; exact .inr ⟨rfl, rfl, h⟩
  · cases hg : scanG (l.length + 1) l 0 with
    | ok ts => exact .inl rfl
    | error i =>
      have := scanG_err _ _ _ _ hg
      exact .inr ⟨rfl, rfl, by simpa using this⟩

theorem scan_join (a b : BS) (h : (scanSpec a).2.2 = 0) : scanSpec (a ++ 32 :: b) = if (scanSpec b).2.2 = 0 then ((scanSpec a).1 ++ (scanSpec b).1, 0, 0) else ([], a.length + 1 + (scanSpec b).2.1, (scanSpec b).2.2) := by
  obtain ⟨h1, h2, _⟩ := scan_ok0 h
  have ha : preL pText a = a.length := by have := preL_le pText a; omega
  have hap : preL pText (a ++ 32 :: b) = a.length + (1 + preL pText b) := by
    rw [preL_app a _ ha]
    congr 1
    show (List.takeWhile _ (32 :: b)).length = _
    rw [List.takeWhile_cons, if_pos (by decide)]
    simp [preL, Nat.add_comm]
  have hlen : (a ++ 32 :: b).length = a.length + (b.length + 1) := by simp
  by_cases hb : preL pText b < b.length
  · have eb : scanSpec b = ([], preL pText b, 3) := by unfold scanSpec; rw [if_pos hb]
    rw [eb]
    unfold scanSpec
    rw [if_pos (by rw [hap, hlen]; omega), hap]
    simp [Nat.add_assoc]
  · rw [scan_text (by rw [hap, hlen]; omega), scanG_app b (a.length + 1) a (by omega) 0 _ h2 _ (by omega), scan_text hb]
    rw [show 0 + a.length + 1 = 0 + (a.length + 1) by omega, scanG_shift]
    cases scanG (b.length + 1) b 0 with
    | ok ts => rfl
    | error e => simp [Except.map, Nat.add_comm]
end Go.Q
namespace Go.Q
open Go Go.Proofs
set_option maxRecDepth 10000

theorem scanG_len : ∀ (f : Nat) (r : BS) (i : Nat) ts, scanG f r i = .ok ts → ts.length ≤ r.length
  | 0, r, i, ts, h => by cases h; exact Nat.zero_le _
  | f + 1, r, i, ts, h => by
    unfold scanG at h
    split at h
    · cases h; exact Nat.zero_le _
    · rename_i h0
      have hpos := List.length_pos_iff.2 h0
      split at h
      · have := scanG_len f _ _ ts h
        rw [List.length_drop] at this; omega
      · split at h
        · cases h
        · rename_i hc
          have hn : (firstSpec r).2 ≠ 0 := fun e => hc (.inl e)
          cases hg : scanG f (r.drop (firstSpec r).2) (i + (firstSpec r).2) with
          | error e' => rw [hg] at h; cases h
          | ok ts' =>
            rw [hg] at h
            have := scanG_len f _ _ ts' hg
            rw [List.length_drop] at this
            simp only [Except.map] at h
            cases h
            simp only [List.length_cons]; omega
theorem scan_len (l : BS) : (scanSpec l).1.length ≤ l.length := by
  unfold scanSpec
  split
  · exact Nat.zero_le _
  · cases hg : scanG (l.length + 1) l 0 with
    | ok ts => exact scanG_len _ _ _ _ hg
    | error i => exact Nat.zero_le _

theorem int_beq {a b : Int} (h : a = b) : (a == b) = true := beq_iff_eq.2 h
theorem int_bne {a b : Int} (h : ¬ a = b) : (a == b) = false := beq_eq_false_iff_ne.2 h

theorem B_appR (x y : BS) : B x ++ B y = B (x ++ y) := by
  have h := L_app (B x) (B y)
  rw [L_B, L_B] at h
  rw [← h, B_L]

/-! letters of the other case, blanks in plenty -/

def swB (c : UInt8) : UInt8 := if 97 ≤ c.toNat ∧ c.toNat ≤ 122 then c - 32 else if 65 ≤ c.toNat ∧ c.toNat ≤ 90 then c + 32 else c
def ex1 (c : UInt8) : BS := if c = 32 then [32, 32, 32] else [swB c]
def exL (r : BS) : BS := r.flatMap ex1
theorem sw_all (c : UInt8) : low (swB c) = low c ∧ (swB c = 32 ↔ c = 32) ∧ ((swB c = 39 ∨ swB c = 34) ↔ (c = 39 ∨ c = 34)) ∧ pText ((swB c).toNat : Int) = pText (c.toNat : Int) := by
  have h1 := bytes_all (fun c => low (swB c) == low c) (by decide +kernel) c
  have h2 := bytes_all (fun c => (swB c == 32) == (c == 32)) (by decide +kernel) c
  have h3 := bytes_all (fun c => (swB c == 39 || swB c == 34) == (c == 39 || c == 34)) (by decide +kernel) c
  have h4 := bytes_all (fun c => pText ((swB c).toNat : Int) == pText (c.toNat : Int)) (by decide +kernel) c
  simp only [beq_iff_eq] at h1 h2 h3 h4
  refine ⟨h1, ?_, ?_, h4⟩
  · rw [← beq_iff_eq, h2, beq_iff_eq]
  · have : (swB c == 39 || swB c == 34) = true ↔ (c == 39 || c == 34) = true := by rw [h3]
    simpa using this
theorem exL_cons (c : UInt8) (r : BS) : exL (c :: r) = ex1 c ++ exL r := by simp [exL]
theorem exL_nil : exL [] = [] := rfl
theorem exL_sp (r : BS) : exL (32 :: r) = 32 :: 32 :: 32 :: exL r := by rw [exL_cons]; rfl
theorem exL_ns {c : UInt8} (h : c ≠ 32) (r : BS) : exL (c :: r) = swB c :: exL r := by rw [exL_cons, ex1, if_neg h]; rfl
theorem norm_ex : ∀ r : BS, norm (exL r) = norm r
  | [] => rfl
  | c :: r => by
    by_cases h : c = 32
    · subst h; rw [exL_sp]; rfl
    · have ih := norm_ex r
      unfold norm at ih ⊢
      rw [exL_ns h, nb_cons, nb_cons, if_neg h, if_neg (fun e => h ((sw_all c).2.1.1 e))]
      simp only [small, List.map_cons] at ih ⊢
      rw [ih, (sw_all c).1]
theorem drop_ex : ∀ (r : BS) (n : Nat), n ≤ (nb r).length → (exL r).drop n = exL (r.drop n)
  | r, 0, _ => rfl
  | [], n + 1, h => by cases h
  | c :: r, n + 1, h => by
    rw [nb_cons] at h
    by_cases hc : c = 32
    · rw [if_pos hc] at h; cases h
    · rw [if_neg hc] at h
      rw [exL_ns hc, List.drop_succ_cons, List.drop_succ_cons]
      exact drop_ex r n (by simpa using h)
theorem exL_le : ∀ r : BS, r.length ≤ (exL r).length ∧ (exL r).length ≤ 3 * r.length
  | [] => by simp [exL_nil]
  | c :: r => by
    have ih := exL_le r
    by_cases hc : c = 32
    · subst hc; rw [exL_sp]; simp only [List.length_cons]; omega
    · rw [exL_ns hc]; simp only [List.length_cons]; omega
theorem preL_allB {p : Int → Bool} : ∀ l : BS, preL p l < l.length ↔ l.all (fun c => p (c.toNat : Int)) = false
  | [] => by simp
  | c :: l => by
    have ih := preL_allB (p := p) l
    simp only [preL, List.takeWhile_cons, List.all_cons] at ih ⊢
    cases h : p (c.toNat : Int) with
    | true => simp only [if_true, List.length_cons, Bool.true_and, ← ih]; omega
    | false => simp
theorem all_ex : ∀ r : BS, (exL r).all (fun c => pText (c.toNat : Int)) = r.all (fun c => pText (c.toNat : Int))
  | [] => rfl
  | c :: r => by
    by_cases hc : c = 32
    · subst hc
      rw [exL_sp, List.all_cons, List.all_cons, List.all_cons, List.all_cons, all_ex r]
      rfl
    · rw [exL_ns hc, List.all_cons, List.all_cons, (sw_all c).2.2.2, all_ex r]
def okE {α : Type} : Except Nat α → Option α | .ok a => some a | .error _ => none
theorem okE_map {α β : Type} (f : α → β) (e : Except Nat α) : okE (e.map f) = (okE e).map f := by cases e <;> rfl
theorem scanG_sp (f : Nat) (r : BS) (j : Nat) : scanG (f + 1) (32 :: r) j = scanG f r (j + 1) := by
  rw [scanG, if_neg (by simp), if_pos (show (32 :: r).getD 0 0 = 32 from rfl)]; rfl
theorem okE_at (f g : Nat) (r : BS) (i j : Nat) (hf : r.length < f) (hg : r.length < g) : okE (scanG f r i) = okE (scanG g r j) := by
  rw [scanG_fuel f r i hf g hg]
  have h1 := scanG_shift g r 0 i
  have h2 := scanG_shift g r 0 j
  rw [Nat.zero_add] at h1 h2
  rw [h1, h2]
  cases scanG g r 0 <;> rfl
theorem scanG_ex : ∀ (f : Nat) (r : BS), r.length < f → (∀ c ∈ r, ¬ (c = 39 ∨ c = 34)) → ∀ i j g, (exL r).length < g → okE (scanG g (exL r) j) = okE (scanG f r i)
  | 0, r, h, _, _, _, _, _ => by omega
  | f + 1, [], h, hq, i, j, g, hg => by
    rw [exL_nil] at *
    cases g with
    | zero => rfl
    | succ g => rfl
  | f + 1, c :: r, h, hq, i, j, g, hg => by
    have hlen := exL_le r
    by_cases hc : c = 32
    · subst hc
      rw [exL_sp] at hg ⊢
      simp only [List.length_cons] at hg h
      obtain ⟨g, rfl⟩ : ∃ g', g = g' + 3 := ⟨g - 3, by omega⟩
      rw [scanG_sp, scanG_sp, scanG_sp, scanG_sp]
      exact scanG_ex f r (by omega) (fun c hc => hq c (List.mem_cons_of_mem _ hc)) _ _ g (by omega)
    · have hc' : swB c ≠ 32 := fun e => hc ((sw_all c).2.1.1 e)
      have hqc := hq c (List.mem_cons_self ..)
      have hqc' : ¬ (swB c = 39 ∨ swB c = 34) := fun e => hqc ((sw_all c).2.2.1.1 e)
      have e1 : firstSpec (exL (c :: r)) = firstSpec (c :: r) := by
        rw [← first_norm (exL (c :: r)) (by rw [exL_ns hc]; simp) (by rw [exL_ns hc]; exact hc') (by rw [exL_ns hc]; exact hqc'), norm_ex, first_norm (c :: r) (by simp) hc hqc]
      have hn : (firstSpec (c :: r)).2 ≤ (nb (c :: r)).length := by
        rw [← first_norm (c :: r) (by simp) hc hqc, ← norm_len]
        exact first_le _ (norm_ne (by simp) hc)
      cases g with
      | zero => omega
      | succ g =>
        have e2 : (exL (c :: r)).getD 0 0 ≠ 32 := by rw [exL_ns hc]; exact hc'
        rw [scanG, scanG, if_neg (show ¬ exL (c :: r) = [] by rw [exL_ns hc]; simp), if_neg (show ¬ (c :: r) = [] by simp), if_neg e2, if_neg (show ¬ (c :: r).getD 0 0 = 32 from hc), e1]
        split
        · rfl
        · rename_i h3
          have h4 : (firstSpec (c :: r)).2 ≠ 0 := fun e => h3 (.inl e)
          rw [okE_map, okE_map, drop_ex _ _ hn]
          have h5 := exL_le ((c :: r).drop (firstSpec (c :: r)).2)
          have h6 : (exL ((c :: r).drop (firstSpec (c :: r)).2)).length = (exL (c :: r)).length - (firstSpec (c :: r)).2 := by
            rw [← drop_ex _ _ hn, List.length_drop]
          have h7 : 0 < (exL (c :: r)).length := by rw [exL_ns hc]; simp
          rw [scanG_ex f ((c :: r).drop (firstSpec (c :: r)).2) (by rw [List.length_drop]; simp only [List.length_cons] at h ⊢; omega) (fun c hc => hq c (List.mem_of_mem_drop hc)) (i + (firstSpec (c :: r)).2) (j + (firstSpec (c :: r)).2) g (by omega)]

theorem scan_okE (l : BS) : ((scanSpec l).1, (scanSpec l).2.2) = if l.all (fun c => pText (c.toNat : Int)) = false then ([], 3) else match okE (scanG (l.length + 1) l 0) with | some ts => (ts, 0) | none => ([], 3) := by
  unfold scanSpec
  by_cases h : preL pText l < l.length
  · rw [if_pos h, if_pos ((preL_allB l).1 h)]
  · rw [if_neg h, if_neg (fun e => h ((preL_allB l).2 e))]
    cases scanG (l.length + 1) l 0 <;> rfl
theorem scan_ex (l : BS) (hq : ∀ c ∈ l, ¬ (c = 39 ∨ c = 34)) : ((scanSpec (32 :: exL l)).1, (scanSpec (32 :: exL l)).2.2) = ((scanSpec l).1, (scanSpec l).2.2) := by
  rw [scan_okE, scan_okE]
  have e1 : (32 :: exL l).all (fun c => pText (c.toNat : Int)) = l.all (fun c => pText (c.toNat : Int)) := by
    rw [List.all_cons, all_ex]; rfl
  have e2 : okE (scanG ((32 :: exL l).length + 1) (32 :: exL l) 0) = okE (scanG (l.length + 1) l 0) := by
    rw [scanG_sp]
    exact scanG_ex _ l (by omega) hq 0 1 _ (by simp)
  rw [e1, e2]

theorem u8w (x : Int) (h0 : 0 ≤ x) (h1 : x < 256) : IntKind.u8.wrap x = x := by
  have h : ∀ n : Fin 256, IntKind.u8.wrap ((n : Nat) : Int) = ((n : Nat) : Int) := by decide +kernel
  have := h ⟨x.toNat, by omega⟩
  simpa [Int.toNat_of_nonneg h0] using this

theorem letk_r {α ρ : Type} (x : α) (f : α → Option ρ) : letk x f = f x := rfl

end Go.Q
