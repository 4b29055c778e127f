import Derived.Test.YthdklcpkoeehnaaDoorP5
namespace Go.Q
open Go Go.Proofs
set_option maxRecDepth 10000

def toTok (t : BS × BS) : api.Token := ⟨B t.1, B t.2⟩

theorem first_j0 (k t : BS) (n : Nat) (ht : t.length < 2 ^ 31) : Tok.first.j0 (B k) (B t) n = some (toTok (k, t), ((if valid k t then n else 0 : Nat) : Int)) := by
  unfold Tok.first.j0
  rw [Tok.Valid_eq _ (by rw [size_B]; exact ht)]
  simp only [Option.bind_some, letk, L_B]
  cases valid k t <;> rfl

theorem first_l0 (s : ByteArray) (hs : s.size < 2 ^ 60) : ∀ k n : Nat, n + k = signs.length → (∀ j (h1 : j < signs.length), j < n → List.isPrefixOf signs[j] (L s) = false) →
    Tok.first.l0 s (BL signs) signs.length (B []) (B []) n = some (match signs.find? (·.isPrefixOf (L s)) with | some o => (toTok (kOp, o), (o.length : Int)) | none => (toTok ([], []), 0)) := by
  intro k
  induction k with
  | zero =>
    intro n hn hj
    rw [Tok.first.l0_eq, Tok.first.s0]
    simp only [letk]
    rw [decide_eq_false (by omega : ¬ (n : Int) < (signs.length : Int))]
    simp only [cond, Option.bind_some, Sum.elim_inr]
    rw [find_no (p := fun o => List.isPrefixOf o (L s)) hj (by omega)]
    rfl
  | succ k ih =>
    intro n hn hj
    have hlt : n < signs.length := by omega
    have h21 : signs.length = 21 := rfl
    rw [Tok.first.l0_eq, Tok.first.s0]
    simp only [letk]
    rw [decide_eq_true (by omega : (n : Int) < (signs.length : Int))]
    simp only [cond]
    have hsz : signs[n].length < 2 ^ 60 := by
      have : ∀ j (h : j < signs.length), signs[j].length < 2 ^ 60 := by decide
      exact this n hlt
    rw [chk_pos (by omega), Int.toNat_natCast, BL_get hlt, Option.bind_some, hasPrefix_eq _ _ (by omega) (by rw [size_B]; omega)]
    simp only [Option.bind_some, L_B]
    cases hp : List.isPrefixOf signs[n] (L s) with
    | true =>
      simp only [Option.bind_some, Sum.elim_inr]
      rw [find_at (p := fun o => List.isPrefixOf o (L s)) hj hlt hp]
      rfl
    | false =>
      simp only [Option.bind_some, Sum.elim_inl]
      rw [w64n (by omega) (by omega)]
      exact ih (n + 1) (by omega) (no_succ (p := fun o => List.isPrefixOf o (L s)) hj hlt hp)

def fstO (p : (BS × BS) × Nat) : api.Token × Int := (toTok p.1, (p.2 : Int))

theorem first_j2 (u : BS) (b : Bool) (hu : u.length < 2 ^ 31) : Tok.first.j2 (B u) (B []) (B []) b = some (fstO (if b then (numT u, if numN u < u.length ∧ pPart ((u.getD (numN u) 0).toNat : Int) = true then 0 else if valid (numT u).1 (numT u).2 then numN u else 0)
    else match signs.find? (·.isPrefixOf u) with | some o => ((kOp, o), o.length) | none => (([], []), 0))) := by
  have hsz : (B u).size = u.length := rfl
  unfold Tok.first.j2
  cases b with
  | false =>
    simp only [cond, Bool.false_eq_true, if_false]
    rw [Tok.signs_eq]
    simp only [Option.bind_some, letk, BL_len]
    have := first_l0 (B u) (by omega) signs.length 0 (by omega) (fun j _ h => by omega)
    rw [L_B] at this
    rw [show ((0 : Nat) : Int) = 0 from rfl] at this
    rw [this]
    cases signs.find? (·.isPrefixOf u) <;> rfl
  | true =>
    simp only [cond, if_true]
    have hN := numN_leL u
    rw [Tok.number_eq _ (by omega), L_B]
    simp only [Option.bind_some, letk]
    rw [chk_pos (by omega), Int.toNat_natCast, ext_T1, Tok.small_eq _ (by rw [size_B, List.length_take]; omega), L_B]
    simp only [Option.bind_some]
    have hlen : (Go.Q.small (u.take (numN u))).length < 2 ^ 31 := by rw [Go.Q.small, List.length_map, List.length_take]; omega
    have j3 : ∀ k : BS, numT u = (k, Go.Q.small (u.take (numN u))) → Tok.first.j3 (B u) (numN u) (B k) (B (Go.Q.small (u.take (numN u)))) = some (fstO (numT u, if numN u < u.length ∧ pPart ((u.getD (numN u) 0).toNat : Int) = true then 0 else if valid (numT u).1 (numT u).2 then numN u else 0)) := by
      intro k hk
      rw [hk]
      unfold Tok.first.j3 Tok.first.j4
      simp only [letk]
      by_cases h1 : numN u < u.length
      · rw [decide_eq_true (by omega : (numN u : Int) < ((B u).size : Int))]
        simp only [cond]
        rw [chk_pos (by omega), show bt (B u) (numN u : Nat) = ((u.getD (numN u) 0).toNat : Int) from rfl, Tok.isPart_eq]
        simp only [Option.bind_some]
        cases hp : pPart ((u.getD (numN u) 0).toNat : Int) with
        | true => simp only [h1, and_self, if_true]; rfl
        | false =>
          simp only [Bool.false_eq_true, and_false, if_false]
          rw [first_j0 _ _ _ hlen]; rfl
      · rw [decide_eq_false (by omega : ¬ (numN u : Int) < ((B u).size : Int))]
        simp only [cond, h1, false_and, if_false]
        rw [first_j0 _ _ _ hlen]; rfl
    unfold numT at j3 ⊢
    cases hR : numR u with
    | true => rw [hR] at j3; exact j3 kReal rfl
    | false => rw [hR] at j3; exact j3 kInt rfl

theorem Tok.first_eq (s : ByteArray) (hs : s.size < 2 ^ 31) (h0 : 0 < s.size) : Tok.first s = some (fstO (firstSpec (L s))) := by
  obtain ⟨u, rfl⟩ : ∃ u, s = B u := ⟨L s, (B_L s).symm⟩
  rw [L_B]
  have hsz : (B u).size = u.length := rfl
  unfold Tok.first firstSpec
  rw [chk_pos (by omega)]
  simp only [letk]
  rw [Tok.isLetter_eq, bt0, L_B]
  simp only [Option.bind_some]
  cases hc : pLetter ((u.getD 0 0).toNat : Int) with
  | true =>
    have hle := preL_le pPart u
    simp only [if_true]
    rw [Tok.run_eq Tok.isPart_eq _ (by omega), L_B]
    simp only [Option.bind_some]
    rw [chk_pos (by omega), Int.toNat_natCast, ext_T1, Tok.small_eq _ (by rw [size_B, List.length_take]; omega), L_B]
    simp only [Option.bind_some]
    exact first_j0 kName _ _ (by rw [Go.Q.small, List.length_map, List.length_take]; omega)
  | false =>
    simp only [Bool.false_eq_true, if_false]
    have quot : (u.getD 0 0 = 39 ∨ u.getD 0 0 = 34) → Tok.first.j1 (B u) ((u.getD 0 0).toNat : Int) true = some (fstO ((kText, (Go.Q.quoted u).1), (Go.Q.quoted u).2)) := fun _ => by
      unfold Tok.first.j1
      simp only [cond]
      rw [Tok.quoted_eq _ (by omega) h0, L_B]
      rfl
    rw [(u8n _).2.2.2.2.1, (u8n _).2.2.2.2.2]
    cases h39 : u.getD 0 0 == 39 with
    | true =>
      have h : u.getD 0 0 = 39 := beq_iff_eq.1 h39
      simp only [cond]
      rw [if_pos (.inl h)]
      exact quot (.inl h)
    | false =>
      cases h34 : u.getD 0 0 == 34 with
      | true =>
        have h : u.getD 0 0 = 34 := beq_iff_eq.1 h34
        simp only [cond]
        rw [if_pos (.inr h)]
        exact quot (.inr h)
      | false =>
        have hn : ¬ (u.getD 0 0 = 39 ∨ u.getD 0 0 = 34) := by
          rintro (h | h)
          · exact beq_eq_false_iff_ne.1 h39 h
          · exact beq_eq_false_iff_ne.1 h34 h
        simp only [cond]
        rw [if_neg hn]
        unfold Tok.first.j1
        simp only [cond]
        rw [Tok.word_eq _ (by omega), L_B]
        simp only [Option.bind_some, letk, eqL, L_B, L_e]
        by_cases hw : wordOf u = []
        · rw [show (wordOf u == []) = true from beq_iff_eq.2 hw, if_neg (by simp [hw])]
          simp only [Bool.not_true]
          rw [Tok.isDigit_eq]
          simp only [Option.bind_some]
          have fin := fun b => first_j2 u b (by omega)
          have e46 := (u8n (u.getD 0 0)).2.2.1
          by_cases hd : pDigit ((u.getD 0 0).toNat : Int) = true
          · rw [hd, if_pos (.inl rfl)]
            exact fin true
          · have hd' : pDigit ((u.getD 0 0).toNat : Int) = false := by simpa using hd
            rw [hd']
            simp only [Bool.false_eq_true, false_or]
            rw [e46]
            by_cases h46 : u.getD 0 0 = 46
            · rw [show (u.getD 0 0 == 46) = true from beq_iff_eq.2 h46]
              simp only [gt_iff_lt]
              by_cases h1 : 1 < u.length
              · rw [decide_eq_true (by omega : (1 : Int) < ((B u).size : Int))]
                simp only []
                rw [chk_pos (by omega), show bt (B u) 1 = ((u.getD 1 0).toNat : Int) from rfl, Tok.isDigit_eq]
                simp only [Option.bind_some]
                have := fin (pDigit ((u.getD 1 0).toNat : Int))
                simp only [h46, h1, true_and] 
                exact this
              · rw [decide_eq_false (by omega : ¬ (1 : Int) < ((B u).size : Int)), if_neg (fun h => h1 h.2.1)]
                exact fin false
            · rw [show (u.getD 0 0 == 46) = false from beq_eq_false_iff_ne.2 h46, if_neg (fun h => h46 h.1)]
              exact fin false
        · rw [show (wordOf u == []) = false from beq_eq_false_iff_ne.2 hw, if_pos hw]
          simp only [Bool.not_false]
          rw [Tok.words_eq, Option.bind_some, chk_pos (by decide)]
          rw [show ((BL Go.Q.words).drop (4 : Int).toNat).take ((BL Go.Q.words).length - (4 : Int).toNat) = BL (Go.Q.words.drop 4) from rfl, contains_eq _ _ (by decide), L_B]
          simp only [Option.bind_some]
          by_cases hm : wordOf u ∈ Go.Q.words.drop 4
          · rw [decide_eq_true hm, if_pos hm]; rfl
          · rw [decide_eq_false hm, if_neg hm]; rfl

theorem scan_l0 (l : BS) (hl : l.length < 2 ^ 31) (hp : ¬ preL pText l < l.length) : ∀ k (n : Nat) (out : List (BS × BS)), l.length - n ≤ k → SInv l out n →
    Tok.Scan.l0 (B l) (out.map toTok) n = some ((scanSpec l).1.map toTok, ((scanSpec l).2.1 : Int), ((scanSpec l).2.2 : Int)) := by
  have hsz : (B l).size = l.length := rfl
  intro k
  induction k with
  | zero =>
    intro n out hn hq
    have hq1 := hq.2.1
    rw [Tok.Scan.l0_eq, Tok.Scan.s0]
    simp only [letk]
    rw [decide_eq_false (by omega : ¬ (n : Int) < ((B l).size : Int))]
    simp only [cond, Option.bind_some, Sum.elim_inr]
    rw [hq.all hp (by omega)]
    rfl
  | succ k ih =>
    intro n out hn hq
    have hq1 := hq.1
    have hq2 := hq.2.1
    rw [Tok.Scan.l0_eq, Tok.Scan.s0]
    simp only [letk]
    by_cases hlt : n < l.length
    · rw [decide_eq_true (by omega : (n : Int) < ((B l).size : Int))]
      simp only [cond]
      have hd : l.getD n 0 = (l.drop n).getD 0 0 := by rw [getD_drop]; simp
      rw [chk_pos (by omega), chk_pos (by omega), show bt (B l) n = ((l.getD n 0).toNat : Int) from rfl, (u8n _).2.2.2.1, hd]
      cases h32 : (l.drop n).getD 0 0 == 32 with
      | true =>
        simp only [Option.bind_some, Sum.elim_inl]
        rw [w64n (by omega) (by omega), show ((n : Int) + 1) = ((n + 1 : Nat) : Int) by omega]
        exact ih (n + 1) out (by omega) (hq.blank hlt (beq_iff_eq.1 h32))
      | false =>
        have hb : ¬ (l.drop n).getD 0 0 = 32 := beq_eq_false_iff_ne.1 h32
        have hnl : (l.drop n).length = l.length - n := List.length_drop
        have hle := first_le (l.drop n) (drop_ne hlt)
        have htx := first_text (l.drop n) (drop_ne hlt)
        simp only []
        rw [Int.toNat_natCast, ext_D1, Tok.first_eq _ (by rw [size_B]; omega) (by rw [size_B]; omega), L_B]
        simp only [fstO, Option.bind_some]
        by_cases h0 : (firstSpec (l.drop n)).2 = 0
        · rw [show (((firstSpec (l.drop n)).2 : Int) == 0) = true from beq_iff_eq.2 (by omega)]
          simp only [Option.bind_some, Sum.elim_inr]
          rw [hq.bad hp hlt hb (.inl h0)]
          rfl
        · rw [show (((firstSpec (l.drop n)).2 : Int) == 0) = false from beq_eq_false_iff_ne.2 (by omega)]
          simp only []
          rw [Tok.Valid_eq _ (by show (B (firstSpec (l.drop n)).1.2).size < _; rw [size_B]; omega)]
          simp only [Option.bind_some]
          rw [show L (toTok (firstSpec (l.drop n)).1).Kind = (firstSpec (l.drop n)).1.1 from rfl, show L (toTok (firstSpec (l.drop n)).1).Text = (firstSpec (l.drop n)).1.2 from rfl]
          cases hv : valid (firstSpec (l.drop n)).1.1 (firstSpec (l.drop n)).1.2 with
          | false =>
            simp only [Bool.not_false, Option.bind_some, Sum.elim_inr]
            rw [hq.bad hp hlt hb (.inr hv)]
            rfl
          | true =>
            simp only [Bool.not_true]
            unfold Tok.Scan.j0
            rw [chk_pos (by simp only [List.length_map, List.length_cons, List.length_nil]; omega)]
            simp only [letk, Option.bind_some, Sum.elim_inl]
            rw [w64n (by omega) (by omega), show ((n : Int) + ((firstSpec (l.drop n)).2 : Int)) = ((n + (firstSpec (l.drop n)).2 : Nat) : Int) by omega]
            have := ih (n + (firstSpec (l.drop n)).2) (out ++ [(firstSpec (l.drop n)).1]) (by omega) (hq.token hlt hb h0 hv)
            rw [List.map_append] at this
            exact this
    · rw [decide_eq_false (by omega : ¬ (n : Int) < ((B l).size : Int))]
      simp only [cond, Option.bind_some, Sum.elim_inr]
      rw [hq.all hp (by omega)]
      rfl

theorem Tok.Scan_eq (s : ByteArray) (hs : s.size < 2 ^ 31) : Tok.Scan s = some ((scanSpec (L s)).1.map toTok, ((scanSpec (L s)).2.1 : Int), ((scanSpec (L s)).2.2 : Int)) := by
  have hl := L_len s
  unfold Tok.Scan
  rw [Tok.run_eq Tok.isText_eq _ (by omega)]
  simp only [Option.bind_some, letk]
  by_cases h : preL pText (L s) < (L s).length
  · rw [decide_eq_true (by omega : ((preL pText (L s) : Nat) : Int) < (s.size : Int))]
    simp only [cond]
    unfold scanSpec
    rw [if_pos h]
    rfl
  · rw [decide_eq_false (by omega : ¬ ((preL pText (L s) : Nat) : Int) < (s.size : Int))]
    have := scan_l0 (L s) (by omega) h (L s).length 0 [] (by omega) (SInv.start _)
    rw [B_L] at this
    exact this
end Go.Q
