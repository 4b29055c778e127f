import Derived.Test.YthdklcpkoeehnaaDoorP7
import Derived.Test.YthdklcpkoeehnaaDoorGL1
namespace Go.Q
open Go Go.Proofs
set_option maxRecDepth 10000

/-! lists of tokens -/

theorem tok_beq (x y : BS × BS) : (((toTok x).Kind.toList == (toTok y).Kind.toList) && (((toTok x).Text.toList == (toTok y).Text.toList) && true)) = decide (x = y) := by
  rw [eqL, eqL]
  show ((x.1 == y.1) && ((x.2 == y.2) && true)) = _
  rw [Bool.eq_iff_iff]
  simp [Prod.ext_iff]

theorem same_l0 (xs ys : List (BS × BS)) (hl : xs.length < 2 ^ 62) (he : xs.length = ys.length) : ∀ k n : Nat, n + k = xs.length →
    Slcs.Equal___quadrat_api.Token_quadrat_api.Token_.l0 (xs.map toTok) (ys.map toTok) xs.length n = some (decide (xs.drop n = ys.drop n)) := by
  intro k
  induction k with
  | zero =>
    intro n hn
    rw [Slcs.Equal___quadrat_api.Token_quadrat_api.Token_.l0_eq, Slcs.Equal___quadrat_api.Token_quadrat_api.Token_.s0]
    simp only [letk]
    rw [decide_eq_false (by omega : ¬ (n : Int) < (xs.length : Int)), List.drop_of_length_le (by omega), List.drop_of_length_le (by omega)]
    rfl
  | succ k ih =>
    intro n hn
    have h1 : n < xs.length := by omega
    have h2 : n < ys.length := by omega
    rw [Slcs.Equal___quadrat_api.Token_quadrat_api.Token_.l0_eq, Slcs.Equal___quadrat_api.Token_quadrat_api.Token_.s0]
    simp only [letk]
    rw [decide_eq_true (by omega : (n : Int) < (xs.length : Int))]
    simp only [cond]
    rw [chk_pos (by omega), Int.toNat_natCast, List.getElem?_map, List.getElem?_eq_getElem h1]
    simp only [Option.map_some, Option.bind_some]
    rw [chk_pos (by omega), List.getElem?_map, List.getElem?_eq_getElem h2]
    simp only [Option.map_some, Option.bind_some]
    rw [tok_beq, List.drop_eq_getElem_cons h1, List.drop_eq_getElem_cons h2]
    by_cases h : xs[n] = ys[n]
    · rw [decide_eq_true h]
      simp only [Bool.not_true, Option.bind_some, Sum.elim_inl]
      rw [w64n (by omega) (by omega), show ((n : Int) + 1) = ((n + 1 : Nat) : Int) by omega, ih (n + 1) (by omega), h]
      congr 1
      simp only [List.cons.injEq, true_and]
    · rw [decide_eq_false h]
      simp only [Bool.not_false, Option.bind_some, Sum.elim_inr]
      rw [decide_eq_false (fun e => h (List.cons.inj e).1)]

theorem Tok.Same_eq (xs ys : List (BS × BS)) (hl : xs.length < 2 ^ 62) : Tok.Same (xs.map toTok) (ys.map toTok) = some (decide (xs = ys)) := by
  unfold Tok.Same Slcs.Equal___quadrat_api.Token_quadrat_api.Token_
  simp only [letk, List.length_map]
  by_cases h : xs.length = ys.length
  · rw [show ((xs.length : Int) != (ys.length : Int)) = false by rw [h]; exact bne_self_eq_false _]
    simp only [cond]
    have := same_l0 xs ys hl h xs.length 0 (by omega)
    rw [show ((0 : Nat) : Int) = 0 from rfl] at this
    rw [this]
    rfl
  · rw [show ((xs.length : Int) != (ys.length : Int)) = true from bne_iff_ne.2 (by omega)]
    simp only [cond, Option.bind_some]
    rw [decide_eq_false (fun e => h (by rw [e]))]

theorem Law4.Awake_eq : Law4.Awake = some true := by
  unfold Law4.Awake
  rw [Tok.Scan_eq _ (by decide)]
  have e : scanSpec (L ⟨#[97, 40, 49, 58, 50, 41, 61, 98, 37, 99]⟩) = ([(kName, [97]), (kOp, [40]), (kInt, [49]), (kOp, [58]), (kInt, [50]), (kOp, [41]), (kOp, [61]), (kName, [98]), (kOp, [37]), (kName, [99])], 0, 0) := by decide +kernel
  rw [e]
  simp only [Option.bind_some, letk, List.map_cons, List.map_nil]
  rw [show ((([toTok (kName, [97]), toTok (kOp, [40]), toTok (kInt, [49]), toTok (kOp, [58]), toTok (kInt, [50]), toTok (kOp, [41]), toTok (kOp, [61]), toTok (kName, [98]), toTok (kOp, [37]), toTok (kName, [99])] : List api.Token).length : Int) == 10) = true from rfl]
  simp only [cond]
  rw [show (((0 : Nat) : Int) == 0) = true from rfl]
  simp only []
  rw [chk_pos (by decide), show (3 : Int).toNat = 3 from rfl]
  simp only [List.getElem?_cons_succ, List.getElem?_cons_zero, Option.bind_some, eqL]
  rw [show ((L (toTok (kOp, [58])).Kind == L ⟨#[111, 112]⟩) && ((L (toTok (kOp, [58])).Text == L ⟨#[58]⟩) && true)) = true by decide]
  simp only []
  rw [chk_pos (by decide), show (4 : Int).toNat = 4 from rfl]
  simp only [List.getElem?_cons_succ, List.getElem?_cons_zero, Option.bind_some]
  rw [show (L (toTok (kInt, [50])).Kind == L ⟨#[105, 110, 116]⟩) = true by decide]

theorem hasQuote_l0 (l : BS) (hl : l.length < 2 ^ 62) : ∀ k n : Nat, n + k = l.length → Law4.hasQuote.l0 (B l) n = some ((l.drop n).any fun c => c == 39 || c == 34) := by
  have hsz : (B l).size = l.length := rfl
  intro k
  induction k with
  | zero =>
    intro n hn
    rw [Law4.hasQuote.l0_eq, Law4.hasQuote.s0]
    simp only [letk]
    rw [decide_eq_false (by omega : ¬ (n : Int) < ((B l).size : Int)), List.drop_of_length_le (by omega)]
    rfl
  | succ k ih =>
    intro n hn
    rw [Law4.hasQuote.l0_eq, Law4.hasQuote.s0]
    simp only [letk]
    rw [decide_eq_true (by omega : (n : Int) < ((B l).size : Int))]
    simp only [cond]
    rw [chk_pos (by omega), chk_pos (by omega), show bt (B l) n = ((l.getD n 0).toNat : Int) from rfl, (u8n _).2.2.2.2.1, (u8n _).2.2.2.2.2, drop_cons (by omega : n < l.length), List.any_cons]
    cases l.getD n 0 == 39 with
    | true => simp
    | false =>
      cases l.getD n 0 == 34 with
      | true => simp
      | false =>
        simp only [Option.bind_some, Sum.elim_inl, Bool.or_self, Bool.false_or]
        rw [w64n (by omega) (by omega)]
        exact ih (n + 1) (by omega)
theorem hasQuote_eq (s : ByteArray) (hs : s.size < 2 ^ 60) : Law4.hasQuote s = some ((L s).any fun c => c == 39 || c == 34) := by
  unfold Law4.hasQuote
  have := hasQuote_l0 (L s) (by rw [L_len]; omega) (L s).length 0 (by omega)
  rw [B_L] at this
  exact this

/-! two texts with a blank between -/

theorem quo_app (q : UInt8) (hq : q ≠ 32) (b : BS) : ∀ (k : Nat) (r : BS), r.length ≤ k → ∀ p, quo q r = some p → quo q (r ++ 32 :: b) = some p
  | k, [], _, p, h => by simp [quo] at h
  | 0, c :: r, hk, p, h => by simp at hk
  | k + 1, c :: r, hk, p, h => by
    simp only [List.length_cons] at hk
    rw [quo_cons] at h
    rw [List.cons_append, quo_cons]
    split at h
    · rename_i hc
      rw [if_pos hc]
      match r, h with
      | [], h =>
        show (if 32 = q then _ else some ([], 1)) = some p
        rw [if_neg (Ne.symm hq)]
        exact h
      | c' :: r', h =>
        replace h : (if c' = q then (quo q r').map fun p => (q :: p.1, p.2 + 2) else some ([], 1)) = some p := h
        show (if c' = q then (quo q (r' ++ 32 :: b)).map fun p => (q :: p.1, p.2 + 2) else some ([], 1)) = some p
        split at h
        · rename_i h1
          rw [if_pos h1]
          cases hr : quo q r' with
          | none => rw [hr] at h; cases h
          | some p' =>
            rw [hr] at h
            simp only [List.length_cons] at hk
            rw [quo_app q hq b k r' (by omega) p' hr]
            exact h
        · rename_i h1
          rw [if_neg h1]; exact h
    · rename_i hc
      rw [if_neg hc]
      cases hr : quo q r with
      | none => rw [hr] at h; cases h
      | some p' =>
        rw [hr] at h
        rw [quo_app q hq b k r (by omega) p' hr]
        exact h

theorem nb_app (r b : BS) : nb (r ++ 32 :: b) = nb r := by
  induction r with
  | nil => rfl
  | cons c r ih =>
    rw [List.cons_append, nb_cons, nb_cons, ih]

theorem quote_no_letter {c : UInt8} (h : c = 39 ∨ c = 34) : pLetter (c.toNat : Int) = false := by
  rcases h with rfl | rfl <;> decide

theorem first_app (r b : BS) (h0 : r ≠ []) (h1 : r.getD 0 0 ≠ 32) (h2 : (firstSpec r).2 ≠ 0) : firstSpec (r ++ 32 :: b) = firstSpec r := by
  have e0 : (r ++ 32 :: b).getD 0 0 = r.getD 0 0 := by cases r with | nil => exact absurd rfl h0 | cons c r => rfl
  by_cases hq : r.getD 0 0 = 39 ∨ r.getD 0 0 = 34
  · have hl := quote_no_letter hq
    have key : ∀ l : BS, l.getD 0 0 = r.getD 0 0 → firstSpec l = ((kText, (quoted l).1), (quoted l).2) := by
      intro l hl0
      unfold firstSpec
      rw [hl0, if_neg (by rw [hl]; simp), if_pos hq]
    rw [key r rfl] at h2 ⊢
    rw [key _ e0]
    have : quoted (r ++ 32 :: b) = quoted r := by
      unfold quoted at h2 ⊢
      rw [e0]
      have ed : (r ++ 32 :: b).drop 1 = r.drop 1 ++ 32 :: b := by cases r with | nil => exact absurd rfl h0 | cons c r => rfl
      rw [ed]
      cases hr : quo (r.getD 0 0) (r.drop 1) with
      | none => rw [hr] at h2; exact absurd rfl h2
      | some p =>
        rw [quo_app _ (by rcases hq with h | h <;> rw [h] <;> decide) b _ _ (Nat.le_refl _) p hr]
    rw [this]
  · rw [← first_norm (r ++ 32 :: b) (by simp) (by rw [e0]; exact h1) (by rw [e0]; exact hq), ← first_norm r h0 h1 hq]
    unfold norm
    rw [nb_app]

theorem scanG_fuel : ∀ (f : Nat) (r : BS) (i : Nat), r.length < f → ∀ g, r.length < g → scanG f r i = scanG g r i
  | 0, r, i, h, _, _ => by omega
  | f + 1, r, i, h, 0, hg => by omega
  | f + 1, r, i, h, g + 1, hg => by
    unfold scanG
    by_cases h0 : r = []
    · rw [if_pos h0, if_pos h0]
    · rw [if_neg h0, if_neg h0]
      have hpos := List.length_pos_iff.2 h0
      split
      · exact scanG_fuel f _ _ (by rw [List.length_drop]; omega) g (by rw [List.length_drop]; omega)
      · split
        · rfl
        · rename_i hc
          have hn : (firstSpec r).2 ≠ 0 := fun e => hc (.inl e)
          rw [scanG_fuel f _ _ (by rw [List.length_drop]; omega) g (by rw [List.length_drop]; omega)]

theorem scanG_shift : ∀ (f : Nat) (r : BS) (i k : Nat), scanG f r (i + k) = match scanG f r i with | .ok ts => .ok ts | .error e => .error (e + k)
  | 0, r, i, k => rfl
  | f + 1, r, i, k => by
    unfold scanG
    split
    · rfl
    · split
      · rw [show i + k + 1 = i + 1 + k by omega, scanG_shift f _ (i + 1) k]
      · split
        · rfl
        · rw [show i + k + (firstSpec r).2 = i + (firstSpec r).2 + k by omega, scanG_shift f _ (i + (firstSpec r).2) k]
          cases scanG f (r.drop (firstSpec r).2) (i + (firstSpec r).2) <;> rfl

theorem scanG_err : ∀ (f : Nat) (r : BS) (i e : Nat), scanG f r i = .error e → e < i + r.length
  | 0, r, i, e, h => by cases h
  | f + 1, r, i, e, h => by
    unfold scanG at h
    split at h
    · cases h
    · rename_i h0
      have hpos := List.length_pos_iff.2 h0
      split at h
      · have := scanG_err f _ _ e h
        rw [List.length_drop] at this; omega
      · split at h
        · cases h; omega
        · cases hg : scanG f (r.drop (firstSpec r).2) (i + (firstSpec r).2) with
          | ok ts => rw [hg] at h; cases h
          | error e' =>
            rw [hg] at h
            have := scanG_err f _ _ e' hg
            have hle := first_le r h0
            rw [List.length_drop] at this
            simp only [Except.map] at h
            cases h; omega

theorem scanG_app (b : BS) : ∀ (f : Nat) (r : BS), r.length < f → ∀ i ts, scanG f r i = .ok ts → ∀ g, (r ++ 32 :: b).length < g →
    scanG g (r ++ 32 :: b) i = (scanG (b.length + 1) b (i + r.length + 1)).map (ts ++ ·)
  | 0, r, h, _, _, _, _, _ => by omega
  | f + 1, r, h, i, ts, hts, 0, hg => by omega
  | f + 1, r, h, i, ts, hts, g + 1, hg => by
    simp only [List.length_append, List.length_cons] at hg
    unfold scanG at hts
    by_cases h0 : r = []
    · subst h0
      rw [if_pos rfl] at hts
      cases hts
      rw [List.nil_append, scanG, if_neg (by simp), if_pos (by rfl)]
      rw [show (32 :: b).drop 1 = b from rfl, scanG_fuel g b _ (by omega) (b.length + 1) (by omega)]
      simp only [List.length_nil, Nat.add_zero]
      cases scanG (b.length + 1) b (i + 1) <;> rfl
    · rw [if_neg h0] at hts
      have hpos := List.length_pos_iff.2 h0
      have e0 : (r ++ 32 :: b).getD 0 0 = r.getD 0 0 := by cases r with | nil => exact absurd rfl h0 | cons c r => rfl
      rw [scanG, if_neg (by simp), e0]
      by_cases h1 : r.getD 0 0 = 32
      · rw [if_pos h1] at hts ⊢
        have ed : (r ++ 32 :: b).drop 1 = r.drop 1 ++ 32 :: b := by cases r with | nil => exact absurd rfl h0 | cons c r => rfl
        rw [ed, scanG_app b f _ (by rw [List.length_drop]; omega) _ ts hts g (by simp only [List.length_append, List.length_drop, List.length_cons]; omega)]
        rw [List.length_drop, show i + 1 + (r.length - 1) + 1 = i + r.length + 1 by omega]
      · rw [if_neg h1] at hts ⊢
        by_cases hc : (firstSpec r).2 = 0 ∨ valid (firstSpec r).1.1 (firstSpec r).1.2 = false
        · rw [if_pos hc] at hts; cases hts
        · rw [if_neg hc] at hts
          have hn : (firstSpec r).2 ≠ 0 := fun e => hc (.inl e)
          rw [first_app r b h0 h1 hn, if_neg hc]
          have hle := first_le r h0
          rw [List.drop_append_of_le_length hle]
          cases hg2 : scanG f (r.drop (firstSpec r).2) (i + (firstSpec r).2) with
          | error e => rw [hg2] at hts; cases hts
          | ok ts' =>
            rw [hg2] at hts
            simp only [Except.map, Except.ok.injEq] at hts
            rw [scanG_app b f _ (by rw [List.length_drop]; omega) _ ts' hg2 g (by simp only [List.length_append, List.length_drop, List.length_cons]; omega)]
            rw [List.length_drop, show i + (firstSpec r).2 + (r.length - (firstSpec r).2) + 1 = i + r.length + 1 by omega, ← hts]
            cases scanG (b.length + 1) b (i + r.length + 1) <;> simp [Except.map]

theorem preL_app {p : Int → Bool} : ∀ (a b : BS), preL p a = a.length → preL p (a ++ b) = a.length + preL p b
  | [], b, _ => by simp
  | c :: a, b, h => by
    simp only [preL, List.takeWhile_cons] at h
    split at h
    · rename_i hc
      have ih := preL_app a b (by simpa [preL] using h)
      simp only [preL] at ih
      simp only [preL, List.cons_append, List.takeWhile_cons, hc, if_true, List.length_cons, ih]
      omega
    · simp at h

/-- What the scanner says of a text whose bytes are all those of texts. -/
theorem scan_text {l : BS} (h : ¬ preL pText l < l.length) : scanSpec l = match scanG (l.length + 1) l 0 with | .ok ts => (ts, 0, 0) | .error i => ([], i, 3) := by
  unfold scanSpec
  rw [if_neg h]
  cases scanG (l.length + 1) l 0 <;> rfl
theorem scan_ok0 {l : BS} (h : (scanSpec l).2.2 = 0) : ¬ preL pText l < l.length ∧ scanG (l.length + 1) l 0 = .ok (scanSpec l).1 ∧ (scanSpec l).2.1 = 0 := by
  unfold scanSpec at h ⊢
  split
  · rename_i h1; rw [if_pos h1] at h; cases h
  · rename_i h1
    rw [if_neg h1] at h
    refine ⟨h1, ?_⟩
    cases hg : scanG (l.length + 1) l 0 with
    | ok ts => exact ⟨rfl, rfl⟩
    | error i => rw [hg] at h; cases h
theorem scan_code (l : BS) : (scanSpec l).2.2 = 0 ∨ ((scanSpec l).2.2 = 3 ∧ (scanSpec l).1 = [] ∧ (scanSpec l).2.1 < l.length) := by
  unfold scanSpec
  split
  · rename_i h; exact .inr ⟨rfl, rfl, h⟩
  · cases hg : scanG (l.length + 1) l 0 with
    | ok ts => exact .inl rfl
    | error i =>
      have := scanG_err _ _ _ _ hg
      exact .inr ⟨rfl, rfl, by simpa using this⟩

theorem scan_join (a b : BS) (h : (scanSpec a).2.2 = 0) : scanSpec (a ++ 32 :: b) = if (scanSpec b).2.2 = 0 then ((scanSpec a).1 ++ (scanSpec b).1, 0, 0) else ([], a.length + 1 + (scanSpec b).2.1, (scanSpec b).2.2) := by
  obtain ⟨h1, h2, _⟩ := scan_ok0 h
  have ha : preL pText a = a.length := by have := preL_le pText a; omega
  have hap : preL pText (a ++ 32 :: b) = a.length + (1 + preL pText b) := by
    rw [preL_app a _ ha]
    congr 1
    show (List.takeWhile _ (32 :: b)).length = _
    rw [List.takeWhile_cons, if_pos (by decide)]
    simp [preL, Nat.add_comm]
  have hlen : (a ++ 32 :: b).length = a.length + (b.length + 1) := by simp
  by_cases hb : preL pText b < b.length
  · have eb : scanSpec b = ([], preL pText b, 3) := by unfold scanSpec; rw [if_pos hb]
    rw [eb]
    unfold scanSpec
    rw [if_pos (by rw [hap, hlen]; omega), hap]
    simp [Nat.add_assoc]
  · rw [scan_text (by rw [hap, hlen]; omega), scanG_app b (a.length + 1) a (by omega) 0 _ h2 _ (by omega), scan_text hb]
    rw [show 0 + a.length + 1 = 0 + (a.length + 1) by omega, scanG_shift]
    cases scanG (b.length + 1) b 0 with
    | ok ts => rfl
    | error e => simp [Except.map, Nat.add_comm]
end Go.Q
