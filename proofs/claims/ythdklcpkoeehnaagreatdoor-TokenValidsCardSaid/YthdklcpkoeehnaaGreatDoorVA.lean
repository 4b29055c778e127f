import Derived.Test.YthdklcpkoeehnaaGreatDoorRA
import Derived.Test.YthdklcpkoeehnaaGreatDoorGL1
namespace Go.Q
open Go Go.Proofs
set_option maxRecDepth 10000

/-! which tokens are valid: those that a text of their own has -/

def textL (l : BS) : Bool := l.all fun c => pText (c.toNat : Int)
theorem txt_app (a b : BS) : textL (a ++ b) = (textL a && textL b) := by unfold textL; rw [List.all_append]
theorem txt_nil : textL [] = true := rfl
theorem txt_cons (c : UInt8) (l : BS) : textL (c :: l) = (pText (c.toNat : Int) && textL l) := rfl
theorem txt_dig (c : UInt8) (h : pDigit c.toNat = true) : pText (c.toNat : Int) = true := by
  simp only [pDigit, pText, Bool.and_eq_true, decide_eq_true_eq] at h ⊢; omega
theorem txt_digs {l : BS} (h : ∀ c ∈ l, pDigit c.toNat = true) : textL l = true := by
  unfold textL
  simp only [List.all_eq_true]
  exact fun c hc => txt_dig c (h c hc)
theorem txt_split (l : BS) (n : Nat) (h1 : textL (l.take n) = true) (h2 : textL (l.drop n) = true) : textL l = true := by
  rw [← List.take_append_drop n l, txt_app, h1, h2]; rfl
theorem txt_head (l : BS) (h : pText ((l.getD 0 0).toNat : Int) = true) (h2 : textL (l.drop 1) = true) : textL l = true := by
  cases l with
  | nil => rfl
  | cons a r => rw [txt_cons, show pText (a.toNat : Int) = true from h]; exact h2
theorem txt_unsign (l : BS) (h : textL (unsign l) = true) : textL l = true := by
  unfold unsign at h
  split at h
  · rename_i h1
    refine txt_head l ?_ h
    simp only [Bool.and_eq_true, isSign, Bool.or_eq_true, beq_iff_eq] at h1
    rcases h1.2 with h2 | h2 <;> rw [h2] <;> decide
  · exact h
theorem txt_decTail (l : BS) (h : decTail l = true) : textL l = true := by
  unfold decTail at h
  split at h
  · rename_i h0; rw [h0]; rfl
  · split at h
    · rename_i h1
      simp only [Bool.and_eq_true, beq_iff_eq] at h
      refine txt_head l ?_ (txt_unsign _ (txt_digs (preL_all h.2)))
      simp only [isExp, Bool.or_eq_true, beq_iff_eq] at h1
      rcases h1 with ((h1 | h1) | h1) | h1 <;> rw [h1] <;> decide
    · cases h
theorem txt_decBody (l : BS) (h : decBody l = true) : textL l = true := by
  unfold decBody at h
  simp only at h
  refine txt_split l (preL pDigit l) (txt_digs (take_preL _ _)) ?_
  split at h
  · rename_i h1
    simp only [Bool.and_eq_true, beq_iff_eq] at h1
    split at h
    · cases h
    · refine txt_head _ (by rw [h1.1]; decide) ?_
      rw [List.drop_drop]
      refine txt_split _ (preL pDigit (l.drop (preL pDigit l + 1))) (txt_digs (take_preL _ _)) ?_
      rw [List.drop_drop]
      exact txt_decTail _ h
  · split at h
    · cases h
    · exact txt_decTail _ h
theorem txt_decIs (l : BS) (h : decIs l = true) : textL l = true := by
  unfold decIs at h
  simp only [Bool.or_eq_true, decide_eq_true_eq] at h
  refine txt_unsign l ?_
  rcases h with (h | h) | h
  · rw [h]; rfl
  · rw [h]; rfl
  · exact txt_decBody _ h

theorem textL_pre {l : BS} (h : textL l = true) : ¬ preL pText l < l.length := by
  rw [preL_allB]
  unfold textL at h
  rw [h]; simp

/-- What a valid token's text looks like to the scanner. -/
structure Own (k t : BS) : Prop where
  ne : t ≠ []
  blank : t.getD 0 0 ≠ 32
  text : textL t = true
  first : firstSpec t = ((k, t), t.length)

theorem part_text (c : UInt8) (h : pPart (c.toNat : Int) = true) : pText (c.toNat : Int) = true := by
  have h2 := bytes_all (fun c => !(pPart (c.toNat : Int)) || pText (c.toNat : Int)) (by decide +kernel) c
  simpa [h] using h2
theorem own_name {t : BS} (h : isName t = true) : Own kName t := by
  have hv : valid kName t = true := h
  unfold isName at h
  simp only [Bool.and_eq_true, decide_eq_true_eq, beq_iff_eq] at h
  obtain ⟨⟨⟨⟨h1, h2⟩, h3⟩, h4⟩, h5⟩ := h
  refine ⟨h1, ?_, ?_, ?_⟩
  · intro e; rw [e] at h3; exact absurd h3 (by decide)
  · unfold textL
    rw [List.all_eq_true]
    exact fun c hc => part_text c (preL_all h4 c hc)
  · unfold firstSpec
    rw [if_pos h3, h4, List.take_length, ← h5, hv]
    rfl
theorem own_num {t : BS} (hs : StN t) (hN : numN t = t.length) (hsm : t = small t) (ht : textL t = true) (hv : valid (if numR t then kReal else kInt) t = true) : Own (if numR t then kReal else kInt) t := by
  have hne : t ≠ [] := by
    rintro rfl
    rcases hs with h | ⟨h, _⟩
    · exact absurd h (by decide)
    · exact absurd h (by decide)
  have hL : ¬ pLetter ((t.getD 0 0).toNat : Int) = true := by
    rcases hs with h | ⟨h, _⟩
    · rw [(dig_all _ h).2.2.2.2.1]; simp
    · rw [h]; decide
  have hq : ¬ (t.getD 0 0 = 39 ∨ t.getD 0 0 = 34) := by
    rintro (h | h) <;> unfold StN at hs <;> rw [h] at hs <;> rcases hs with hS | ⟨hS, _⟩
    · exact absurd hS (by decide)
    · exact absurd hS (by decide)
    · exact absurd hS (by decide)
    · exact absurd hS (by decide)
  have hw : ¬ wordOf t ≠ [] := by
    intro h
    obtain ⟨h1, h2, _⟩ := word_head h
    rcases hs with hS | ⟨_, hS⟩
    · rw [h1] at hS; exact absurd hS (by decide)
    · rw [h2] at hS; cases hS
  have hd : pDigit ((t.getD 0 0).toNat : Int) = true ∨ t.getD 0 0 = 46 ∧ 1 < t.length ∧ pDigit ((t.getD 1 0).toNat : Int) = true := by
    rcases hs with h | ⟨h1, h2⟩
    · exact .inl h
    · refine .inr ⟨h1, ?_, h2⟩
      rcases Nat.lt_or_ge 1 t.length with h | h
      · exact h
      · rw [getD_past h] at h2; exact absurd h2 (by decide)
  refine ⟨hne, ?_, ht, ?_⟩
  · intro e; unfold StN at hs; rw [e] at hs
    rcases hs with hS | ⟨hS, _⟩
    · exact absurd hS (by decide)
    · exact absurd hS (by decide)
  · have hT : numT t = (if numR t then kReal else kInt, t) := by unfold numT; rw [hN, List.take_length, ← hsm]
    unfold firstSpec
    rw [if_neg hL, if_neg hq, if_neg hw, if_pos hd, hT, hN, if_neg (c := _ ∧ _) (fun h => Nat.lt_irrefl _ h.1)]
    simp only [hv, if_true]
theorem own_int {t : BS} (h : Go.Q.isInt t = true) : Own kInt t := by
  have hv : valid kInt t = true := h
  unfold Go.Q.isInt at h
  simp only [Bool.and_eq_true, decide_eq_true_eq, beq_iff_eq] at h
  obtain ⟨⟨h1, h2⟩, h3⟩ := h
  have hd : Digs t := preL_all h3
  have hp : hasPoint t = false := by unfold hasPoint; rw [decide_eq_false (by omega)]; simp
  have hpn : pointN t = t.length := by unfold pointN; rw [hp, h3]; rfl
  have hR : numR t = false := by unfold numR; rw [hp, hpn, List.drop_length]; rfl
  have hN : numN t = t.length := by unfold numN; rw [hpn, List.drop_length]; rfl
  have hs : StN t := by
    left
    match t, h1, hd with
    | c :: r, _, hd => exact hd c (List.mem_cons_self ..)
  have := own_num hs hN (small_digs hd).symm (txt_digs hd) (by rw [hR]; exact hv)
  rw [hR] at this
  exact this
theorem own_real {t : BS} (h : isRealL t = true) : Own kReal t := by
  have hv : valid kReal t = true := h
  unfold isRealL at h
  simp only [Bool.and_eq_true, decide_eq_true_eq, beq_iff_eq] at h
  obtain ⟨⟨⟨⟨⟨⟨h1, h2⟩, h3⟩, h4⟩, h5⟩, h6⟩, h7⟩ := h
  have hs : StN t := by
    rcases Bool.or_eq_true_iff.1 h2 with h | h
    · exact .inl h
    · right
      have h46 : t.getD 0 0 = 46 := beq_iff_eq.1 h
      refine ⟨h46, ?_⟩
      match t, h46, h4 with
      | [], h46, _ => exact absurd h46 (by decide)
      | c :: r, h46, h4 =>
        have hc : c = 46 := h46
        subst hc
        unfold decIs at h4
        rw [show unsign (46 :: r) = 46 :: r from rfl] at h4
        simp only [Bool.or_eq_true, decide_eq_true_eq] at h4
        rcases h4 with (h4 | h4) | h4
        · cases (List.cons.inj h4).1
        · cases (List.cons.inj h4).1
        · unfold decBody at h4
          have p0 : preL pDigit (46 :: r) = 0 := preL_stop (by decide)
          simp only [p0, List.drop_zero] at h4
          rw [if_pos (by simp)] at h4
          match r, h4 with
          | [], h4 => simp [preL] at h4
          | y :: r', h4 =>
            show pDigit (y.toNat : Int) = true
            cases hy : pDigit (y.toNat : Int) with
            | true => rfl
            | false =>
              rw [show (46 :: y :: r' : BS).drop (0 + 1) = y :: r' from rfl, preL_stop hy] at h4
              simp at h4
  have := own_num hs h6 h3 (txt_decIs t h4) (by rw [h5]; exact hv)
  rw [h5] at this
  exact this
theorem own_op {t : BS} (h : t ∈ signs ∨ t ∈ words.take 4) : Own kOp t := by
  have h1 : ∀ o ∈ signs ++ words.take 4, o ≠ [] ∧ o.getD 0 0 ≠ 32 ∧ textL o = true ∧ firstSpec o = ((kOp, o), o.length) := by decide +kernel
  obtain ⟨a, b, c, d⟩ := h1 t (List.mem_append.2 h)
  exact ⟨a, b, c, d⟩
theorem own_log {t : BS} (h : t ∈ words.drop 4) : Own kLog t := by
  have h1 : ∀ o ∈ words.drop 4, o ≠ [] ∧ o.getD 0 0 ≠ 32 ∧ textL o = true ∧ firstSpec o = ((kLog, o), o.length) := by decide +kernel
  obtain ⟨a, b, c, d⟩ := h1 t h
  exact ⟨a, b, c, d⟩
theorem own_of {k t : BS} (hk : k ≠ kText) (h : valid k t = true) : Own k t := by
  unfold valid at h
  split at h
  · rename_i e; subst e; exact own_name h
  split at h
  · rename_i e; subst e; exact own_int h
  split at h
  · rename_i e; subst e; exact own_real h
  split at h
  · rename_i e; subst e
    rw [Bool.or_eq_true, decide_eq_true_eq, decide_eq_true_eq] at h
    exact own_op h
  split at h
  · rename_i e; subst e; exact own_log (of_decide_eq_true h)
  · cases h
theorem own_scan {k t : BS} (h : Own k t) (hv : valid k t = true) : scanSpec t = ([(k, t)], 0, 0) := by
  obtain ⟨h1, h2, h3, h4⟩ := h
  have hl := List.length_pos_iff.2 h1
  rw [scan_text (textL_pre h3), scanG, if_neg h1, if_neg h2, h4, if_neg (by simp only [hv]; simp; exact h1)]
  simp only [List.drop_length]
  obtain ⟨n, hn⟩ : ∃ n, t.length = n + 1 := ⟨t.length - 1, by omega⟩
  rw [hn, scanG, if_pos rfl]
  rfl
theorem scanG_valid : ∀ (f : Nat) (r : BS) (i : Nat) ts, scanG f r i = .ok ts → ∀ p ∈ ts, valid p.1 p.2 = true
  | 0, r, i, ts, h, p, hp => by cases h; cases hp
  | f + 1, r, i, ts, h, p, hp => by
    unfold scanG at h
    split at h
    · cases h; cases hp
    · split at h
      · exact scanG_valid f _ _ ts h p hp
      · split at h
        · cases h
        · rename_i hc
          cases hg : scanG f (r.drop (firstSpec r).2) (i + (firstSpec r).2) with
          | error e' => rw [hg] at h; cases h
          | ok ts' =>
            rw [hg] at h
            simp only [Except.map] at h
            cases h
            rcases List.mem_cons.1 hp with rfl | hp
            · cases hv : valid (firstSpec r).1.1 (firstSpec r).1.2 with
              | true => rfl
              | false => exact absurd (.inr hv) hc
            · exact scanG_valid f _ _ ts' hg p hp
theorem scan_valid (l : BS) : ∀ p ∈ (scanSpec l).1, valid p.1 p.2 = true := by
  unfold scanSpec
  split
  · intro p hp; cases hp
  · cases hg : scanG (l.length + 1) l 0 with
    | ok ts => exact scanG_valid _ _ _ _ hg
    | error i => intro p hp; cases hp
theorem valid_scan {k t : BS} (hk : k ≠ kText) : valid k t = decide (scanSpec t = ([(k, t)], 0, 0)) := by
  cases h : valid k t with
  | true => rw [decide_eq_true (own_scan (own_of hk h) h)]
  | false =>
    rw [decide_eq_false]
    intro e
    have := scan_valid t (k, t) (by rw [e]; simp)
    rw [h] at this; cases this
end Go.Q
namespace Go.Q
open Go Go.Proofs
set_option maxRecDepth 10000

/-! the reference's Valid, IsName and Kind8 -/

theorem rvalid_l0 (k : ByteArray) (l : BS) (hl : l.length < 2 ^ 31) : ∀ j n : Nat, n + j = l.length → Ref4.Valid.l0 k (B l) n = some ((l.drop n).all fun c => pText (c.toNat : Int)) := by
  have hsz : (B l).size = l.length := rfl
  intro j
  induction j with
  | zero =>
    intro n hn
    rw [Ref4.Valid.l0_eq, Ref4.Valid.s0]
    simp only [letk]
    rw [decide_eq_false (by omega : ¬ (n : Int) < ((B l).size : Int)), cond_false, List.drop_of_length_le (by omega)]
    rfl
  | succ j ih =>
    intro n hn
    have hlt : n < l.length := by omega
    rw [Ref4.Valid.l0_eq, Ref4.Valid.s0]
    simp only [letk]
    rw [decide_eq_true (by omega : (n : Int) < ((B l).size : Int)), cond_true, chk_pos (by omega), chk_pos (by omega), show bt (B l) n = ((l.getD n 0).toNat : Int) from rfl, drop_cons hlt, List.all_cons]
    have hT : pText ((l.getD n 0).toNat : Int) = (!(decide (((l.getD n 0).toNat : Int) < 32)) && !(decide (((l.getD n 0).toNat : Int) > 126))) := by
      unfold pText
      rw [Bool.eq_iff_iff]
      simp only [Bool.and_eq_true, decide_eq_true_eq, Bool.not_eq_true', decide_eq_false_iff_not]
      omega
    rw [hT]
    cases h1 : decide (((l.getD n 0).toNat : Int) < 32) with
    | true => rfl
    | false =>
      rw [cond_false]
      cases h2 : decide (((l.getD n 0).toNat : Int) > 126) with
      | true => rfl
      | false =>
        simp only [cond_false, Option.bind_some, Sum.elim_inl, Bool.not_false, Bool.and_self, Bool.true_and]
        rw [w64n (by omega) (by omega), show ((n : Int) + 1) = ((n + 1 : Nat) : Int) by omega]
        exact ih (n + 1) (by omega)
theorem Ref4.Valid_eq (t : api.Token) (hs : t.Text.size < 2 ^ 31) : Ref4.Valid t = some (valid (L t.Kind) (L t.Text)) := by
  obtain ⟨k, x⟩ := t
  obtain ⟨k, rfl⟩ : ∃ u, k = B u := ⟨L k, (B_L k).symm⟩
  obtain ⟨l, rfl⟩ : ∃ u, x = B u := ⟨L x, (B_L x).symm⟩
  have hl : l.length < 2 ^ 31 := hs
  unfold Ref4.Valid
  simp only [letk]
  rw [eqL, L_B, L_B, show (L ⟨#[116, 101, 120, 116]⟩ : BS) = kText from rfl]
  by_cases hk : k = kText
  · subst hk
    rw [beq_self_eq_true, cond_true]
    have := rvalid_l0 (B kText) l hl l.length 0 (by omega)
    rw [List.drop_zero, show ((0 : Nat) : Int) = 0 from rfl] at this
    rw [this]
    show _ = some (preL pText l == l.length)
    congr 1
    have h1 := preL_allB (p := pText) l
    have h2 := preL_le pText l
    cases h : l.all fun c => pText (c.toNat : Int) with
    | true => exact (beq_iff_eq.2 (by have : ¬ preL pText l < l.length := fun e => by rw [h1, h] at e; cases e
                                      omega)).symm
    | false => exact (beq_eq_false_iff_ne.2 (by have := h1.2 h; omega)).symm
  · rw [beq_eq_false_iff_ne.2 hk, cond_false, Ref4.Scan_eq _ (by rw [size_B]; exact hl), L_B, valid_scan hk]
    simp only [Option.bind_some]
    by_cases h0 : (scanSpec l).2.2 = 0
    · rw [int_beq (by omega : (((scanSpec l).2.2 : Nat) : Int) = 0), cond_true]
      have h20 := (scan_ok0 h0).2.2
      cases hts : (scanSpec l).1 with
      | nil =>
        rw [decide_eq_false (fun e => by rw [e] at hts; cases hts)]
        rfl
      | cons p r =>
        cases r with
        | nil =>
          rw [show (((List.map toTok [p]).length : Nat) : Int) = 1 from rfl, beq_self_eq_true, cond_true, chk_pos (by omega)]
          show some (((toTok p).Kind.toList == (toTok (k, l)).Kind.toList) && (((toTok p).Text.toList == (toTok (k, l)).Text.toList) && true)) = _
          rw [tok_beq]
          congr 1
          rw [decide_eq_decide]
          constructor
          · intro e; subst e
            exact Prod.ext hts (Prod.ext h20 h0)
          · intro e
            rw [e] at hts
            exact (List.cons.inj hts).1.symm
        | cons p2 r =>
          rw [int_bne (by simp only [List.length_map, List.length_cons]; omega), cond_false, decide_eq_false (fun e => by rw [e] at hts; cases hts)]
    · rw [int_bne (by omega), cond_false, decide_eq_false (fun e => h0 (by rw [e]))]
theorem kind8_l0 (l : BS) (hl : l.length < 2 ^ 31) : ∀ j n : Nat, n + j = l.length → Ref4.Kind8.l0 (B l) n = some ((l.drop n).any fun c => c == 100 || c == 68) := by
  have hsz : (B l).size = l.length := rfl
  intro j
  induction j with
  | zero =>
    intro n hn
    rw [Ref4.Kind8.l0_eq, Ref4.Kind8.s0]
    simp only [letk]
    rw [decide_eq_false (by omega : ¬ (n : Int) < ((B l).size : Int)), cond_false, List.drop_of_length_le (by omega)]
    rfl
  | succ j ih =>
    intro n hn
    have hlt : n < l.length := by omega
    rw [Ref4.Kind8.l0_eq, Ref4.Kind8.s0]
    simp only [letk]
    rw [decide_eq_true (by omega : (n : Int) < ((B l).size : Int)), cond_true, chk_pos (by omega), chk_pos (by omega), show bt (B l) n = ((l.getD n 0).toNat : Int) from rfl, drop_cons hlt, List.any_cons]
    rw [show (((l.getD n 0).toNat : Int) == 100) = (l.getD n 0 == 100) from beq_u8 _ 100 (by omega), show (((l.getD n 0).toNat : Int) == 68) = (l.getD n 0 == 68) from beq_u8 _ 68 (by omega)]
    cases l.getD n 0 == 100 with
    | true => rfl
    | false =>
      cases l.getD n 0 == 68 with
      | true => rfl
      | false =>
        simp only [cond_false, Option.bind_some, Sum.elim_inl, Bool.or_self, Bool.false_or]
        rw [w64n (by omega) (by omega), show ((n : Int) + 1) = ((n + 1 : Nat) : Int) by omega]
        exact ih (n + 1) (by omega)
theorem Ref4.Kind8_eq (s : ByteArray) (hs : s.size < 2 ^ 31) : Ref4.Kind8 s = some ((L s).any fun c => c == 100 || c == 68) := by
  unfold Ref4.Kind8
  have := kind8_l0 (L s) (by rw [L_len]; exact hs) (L s).length 0 (by omega)
  rw [B_L] at this
  exact this

def inName (c : UInt8) : Bool := pPart (c.toNat : Int) && !(decide (65 ≤ c.toNat) && decide (c.toNat ≤ 90))
theorem isname_l0 (l : BS) (hl : l.length < 2 ^ 31) : ∀ j n : Nat, n + j = l.length → Ref4.IsName.l0 (B l) n = some ((l.drop n).all inName) := by
  have hsz : (B l).size = l.length := rfl
  intro j
  induction j with
  | zero =>
    intro n hn
    rw [Ref4.IsName.l0_eq, Ref4.IsName.s0]
    simp only [letk]
    rw [decide_eq_false (by omega : ¬ (n : Int) < ((B l).size : Int)), cond_false, List.drop_of_length_le (by omega)]
    rfl
  | succ j ih =>
    intro n hn
    have hlt : n < l.length := by omega
    rw [Ref4.IsName.l0_eq, Ref4.IsName.s0]
    simp only [letk]
    rw [decide_eq_true (by omega : (n : Int) < ((B l).size : Int)), cond_true, chk_pos (by omega), show bt (B l) n = ((l.getD n 0).toNat : Int) from rfl, Ref4.isInner_eq, drop_cons hlt, List.all_cons]
    simp only [Option.bind_some]
    rw [show inName (l.getD n 0) = (pPart ((l.getD n 0).toNat : Int) && !(decide (((l.getD n 0).toNat : Int) ≥ 65) && decide (((l.getD n 0).toNat : Int) ≤ 90))) by
      unfold inName
      congr 2
      rw [Bool.eq_iff_iff]; simp only [Bool.and_eq_true, decide_eq_true_eq]; omega]
    have step : (some (Sum.inl (α := Int) (β := Bool) (IntKind.i64.wrap ((n : Int) + 1)))).bind (Sum.elim (fun v => Ref4.IsName.l0 (B l) v) some) = some ((l.drop (n + 1)).all inName) := by
      simp only [Option.bind_some, Sum.elim_inl]
      rw [w64n (by omega) (by omega), show ((n : Int) + 1) = ((n + 1 : Nat) : Int) by omega]
      exact ih (n + 1) (by omega)
    cases pPart ((l.getD n 0).toNat : Int) with
    | false => rfl
    | true =>
      simp only [Bool.not_true, cond_false, Bool.true_and]
      rw [chk_pos (by omega)]
      cases decide (((l.getD n 0).toNat : Int) ≥ 65) with
      | false => simpa using step
      | true =>
        rw [cond_true, chk_pos (by omega)]
        cases decide (((l.getD n 0).toNat : Int) ≤ 90) with
        | true => rfl
        | false => simpa using step
end Go.Q
namespace Go.Q
open Go Go.Proofs
set_option maxRecDepth 10000

theorem low_id (c : UInt8) : (low c = c) ↔ (decide (65 ≤ c.toNat) && decide (c.toNat ≤ 90)) = false := by
  have h := bytes_all (fun c => (low c == c) == !(decide (65 ≤ c.toNat) && decide (c.toNat ≤ 90))) (by decide +kernel) c
  rw [beq_iff_eq] at h
  rw [← beq_iff_eq, h, Bool.not_eq_true']
theorem small_id : ∀ l : BS, (l == small l) = l.all fun c => !(decide (65 ≤ c.toNat) && decide (c.toNat ≤ 90))
  | [] => rfl
  | c :: l => by
    have ih := small_id l
    rw [List.all_cons, ← ih]
    rw [Bool.eq_iff_iff]
    simp only [small, List.map_cons, beq_iff_eq, List.cons.injEq, Bool.and_eq_true, Bool.not_eq_true']
    rw [eq_comm (a := c), low_id]
theorem all_inName (l : BS) : l.all inName = ((preL pPart l == l.length) && (l == small l)) := by
  rw [small_id]
  have h1 := preL_allB (p := pPart) l
  have h2 := preL_le pPart l
  have h3 : (preL pPart l == l.length) = l.all fun c => pPart (c.toNat : Int) := by
    cases h : l.all fun c => pPart (c.toNat : Int) with
    | true =>
      have : ¬ preL pPart l < l.length := fun e => by rw [h1, h] at e; cases e
      exact beq_iff_eq.2 (by omega)
    | false => exact beq_eq_false_iff_ne.2 (by have := h1.2 h; omega)
  rw [h3]
  rw [Bool.eq_iff_iff, Bool.and_eq_true, List.all_eq_true, List.all_eq_true, List.all_eq_true]
  unfold inName
  constructor
  · intro h
    exact ⟨fun c hc => (Bool.and_eq_true_iff.1 (h c hc)).1, fun c hc => (Bool.and_eq_true_iff.1 (h c hc)).2⟩
  · intro ⟨h, h'⟩ c hc
    exact Bool.and_eq_true_iff.2 ⟨h c hc, h' c hc⟩
theorem Ref4.IsName_eq (s : ByteArray) (hs : s.size < 2 ^ 31) : Ref4.IsName s = some (isName (L s)) := by
  obtain ⟨l, rfl⟩ : ∃ u, s = B u := ⟨L s, (B_L s).symm⟩
  have hsz : (B l).size = l.length := rfl
  unfold Ref4.IsName
  simp only [letk]
  rw [eqL, L_B, L_e]
  have hall : isName l = (decide (l ≠ []) && decide (l.length ≤ 12) && pLetter (l.getD 0 0).toNat && l.all inName) := by
    unfold isName
    rw [all_inName]
    simp only [Bool.and_assoc]
  rw [hall]
  match l, hs, hsz with
  | [], _, _ => rfl
  | c :: r, hs, hsz =>
    have hl : (c :: r).length < 2 ^ 31 := hs
    rw [show ((c :: r : BS) == []) = false from rfl, cond_false]
    by_cases h12 : (c :: r).length ≤ 12
    · rw [decide_eq_false (by omega : ¬ ((B (c :: r)).size : Int) > 12), cond_false, chk_pos (by simp only [hsz, List.length_cons]; omega), chk_pos (by simp only [hsz, List.length_cons]; omega), show bt (B (c :: r)) 0 = (c.toNat : Int) from rfl, decide_eq_true (show (c :: r : BS) ≠ [] by simp), decide_eq_true h12]
      have j0 : Ref4.IsName.j0 (B (c :: r)) = some ((c :: r).all inName) := by
        unfold Ref4.IsName.j0
        have := isname_l0 (c :: r) hl (c :: r).length 0 (by omega)
        rw [List.drop_zero, show ((0 : Nat) : Int) = 0 from rfl] at this
        exact this
      rw [j0, show (c :: r : BS).getD 0 0 = c from rfl, List.all_cons]
      have key : (!(decide ((c.toNat : Int) < 97)) && (!(decide ((c.toNat : Int) > 122)) && inName c)) = (pLetter (c.toNat : Int) && inName c) := by
        unfold inName pLetter
        rw [Bool.eq_iff_iff]
        simp only [Bool.and_eq_true, Bool.or_eq_true, decide_eq_true_eq, Bool.not_eq_true', decide_eq_false_iff_not, Bool.and_eq_false_iff]
        constructor
        · rintro ⟨h1, h2, h3, h4⟩; exact ⟨.inl ⟨by omega, by omega⟩, h3, h4⟩
        · rintro ⟨h1, h3, h4⟩
          rcases h1 with h1 | h1
          · exact ⟨by omega, by omega, h3, h4⟩
          · exfalso; rcases h4 with h4 | h4 <;> omega
      simp only [Bool.and_self, Bool.true_and]
      rw [← Bool.and_assoc, ← key]
      cases decide ((c.toNat : Int) < 97) <;> cases decide ((c.toNat : Int) > 122) <;> simp
    · rw [decide_eq_true (by omega : ((B (c :: r)).size : Int) > 12), cond_true, decide_eq_false h12]
      simp
theorem scanG_text : ∀ (f : Nat) (r : BS) (i : Nat) ts, scanG f r i = .ok ts → ∀ p ∈ ts, p.2.length ≤ r.length
  | 0, r, i, ts, h, p, hp => by cases h; cases hp
  | f + 1, r, i, ts, h, p, hp => by
    unfold scanG at h
    split at h
    · cases h; cases hp
    · rename_i h0
      split at h
      · have := scanG_text f _ _ ts h p hp
        rw [List.length_drop] at this; omega
      · split at h
        · cases h
        · cases hg : scanG f (r.drop (firstSpec r).2) (i + (firstSpec r).2) with
          | error e' => rw [hg] at h; cases h
          | ok ts' =>
            rw [hg] at h
            simp only [Except.map] at h
            cases h
            rcases List.mem_cons.1 hp with rfl | hp
            · exact first_text r h0
            · have := scanG_text f _ _ ts' hg p hp
              rw [List.length_drop] at this; omega
theorem scan_textle (l : BS) : ∀ p ∈ (scanSpec l).1, p.2.length ≤ l.length := by
  unfold scanSpec
  split
  · intro p hp; cases hp
  · cases hg : scanG (l.length + 1) l 0 with
    | ok ts => exact scanG_text _ _ _ _ hg
    | error i => intro p hp; cases hp
theorem valids_l0 (t : BS) (h0 : (scanSpec t).2.2 = 0) (hl : t.length < 2 ^ 31) : ∀ j n : Nat, n + j = (scanSpec t).1.length → Law4.TokenValids.l0 ((scanSpec t).1.map toTok) ((scanSpec t).2.2 : Nat) n = some true := by
  have hlen := scan_len t
  intro j
  induction j with
  | zero =>
    intro n hn
    rw [Law4.TokenValids.l0_eq, Law4.TokenValids.s0]
    simp only [letk, List.length_map]
    rw [decide_eq_false (by omega : ¬ (n : Int) < ((scanSpec t).1.length : Int)), cond_false, Law4.Awake_eq]
    rfl
  | succ j ih =>
    intro n hn
    have hlt : n < (scanSpec t).1.length := by omega
    rw [Law4.TokenValids.l0_eq, Law4.TokenValids.s0]
    simp only [letk, List.length_map]
    rw [decide_eq_true (by omega : (n : Int) < ((scanSpec t).1.length : Int)), cond_true, h0, show (((0 : Nat) : Int) != 0) = false from rfl, cond_false, chk_pos (by omega), Int.toNat_natCast, List.getElem?_map, List.getElem?_eq_getElem hlt]
    simp only [Option.map_some, Option.bind_some]
    have hv := scan_valid t _ (List.getElem_mem hlt)
    have ht := scan_textle t _ (List.getElem_mem hlt)
    rw [Tok.Valid_eq _ (by show (B ((scanSpec t).1[n]).2).size < _; rw [size_B]; omega)]
    simp only [Option.bind_some]
    rw [show L (toTok (scanSpec t).1[n]).Kind = ((scanSpec t).1[n]).1 from rfl, show L (toTok (scanSpec t).1[n]).Text = ((scanSpec t).1[n]).2 from rfl, hv]
    simp only [Bool.not_true, cond_false, Option.bind_some, Sum.elim_inl]
    rw [w64n (by omega) (by omega), show ((n : Int) + 1) = ((n + 1 : Nat) : Int) by omega]
    have := ih (n + 1) (by omega)
    rw [h0] at this
    exact this
theorem valids_j1 (s : ByteArray) (hs : s.size < 2 ^ 31) : Law4.TokenValids.j1 s = some true := by
  unfold Law4.TokenValids.j1
  rw [Tok.Scan_eq s hs]
  simp only [Option.bind_some]
  rcases scan_code (L s) with h0 | ⟨h3, h1, _⟩
  · have := valids_l0 (L s) h0 (by rw [L_len]; exact hs) (scanSpec (L s)).1.length 0 (by omega)
    exact this
  · rw [h1, Law4.TokenValids.l0_eq, Law4.TokenValids.s0]
    simp only [letk]
    rw [show decide ((0 : Int) < (((List.map toTok ([] : List (BS × BS))).length : Nat) : Int)) = false from rfl, cond_false, Law4.Awake_eq]
    rfl
end Go.Q
