import Derived.Test.YthdklcpkoeehnaaDoorQT14
namespace Go.Q
open Go Go.Proofs
set_option maxRecDepth 10000
set_option maxHeartbeats 2000000

def numT (l : BS) : BS × BS := (if numR l then kReal else kInt, small (l.take (numN l)))
def firstSpec (l : BS) : (BS × BS) × Nat :=
  if pLetter (l.getD 0 0).toNat then ((kName, small (l.take (preL pPart l))), if valid kName (small (l.take (preL pPart l))) then preL pPart l else 0)
  else if l.getD 0 0 = 39 ∨ l.getD 0 0 = 34 then ((kText, (quoted l).1), (quoted l).2)
  else if wordOf l ≠ [] then ((if wordOf l ∈ words.drop 4 then kLog else kOp, wordOf l), (wordOf l).length)
  else if pDigit (l.getD 0 0).toNat ∨ l.getD 0 0 = 46 ∧ 1 < l.length ∧ pDigit (l.getD 1 0).toNat then
    (numT l, if numN l < l.length ∧ pPart (l.getD (numN l) 0).toNat = true then 0 else if valid (numT l).1 (numT l).2 then numN l else 0)
  else match signs.find? (·.isPrefixOf l) with
    | some o => ((kOp, o), o.length)
    | none => (([], []), 0)

def fAV (p : (BS × BS) × Nat) : AV := .tup [tkAV (B p.1.1, B p.1.2), .lit (.int .i64 p.2)]

theorem L_take {s : ByteArray} {n : Nat} : L (s.extract 0 n) = (L s).take n := by rw [L_ext, List.drop_zero]

section
variable {s : ByteArray} {n : Nat} {b : Bool}
theorem f_name (hc : pLetter (bt s 0) = true) (hn : n = pre pPart s) (hv : valid kName (small (L (s.extract 0 (n : Int).toNat))) = b) : firstSpec (L s) = ((kName, small (L (s.extract 0 (n : Int).toNat))), if b then n else 0) := by
  rw [Int.toNat_natCast, L_take] at *
  unfold firstSpec
  rw [if_pos (show pLetter (((L s).getD 0 0).toNat : Int) = true from hc), ← pre_preL, ← hn, hv]
theorem quote_iff : (bt s 0 = 39 ∨ bt s 0 = 34) ↔ ((L s).getD 0 0 = 39 ∨ (L s).getD 0 0 = 34) := by
  rw [bt_L]; exact or_congr (u8_eq (n := 39) (by omega)) (u8_eq (n := 34) (by omega))
theorem f_text (hc : pLetter (bt s 0) = false) (hq : bt s 0 = 39 ∨ bt s 0 = 34) : firstSpec (L s) = ((kText, (quoted (L s)).1), (quoted (L s)).2) := by
  unfold firstSpec
  rw [if_neg (by rw [show pLetter (((L s).getD 0 0).toNat : Int) = false from hc]; simp), if_pos (quote_iff.1 hq)]
theorem f_word (hc : pLetter (bt s 0) = false) (hq : ¬ (bt s 0 = 39 ∨ bt s 0 = 34)) (hw : ¬ L (B (wordOf (L s))) = []) : firstSpec (L s) = ((if wordOf (L s) ∈ words.drop 4 then kLog else kOp, wordOf (L s)), (wordOf (L s)).length) := by
  unfold firstSpec
  rw [if_neg (by rw [show pLetter (((L s).getD 0 0).toNat : Int) = false from hc]; simp), if_neg (fun h => hq (quote_iff.2 h)), if_pos (show wordOf (L s) ≠ [] from by simpa using hw)]
theorem num_iff {s : ByteArray} : (pDigit (bt s 0) = true ∨ bt s 0 = 46 ∧ 1 < s.size ∧ pDigit (bt s 1) = true) ↔ (pDigit (((L s).getD 0 0).toNat : Int) = true ∨ (L s).getD 0 0 = 46 ∧ 1 < (L s).length ∧ pDigit (((L s).getD 1 0).toNat : Int) = true) := by
  rw [L_len]
  refine or_congr Iff.rfl (and_congr ?_ Iff.rfl)
  rw [bt_L]; exact u8_eq (n := 46) (by omega)
theorem f_num (hc : pLetter (bt s 0) = false) (hq : ¬ (bt s 0 = 39 ∨ bt s 0 = 34)) (hw : L (B (wordOf (L s))) = []) (hd : pDigit (bt s 0) = true ∨ bt s 0 = 46 ∧ 1 < s.size ∧ pDigit (bt s 1) = true) :
    firstSpec (L s) = (numT (L s), if numN (L s) < s.size ∧ pPart (bt s (numN (L s) : Nat)) = true then 0 else if valid (numT (L s)).1 (numT (L s)).2 then numN (L s) else 0) := by
  unfold firstSpec
  rw [if_neg (by rw [show pLetter (((L s).getD 0 0).toNat : Int) = false from hc]; simp), if_neg (fun h => hq (quote_iff.2 h)), if_neg (by simpa using hw), if_pos (num_iff.1 hd), L_len]
  rfl
theorem f_sign (hc : pLetter (bt s 0) = false) (hq : ¬ (bt s 0 = 39 ∨ bt s 0 = 34)) (hw : L (B (wordOf (L s))) = []) (hd : ¬ (pDigit (bt s 0) = true ∨ bt s 0 = 46 ∧ 1 < s.size ∧ pDigit (bt s 1) = true)) :
    firstSpec (L s) = match signs.find? (·.isPrefixOf (L s)) with | some o => ((kOp, o), o.length) | none => (([], []), 0) := by
  unfold firstSpec
  rw [if_neg (by rw [show pLetter (((L s).getD 0 0).toNat : Int) = false from hc]; simp), if_neg (fun h => hq (quote_iff.2 h)), if_neg (by simpa using hw), if_neg (fun h => hd (num_iff.2 h))]
theorem f_ext {l : BS} {k t : BS} {kb tb : ByteArray} {x : Int} (h : firstSpec l = ((k, t), n)) (h1 : kb = B k) (h2 : tb = B t) (h3 : x = n) : AV.tup [.agg [.lit (.string kb), .lit (.string tb)], .lit (.int .i64 x)] = fAV (firstSpec l) := by
  rw [h, h1, h2, h3]; rfl
end
theorem small_size {s : ByteArray} {n : Nat} : (B (small (L (s.extract 0 n)))).size ≤ s.size := by
  rw [B_size, small, List.length_map, L_len, ByteArray.size_extract]; omega
theorem numN_le (s : ByteArray) : numN (L s) ≤ s.size := by
  have h1 := expo_le ((L s).drop (pointN (L s)))
  have h2 : pointN (L s) ≤ (L s).length := by
    unfold pointN
    have h3 := preL_le pDigit (L s)
    have h4 := preL_le pDigit ((L s).drop (preL pDigit (L s) + 1))
    rw [List.length_drop] at h4
    split
    · rename_i h
      have h5 : preL pDigit (L s) < (L s).length := by
        unfold hasPoint at h
        simp only [Bool.and_eq_true, decide_eq_true_eq] at h
        exact h.1.1.1
      omega
    · exact h3
  rw [List.length_drop] at h1
  rw [← L_len]
  unfold numN
  omega
theorem numT_r {s : ByteArray} (h : numR (L s) = true) : numT (L s) = (kReal, small (L (s.extract 0 (numN (L s) : Int).toNat))) := by
  unfold numT; rw [if_pos h, Int.toNat_natCast, L_take]
theorem numT_i {s : ByteArray} (h : numR (L s) = false) : numT (L s) = (kInt, small (L (s.extract 0 (numN (L s) : Int).toNat))) := by
  unfold numT; rw [if_neg (by simp [h]), Int.toNat_natCast, L_take]
theorem L_B' {w : BS} : L (B w) = w := rfl
theorem sign_size (i : Nat) (h : i < signs.length) : (B signs[i]).size < 2 ^ 62 := by
  have : ∀ j (h : j < signs.length), (B signs[j]).size < 2 ^ 62 := by decide
  exact this i h
theorem f_wordL {s : ByteArray} (hc : pLetter (bt s 0) = false) (hq : ¬ (bt s 0 = 39 ∨ bt s 0 = 34)) (hw : ¬ L (B (wordOf (L s))) = []) (h : L (B (wordOf (L s))) ∈ words.drop 4) : firstSpec (L s) = ((kLog, wordOf (L s)), (wordOf (L s)).length) := by
  rw [f_word hc hq hw, if_pos (show wordOf (L s) ∈ words.drop 4 from h)]
theorem f_wordO {s : ByteArray} (hc : pLetter (bt s 0) = false) (hq : ¬ (bt s 0 = 39 ∨ bt s 0 = 34)) (hw : ¬ L (B (wordOf (L s))) = []) (h : ¬ L (B (wordOf (L s))) ∈ words.drop 4) : firstSpec (L s) = ((kOp, wordOf (L s)), (wordOf (L s)).length) := by
  rw [f_word hc hq hw, if_neg (show ¬ wordOf (L s) ∈ words.drop 4 from h)]
theorem f_num0 {s : ByteArray} {k t : BS} (hc : pLetter (bt s 0) = false) (hq : ¬ (bt s 0 = 39 ∨ bt s 0 = 34)) (hw : L (B (wordOf (L s))) = []) (hd : pDigit (bt s 0) = true ∨ bt s 0 = 46 ∧ 1 < s.size ∧ pDigit (bt s 1) = true)
    (hT : numT (L s) = (k, t)) (h1 : numN (L s) < s.size) (h2 : pPart (bt s (numN (L s) : Nat)) = true) : firstSpec (L s) = ((k, t), 0) := by
  rw [f_num hc hq hw hd, if_pos ⟨h1, h2⟩, hT]
theorem f_num1 {s : ByteArray} {k t : BS} {b : Bool} (hc : pLetter (bt s 0) = false) (hq : ¬ (bt s 0 = 39 ∨ bt s 0 = 34)) (hw : L (B (wordOf (L s))) = []) (hd : pDigit (bt s 0) = true ∨ bt s 0 = 46 ∧ 1 < s.size ∧ pDigit (bt s 1) = true)
    (hT : numT (L s) = (k, t)) (h1 : ¬ numN (L s) < s.size ∨ pPart (bt s (numN (L s) : Nat)) = false) (hv : valid k t = b) : firstSpec (L s) = ((k, t), if b then numN (L s) else 0) := by
  rw [f_num hc hq hw hd, if_neg, hT]
  · simp only [hv]
  · rintro ⟨h3, h4⟩
    rcases h1 with h1 | h1
    · exact h1 h3
    · rw [h1] at h4; cases h4
theorem sign_yes {s : ByteArray} {i : Nat} (hc : pLetter (bt s 0) = false) (hq : ¬ (bt s 0 = 39 ∨ bt s 0 = 34)) (hw : L (B (wordOf (L s))) = []) (hd : ¬ (pDigit (bt s 0) = true ∨ bt s 0 = 46 ∧ 1 < s.size ∧ pDigit (bt s 1) = true))
    (hj : ∀ j (h : j < signs.length), j < i → List.isPrefixOf signs[j] (L s) = false) (h : i < signs.length) (he : List.isPrefixOf (L (B signs[i])) (L s) = true) : firstSpec (L s) = ((kOp, signs[i]), signs[i].length) := by
  rw [f_sign hc hq hw hd, find_at (p := fun o => List.isPrefixOf o (L s)) hj h he]
theorem sign_no {s : ByteArray} {i : Nat} (hc : pLetter (bt s 0) = false) (hq : ¬ (bt s 0 = 39 ∨ bt s 0 = 34)) (hw : L (B (wordOf (L s))) = []) (hd : ¬ (pDigit (bt s 0) = true ∨ bt s 0 = 46 ∧ 1 < s.size ∧ pDigit (bt s 1) = true))
    (hj : ∀ j (h : j < signs.length), j < i → List.isPrefixOf signs[j] (L s) = false) (h : signs.length ≤ i) : firstSpec (L s) = (([], []), 0) := by
  rw [f_sign hc hq hw hd, find_no (p := fun o => List.isPrefixOf o (L s)) hj h]
attribute [local irreducible] firstSpec quoted wordOf numN numR valid preL pre

theorem first_ok (s : ByteArray) (hs : s.size < 2 ^ 46) (h0 : 0 < s.size) (hr : numR (L s) = true → RealOK (small (L (s.extract 0 (numN (L s)))))) : Gives Tryd.prog 15 [.lit (.string s)] (fAV (firstSpec (L s))) := by
  refine ACalls.of_swp Tryd.func15 rfl (by decide) rfl (st0 := ⟨116, [(0, .lit (.string s))], []⟩) rfl (awp_ok ?_)
  have hl := L_len s
  have hN := numN_le s
  repeat' ((conv => whnf); first
    | refine Arith.mk ⟨_, w64 (by omega), ?_⟩
    | refine Side.mk (by first | omega | (exact ⟨by decide, by decide⟩)) ?_
    | refine Arith.mk ⟨_, rfl, ?_⟩
    | ((refine ifB_intro (fun hb => ?_) (fun hb => ?_)) <;> (try simp only [List.length_map, decide_eq_true_eq, decide_eq_false_iff_not, beq_iff_eq, bne_iff_ne, beq_eq_false_iff_ne, bne_eq_false_iff_eq, ne_eq, Bool.not_eq_true', Bool.not_eq_false', Bool.not_eq_true, Bool.not_eq_false] at hb) <;> (try simp only [toList_mk] at hb))
    | (refine CallN.gives (isLetter_ok _) rfl ?_)
    | (refine CallN.gives (quoted_ok s hs h0) rfl ?_)
    | (refine CallN.gives (words_ok) rfl ?_)
    | (refine CallN.gives (contains_ok (words.drop 4) _ (by decide)) rfl ?_)
    | (refine CallN.gives (isDigit_ok _) rfl ?_)
    | (refine CallN.gives (isPart_ok _) rfl ?_)
    | (refine CallN.gives (signs_ok) rfl ?_)
    | (refine CallN.gives (word_ok s hs) rfl ?_)
    | (refine CallN.gives (number_ok s hs) rfl ?_)
    | (refine CallN.gives (small_ok _ (by simp only [ByteArray.size_extract]; omega)) rfl ?_)
    | (refine CallN.gives (valid_ok _ _ (Nat.lt_of_le_of_lt small_size hs) (by intro h; first | exact absurd h (by decide) | exact hr (by assumption))) rfl ?_)
    | ((refine CallN.gen (fun n : Nat => .lit (.int .i64 n)) _ (run_ok 20 pPart isPart_ok s (by omega)) rfl ?_; intro n hn; have hnl : n ≤ s.size := hn ▸ pre_le _ _))
    | (refine LoopN.of (fun k st => ∃ i : Nat, i + k = signs.length ∧ (∀ j (h1 : j < signs.length), j < i → List.isPrefixOf signs[j] (L s) = false) ∧ st = ⟨116, [(0, .lit (.string s)), (2, .ptr 0 0), (11, .vs 1 (signs.map strAV)), (12, .lit (.int .i64 ((signs.map strAV).length : Nat))), (13, .lit (.int .i64 i))], [.box [.lit (.string ⟨#[]⟩), .lit (.string ⟨#[]⟩)]]⟩) ⟨_, _, _, _, Weak.objs (keep := [0]) (frz := []) (m := 0) (ts := [(0, _), (2, _), (11, _), (12, _), (13, _)]) (hs := [_]) rfl (by decide) rfl rfl ⟨⟨_, rfl, WO.refl rfl⟩, ⟨rfl, by simp⟩⟩ ⟨.same (.lit (.string _)) rfl, .ptr _ _ 0 rfl, .same (.vs _ _) rfl, .same (.lit (.int _ _)) rfl, .same (.lit (.int _ _)) rfl, trivial⟩, signs.length, 0, by omega, fun j _ hj => by omega, rfl⟩ ?_)
    | exact Returns.pure (r := .tup _) rfl rfl rfl rfl ⟨by first | exact f_ext (f_name (by assumption) hn hb) rfl rfl rfl | exact f_ext (f_text (by assumption) (by omega)) rfl rfl rfl | exact f_ext (f_wordL (by assumption) (by omega) (by assumption) (by assumption)) rfl rfl rfl | exact f_ext (f_wordO (by assumption) (by omega) (by assumption) (by assumption)) rfl rfl rfl | exact f_ext (f_num0 (by assumption) (by omega) (by assumption) (by first | exact .inl (by assumption) | exact .inr ⟨by assumption, by omega, by assumption⟩) (numT_r (by assumption)) (by omega) (by assumption)) rfl rfl rfl | exact f_ext (f_num1 (by assumption) (by omega) (by assumption) (by first | exact .inl (by assumption) | exact .inr ⟨by assumption, by omega, by assumption⟩) (numT_r (by assumption)) (by first | exact .inr (by assumption) | exact .inl (by omega)) hb) rfl rfl rfl | exact f_ext (f_num0 (by assumption) (by omega) (by assumption) (by first | exact .inl (by assumption) | exact .inr ⟨by assumption, by omega, by assumption⟩) (numT_i (by assumption)) (by omega) (by assumption)) rfl rfl rfl | exact f_ext (f_num1 (by assumption) (by omega) (by assumption) (by first | exact .inl (by assumption) | exact .inr ⟨by assumption, by omega, by assumption⟩) (numT_i (by assumption)) (by first | exact .inr (by assumption) | exact .inl (by omega)) hb) rfl rfl rfl, rfl⟩
    | (exfalso; omega))
  all_goals (have hsg : signs.length = 21 := rfl)
  all_goals (rintro k st ⟨i, hi, hp, rfl⟩)
  all_goals (refine awp_ok ?_)
  repeat' ((conv => whnf); first
    | refine Arith.mk ⟨_, w64 (by omega), ?_⟩
    | refine Side.mk (by omega) ?_
    | refine Arith.mk ⟨_, rfl, ?_⟩
    | (refine At.map (i) (by first | rfl | simp) (by first | assumption | omega) ?_)
    | ((refine ifB_intro (fun hb => ?_) (fun hb => ?_)) <;> (try simp only [List.length_map, decide_eq_true_eq, decide_eq_false_iff_not, beq_iff_eq, bne_iff_ne, beq_eq_false_iff_ne, bne_eq_false_iff_eq, ne_eq, Bool.not_eq_true', Bool.not_eq_false', Bool.not_eq_true, Bool.not_eq_false] at hb) <;> (try simp only [B_size] at hb))
    | (refine CallN.gives (hasPrefix_ok s _ (by omega) (sign_size i (by omega))) rfl ?_)
    | (exact ⟨_, _, _, _, Weak.objs (keep := [0]) (frz := []) (m := 0) (ts := [(0, _), (2, _), (11, _), (12, _), (13, _)]) (hs := [_]) rfl (by decide) rfl rfl ⟨⟨_, rfl, WO.refl rfl⟩, ⟨rfl, by simp⟩⟩ ⟨.same (.lit (.string _)) rfl, .ptr _ _ 0 rfl, .same (.vs _ _) rfl, .same (.lit (.int _ _)) rfl, .same (.lit (.int _ _)) rfl, trivial⟩, k - 1, by omega, i + 1, by omega, no_succ (p := fun o => List.isPrefixOf o (L s)) hp (by omega) hb, rfl⟩)
    | exact Returns.pure (r := .tup _) rfl rfl rfl rfl ⟨by first | exact f_ext (sign_no (by assumption) (by omega) (by assumption) (by rintro (h1 | ⟨h1, h2, h3⟩) <;> first | omega | (rw [‹pDigit (bt s 0) = false›] at h1; cases h1) | (rw [‹pDigit (bt s 1) = false›] at h3; cases h3)) hp (by omega)) rfl rfl rfl | exact f_ext (sign_yes (by assumption) (by omega) (by assumption) (by rintro (h1 | ⟨h1, h2, h3⟩) <;> first | omega | (rw [‹pDigit (bt s 0) = false›] at h1; cases h1) | (rw [‹pDigit (bt s 1) = false›] at h3; cases h3)) hp (by omega) hb) rfl rfl rfl, rfl⟩
    | (exfalso; omega))
end Go.Q
