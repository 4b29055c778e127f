import Derived.Test.YthdklcpkoeehnaaGreatDoorVA
namespace Go.Q
open Go Go.Proofs
set_option maxRecDepth 10000

/-! how tokens are written -/

theorem repl_one (q : UInt8) (new : BS) : ∀ s : BS, Lib.replaceK [q] new (Lib.count s [q]) s = s.flatMap fun c => if c = q then new else [c]
  | [] => by
    rw [Lib.count_miss rfl]; rfl
  | b :: l => by
    have ih := repl_one q new l
    have hix : Lib.index (b :: l) [q] = if b = q then 0 else if Lib.index l [q] = -1 then -1 else Lib.index l [q] + 1 := by
      rw [Lib.index]
      have : List.isPrefixOf [q] (b :: l) = (q == b) := by show ((q == b) && _) = _; simp
      rw [this]
      by_cases h : b = q
      · rw [if_pos h, if_pos (by rw [h]; simp)]
      · rw [if_neg h, if_neg (by rw [beq_iff_eq]; exact fun e => h e.symm)]
        by_cases h2 : Lib.index l [q] = -1
        · rw [if_pos h2, if_pos (by rw [h2]; rfl)]
        · rw [if_neg h2, if_neg (by rw [beq_iff_eq]; exact h2)]
    rw [List.flatMap_cons]
    by_cases h : b = q
    · rw [if_pos h] at hix ⊢
      have hix' : Lib.index (b :: l) [q] = ((0 : Nat) : Int) := hix
      rw [Lib.count_hit (by simp) hix', Nat.add_comm, Lib.replaceK_hit _ _ _ _ 0 hix']
      show [] ++ new ++ Lib.replaceK [q] new (Lib.count l [q]) l = _
      rw [ih]; rfl
    · rw [if_neg h] at hix ⊢
      by_cases h2 : Lib.index l [q] = -1
      · rw [if_pos h2] at hix
        rw [Lib.count_miss h2] at ih
        rw [Lib.count_miss hix]
        show b :: l = b :: _
        rw [← ih]; rfl
      · rw [if_neg h2] at hix
        have hge := Lib.index_ge l [q]
        obtain ⟨i, hi⟩ : ∃ i : Nat, Lib.index l [q] = i := ⟨(Lib.index l [q]).toNat, by omega⟩
        have hix' : Lib.index (b :: l) [q] = ((i + 1 : Nat) : Int) := by rw [hix, hi]; rfl
        rw [Lib.count_hit (by simp) hi, Nat.add_comm, Lib.replaceK_hit _ _ _ _ i hi] at ih
        rw [Lib.count_hit (by simp) hix', Nat.add_comm, Lib.replaceK_hit _ _ _ _ (i + 1) hix']
        show b :: (l.take i) ++ new ++ Lib.replaceK [q] new (Lib.count (l.drop (i + 1)) [q]) (l.drop (i + 1)) = b :: _
        rw [← ih]; rfl

/-- Quotes doubled. -/
def dbl (t : BS) : BS := t.flatMap fun c => if c = 39 then [39, 39] else [c]
theorem replaceAll_dbl (t : BS) : Lib.replaceAll t [39] [39, 39] = dbl t := by
  unfold Lib.replaceAll Lib.replace
  rw [if_neg (by decide)]
  have : Lib.replaceNum t [39] (-1) = Lib.count t [39] := by unfold Lib.replaceNum; rw [if_pos (.inl (by decide))]
  rw [this]
  exact repl_one 39 [39, 39] t
theorem dbl_cons (c : UInt8) (t : BS) : dbl (c :: t) = (if c = 39 then [39, 39] else [c]) ++ dbl t := by simp [dbl]
theorem dbl_app (a b : BS) : dbl (a ++ b) = dbl a ++ dbl b := by simp [dbl]
theorem dbl_len : ∀ t : BS, t.length ≤ (dbl t).length ∧ (dbl t).length ≤ 2 * t.length
  | [] => ⟨Nat.zero_le _, Nat.zero_le _⟩
  | c :: t => by
    have ih := dbl_len t
    rw [dbl_cons]
    split <;> simp only [List.length_append, List.length_cons, List.length_nil] <;> omega
theorem count_le (t : BS) : Lib.count t [39] ≤ t.length := by
  have := Lib.countB_le (B [39]) (by decide) t.length (B t) (Nat.le_refl _)
  exact this

/-- A token as it is written. -/
def tokW (p : BS × BS) : BS := if p.1 = kText then 39 :: (dbl p.2 ++ [39]) else p.2
theorem quo_dbl : ∀ t : BS, quo 39 (dbl t ++ [39]) = some (t, (dbl t).length + 1)
  | [] => rfl
  | c :: t => by
    have ih := quo_dbl t
    rw [dbl_cons]
    by_cases h : c = 39
    · subst h
      rw [if_pos rfl]
      show quo 39 (39 :: 39 :: (dbl t ++ [39])) = _
      rw [quo_cons, if_pos rfl]
      show (if (39 : UInt8) = 39 then (quo 39 (dbl t ++ [39])).map fun p => (39 :: p.1, p.2 + 2) else some ([], 1)) = _
      rw [if_pos rfl, ih]
      simp only [Option.map_some, List.length_append, List.length_cons, List.length_nil]
      congr 2; omega
    · rw [if_neg h]
      show quo 39 (c :: (dbl t ++ [39])) = _
      rw [quo_cons, if_neg h, ih]
      simp only [Option.map_some, List.length_append, List.length_cons, List.length_nil]
      congr 2; omega
theorem text_dbl {t : BS} (h : textL t = true) : textL (dbl t) = true := by
  unfold textL at h ⊢
  rw [List.all_eq_true] at h ⊢
  intro c hc
  simp only [dbl, List.mem_flatMap] at hc
  obtain ⟨x, hx, hc⟩ := hc
  split at hc
  · simp only [List.mem_cons, List.not_mem_nil, or_false, or_self] at hc
    subst hc; decide
  · rw [List.mem_singleton] at hc; subst hc; exact h _ hx
theorem scan_tok {p : BS × BS} (h : valid p.1 p.2 = true) : scanSpec (tokW p) = ([p], 0, 0) ∧ textL (tokW p) = true := by
  obtain ⟨k, t⟩ := p
  unfold tokW
  by_cases hk : k = kText
  · subst hk
    have hv : (preL pText t == t.length) = true := h
    have ht : textL t = true := by
      unfold textL
      rw [List.all_eq_true]
      exact preL_all (beq_iff_eq.1 hv)
    simp only [if_true]
    have htx : textL (39 :: (dbl t ++ [39])) = true := by
      rw [txt_cons, txt_app, text_dbl ht]; rfl
    refine ⟨?_, htx⟩
    have hq : quoted (39 :: (dbl t ++ [39])) = (t, (dbl t).length + 2) := by
      show quoRes (quo 39 (dbl t ++ [39])) = _
      rw [quo_dbl]; rfl
    have hf : firstSpec (39 :: (dbl t ++ [39])) = ((kText, t), (39 :: (dbl t ++ [39]) : BS).length) := by
      unfold firstSpec
      rw [if_neg (by show ¬ pLetter (((39 : UInt8).toNat : Nat) : Int) = true; decide), if_pos (.inl rfl), hq]
      simp
    rw [scan_text (textL_pre htx), scanG, if_neg (by simp), if_neg (by show ¬ (39 : UInt8) = 32; decide), hf, if_neg (by
      simp only [List.length_cons]
      intro e
      rcases e with e | e
      · omega
      · rw [show valid kText t = (preL pText t == t.length) from rfl, hv] at e; cases e)]
    simp only [List.drop_length]
    obtain ⟨n, hn⟩ : ∃ n, (39 :: (dbl t ++ [39]) : BS).length = n + 1 := ⟨_, rfl⟩
    rw [hn, scanG, if_pos rfl]
    rfl
  · simp only [if_neg hk]
    have ho := own_of hk h
    exact ⟨own_scan ho h, ho.text⟩
/-- What a list of tokens is written as. -/
def writeL (ts : List (BS × BS)) : BS := Lib.join (ts.map tokW) [32]
theorem write_cons (p p2 : BS × BS) (r : List (BS × BS)) : writeL (p :: p2 :: r) = tokW p ++ 32 :: writeL (p2 :: r) := by
  unfold writeL Lib.join
  simp [List.intercalate]
theorem write_one (p : BS × BS) : writeL [p] = tokW p := by unfold writeL; exact Lib.join_one _ _
theorem scan_write : ∀ ts : List (BS × BS), (∀ p ∈ ts, valid p.1 p.2 = true) → scanSpec (writeL ts) = (ts, 0, 0)
  | [], _ => by
    show scanSpec [] = _
    decide +kernel
  | [p], h => by rw [write_one]; exact (scan_tok (h p (List.mem_cons_self ..))).1
  | p :: p2 :: r, h => by
    have ih := scan_write (p2 :: r) (fun q hq => h q (List.mem_cons_of_mem _ hq))
    have h1 := (scan_tok (h p (List.mem_cons_self ..))).1
    rw [write_cons, scan_join _ _ (by rw [h1]), ih, h1]
    rfl
end Go.Q
