import Derived.Test.YthdklcpkoeehnaaDoorQT15
namespace Go.Q
open Go Go.Proofs
set_option maxRecDepth 10000
set_option maxHeartbeats 2000000

def scanG : Nat → BS → Nat → Except Nat (List (BS × BS))
  | 0, _, _ => .ok []
  | f + 1, r, i =>
    if r = [] then .ok []
    else if r.getD 0 0 = 32 then scanG f (r.drop 1) (i + 1)
    else if (firstSpec r).2 = 0 ∨ valid (firstSpec r).1.1 (firstSpec r).1.2 = false then .error i
    else (scanG f (r.drop (firstSpec r).2) (i + (firstSpec r).2)).map ((firstSpec r).1 :: ·)

def scanSpec (l : BS) : List (BS × BS) × Nat × Nat :=
  if preL pText l < l.length then ([], preL pText l, 3)
  else match scanG (l.length + 1) l 0 with
    | .ok ts => (ts, 0, 0)
    | .error i => ([], i, 3)

def tkL (t : BS × BS) : AV := tkAV (B t.1, B t.2)
def scanAV (p : List (BS × BS) × Nat × Nat) : AV := .tup [.vs 2 (p.1.map tkL), .lit (.int .i64 p.2.1), .lit (.int .i64 p.2.2)]

/-- What the loop knows: out so far, at place i. -/
def SInv (l : BS) (out : List (BS × BS)) (i : Nat) : Prop :=
  out.length ≤ i ∧ i ≤ l.length ∧ ∃ f, l.length - i < f ∧ scanG (l.length + 1) l 0 = (scanG f (l.drop i) i).map (out ++ ·)

theorem SInv.start (l : BS) : SInv l [] 0 := by
  refine ⟨by simp, by omega, l.length + 1, by omega, ?_⟩
  rw [List.drop_zero]
  cases scanG (l.length + 1) l 0 <;> rfl

theorem quo_le (q : UInt8) : ∀ (k : Nat) (r : BS), r.length ≤ k → ∀ p, quo q r = some p → p.2 ≤ r.length
  | k, [], _, p, h => by simp [quo] at h
  | k + 1, c :: r, hk, p, h => by
    rw [quo_cons] at h
    simp only [List.length_cons] at hk ⊢
    split at h
    · match r, h with
      | [], h => simp only [Option.some.injEq] at h; subst h; simp
      | c' :: r', h =>
        simp only [List.length_cons] at hk ⊢
        replace h : (if c' = q then (quo q r').map fun p => (q :: p.1, p.2 + 2) else some ([], 1)) = some p := h
        split at h
        · cases hq : quo q r' with
          | none => rw [hq] at h; cases h
          | some p' =>
            rw [hq] at h
            have := quo_le q k r' (by omega) p' hq
            simp only [Option.map_some, Option.some.injEq] at h
            subst h; simp only; omega
        · simp only [Option.some.injEq] at h; subst h; simp
    · cases hq : quo q r with
      | none => rw [hq] at h; cases h
      | some p' =>
        rw [hq] at h
        have := quo_le q k r (by omega) p' hq
        simp only [Option.map_some, Option.some.injEq] at h
        subst h; simp only; omega
  | 0, c :: r, hk, p, h => by simp at hk

theorem quoted_le (l : BS) (h : l ≠ []) : (quoted l).2 ≤ l.length := by
  have hl : 0 < l.length := List.length_pos_iff.2 h
  unfold quoted
  cases hq : quo (l.getD 0 0) (l.drop 1) with
  | none => simp [quoRes]
  | some p =>
    have := quo_le _ _ _ (Nat.le_refl _) p hq
    rw [List.length_drop] at this
    simp only [quoRes]; omega

theorem wordOf_le (l : BS) : (wordOf l).length ≤ l.length := by
  unfold wordOf
  cases h : words.find? (wtest l) with
  | none => simp
  | some w =>
    have := List.find?_some h
    simp only [wtest, Bool.and_eq_true, decide_eq_true_eq] at this
    simpa using this.1

theorem numN_leL (l : BS) : numN l ≤ l.length := by have := numN_le (B l); rwa [L_B] at this

theorem first_le (l : BS) (h : l ≠ []) : (firstSpec l).2 ≤ l.length := by
  unfold firstSpec
  have h1 := preL_le pPart l
  have h2 := quoted_le l h
  have h3 := wordOf_le l
  have h4 := numN_leL l
  split
  · simp only; split <;> omega
  · split
    · exact h2
    · split
      · exact h3
      · split
        · simp only; split
          · omega
          · split <;> omega
        · split
          · rename_i o ho
            have := List.find?_some ho
            exact (List.isPrefixOf_iff_prefix.1 this).length_le
          · simp

theorem first_real (l : BS) (h : (firstSpec l).1.1 = kReal) : numR l = true ∧ (firstSpec l).1.2 = small (l.take (numN l)) := by
  unfold firstSpec at h ⊢
  split at h
  · exact absurd h (show ¬ kName = kReal by decide)
  · split at h
    · exact absurd h (show ¬ kText = kReal by decide)
    · split at h
      · simp only at h
        split at h
        · exact absurd h (show ¬ kLog = kReal by decide)
        · exact absurd h (show ¬ kOp = kReal by decide)
      · split at h
        · rename_i h1 h2 h3 h4
          rw [if_neg h1, if_neg h2, if_neg h3, if_pos h4]
          refine ⟨?_, rfl⟩
          unfold numT at h
          simp only at h
          split at h
          · assumption
          · exact absurd h (show ¬ kInt = kReal by decide)
        · split at h
          · exact absurd h (show ¬ kOp = kReal by decide)
          · exact absurd h (show ¬ ([] : BS) = kReal by decide)

theorem map_map_out {e : Except Nat (List (BS × BS))} {out : List (BS × BS)} {t : BS × BS} : (e.map (t :: ·)).map (out ++ ·) = e.map (out ++ [t] ++ ·) := by
  cases e with
  | error i => rfl
  | ok ts => simp [Except.map]

theorem drop_ne {l : BS} {i : Nat} (h : i < l.length) : l.drop i ≠ [] := by rw [ne_eq, List.drop_eq_nil_iff]; omega

theorem SInv.blank {l : BS} {out : List (BS × BS)} {i : Nat} (h : SInv l out i) (hi : i < l.length) (hb : (l.drop i).getD 0 0 = 32) : SInv l out (i + 1) := by
  obtain ⟨h0, h1, f, hf, he⟩ := h
  cases f with
  | zero => omega
  | succ f =>
    refine ⟨by omega, by omega, f, by omega, ?_⟩
    rw [he, scanG, if_neg (drop_ne hi), if_pos hb, List.drop_drop]

theorem SInv.token {l : BS} {out : List (BS × BS)} {i : Nat} (h : SInv l out i) (hi : i < l.length) (hb : ¬ (l.drop i).getD 0 0 = 32) (h0 : ¬ (firstSpec (l.drop i)).2 = 0) (hv : valid (firstSpec (l.drop i)).1.1 (firstSpec (l.drop i)).1.2 = true) :
    SInv l (out ++ [(firstSpec (l.drop i)).1]) (i + (firstSpec (l.drop i)).2) := by
  obtain ⟨h2, h1, f, hf, he⟩ := h
  have hle := first_le (l.drop i) (drop_ne hi)
  rw [List.length_drop] at hle
  cases f with
  | zero => omega
  | succ f =>
    refine ⟨by simp only [List.length_append, List.length_cons, List.length_nil]; omega, by omega, f, by omega, ?_⟩
    rw [he, scanG, if_neg (drop_ne hi), if_neg hb, if_neg (by rw [hv]; simp [h0]), List.drop_drop, map_map_out]

theorem SInv.bad {l : BS} {out : List (BS × BS)} {i : Nat} (h : SInv l out i) (hp : ¬ preL pText l < l.length) (hi : i < l.length) (hb : ¬ (l.drop i).getD 0 0 = 32) (h0 : (firstSpec (l.drop i)).2 = 0 ∨ valid (firstSpec (l.drop i)).1.1 (firstSpec (l.drop i)).1.2 = false) : scanSpec l = ([], i, 3) := by
  obtain ⟨h2, h1, f, hf, he⟩ := h
  unfold scanSpec
  cases f with
  | zero => omega
  | succ f =>
    rw [if_neg hp, he, scanG, if_neg (drop_ne hi), if_neg hb, if_pos h0]
    rfl

theorem SInv.all {l : BS} {out : List (BS × BS)} {i : Nat} (h : SInv l out i) (hp : ¬ preL pText l < l.length) (hi : l.length ≤ i) : scanSpec l = (out, 0, 0) := by
  obtain ⟨h2, h1, f, hf, he⟩ := h
  unfold scanSpec
  cases f with
  | zero => omega
  | succ f =>
    rw [if_neg hp, he, scanG, if_pos (List.drop_of_length_le hi)]
    simp [Except.map]

end Go.Q
