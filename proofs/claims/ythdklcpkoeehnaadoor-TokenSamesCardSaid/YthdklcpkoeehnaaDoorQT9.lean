import Derived.Test.YthdklcpkoeehnaaDoorQT8
namespace Go.Q
open Go Go.Proofs
set_option maxRecDepth 10000

theorem B_size (l : BS) : (B l).size = l.length := rfl
def wtest (l w : BS) : Bool := decide (w.length ≤ l.length) && (small (l.take w.length) == w)
def wordOf (l : BS) : BS := (words.find? (wtest l)).getD []

theorem wtest_t {s : ByteArray} {w : BS} {n : Nat} (hn : n = w.length) (hle : w.length ≤ s.size) (h : (B (small (L (s.extract 0 n)))).toList = (B w).toList) : wtest (L s) w = true := by
  rw [toList_L, toList_L, L_B, L_B, L_ext, hn] at h
  simp only [wtest, L_len, Bool.and_eq_true, decide_eq_true_eq, beq_iff_eq]
  exact ⟨hle, h⟩
theorem wtest_f {s : ByteArray} {w : BS} {n : Nat} (hn : n = w.length) (h : ¬ (B (small (L (s.extract 0 n)))).toList = (B w).toList) : wtest (L s) w = false := by
  rw [toList_L, toList_L, L_B, L_B, L_ext, hn] at h
  rw [← Bool.not_eq_true]
  simp only [wtest, L_len, Bool.and_eq_true, decide_eq_true_eq, beq_iff_eq]
  exact fun h2 => h h2.2
theorem wtest_f2 {s : ByteArray} {w : BS} (hle : ¬ w.length ≤ s.size) : wtest (L s) w = false := by
  rw [← Bool.not_eq_true]
  simp only [wtest, L_len, Bool.and_eq_true, decide_eq_true_eq, beq_iff_eq]
  exact fun h2 => hle h2.1

theorem find_at {α : Type} {p : α → Bool} : ∀ {l : List α} {i : Nat}, (∀ j (h : j < l.length), j < i → p l[j] = false) → (h : i < l.length) → p l[i] = true → l.find? p = some l[i]
  | [], i, _, h, _ => by simp at h
  | x :: xs, 0, _, _, he => by simp at he; simp [he]
  | x :: xs, i + 1, hj, h, he => by
    have h0 : p x = false := hj 0 (by simp) (by omega)
    rw [List.find?_cons, h0]
    exact find_at (fun j h1 h2 => hj (j + 1) (by simpa using h1) (by omega)) (by simpa using h) (by simpa using he)
theorem find_no {α : Type} {p : α → Bool} {l : List α} {i : Nat} (hj : ∀ j (h : j < l.length), j < i → p l[j] = false) (h : l.length ≤ i) : l.find? p = none := by
  rw [List.find?_eq_none]
  intro x hx
  obtain ⟨j, hj1, rfl⟩ := List.getElem_of_mem hx
  rw [hj j hj1 (by omega)]; simp
theorem no_succ {α : Type} {p : α → Bool} {l : List α} {i : Nat} (h : ∀ j (h1 : j < l.length), j < i → p l[j] = false) (hi : i < l.length) (he : p l[i] = false) : ∀ j (h1 : j < l.length), j < i + 1 → p l[j] = false := by
  intro j h1 h2
  rcases Nat.lt_or_ge j i with h3 | h3
  · exact h j h1 h3
  · obtain rfl : j = i := by omega
    exact he

theorem ls_ext {a b : ByteArray} (h : a = b) : AV.lit (.string a) = .lit (.string b) := by rw [h]

theorem word_ok (s : ByteArray) (hs : s.size < 2 ^ 46) : Gives Tryd.prog 23 [.lit (.string s)] (.lit (.string (B (wordOf (L s))))) := by
  refine ACalls.of_swp Tryd.func23 rfl (by decide) rfl (st0 := ⟨27, [(0, .lit (.string s))], []⟩) rfl (awp_ok ?_)
  have hw6 : words.length = 6 := rfl
  repeat' ((conv => whnf); first
    | refine Arith.mk ⟨_, w64 (by omega), ?_⟩
    | refine Side.mk (by first | omega | (simp (disch := omega) only [w64]; omega) | (simp; omega) | (simp_all; done)) ?_
    | refine Arith.mk ⟨_, rfl, ?_⟩
    | ((refine ifB_intro (fun hb => ?_) (fun hb => ?_)) <;> (try simp only [List.length_map, decide_eq_true_eq, decide_eq_false_iff_not, beq_iff_eq, bne_iff_ne, beq_eq_false_iff_ne, bne_eq_false_iff_eq, ne_eq, Bool.not_eq_true', Bool.not_eq_false', Bool.not_eq_true, Bool.not_eq_false] at hb))
    | (refine CallN.gives (words_ok) rfl ?_)
    | (refine LoopN.of (fun k st => ∃ i : Nat, i + k = words.length ∧ (∀ j (h1 : j < words.length), j < i → wtest (L s) words[j] = false) ∧ st = ⟨27, [(0, .lit (.string s)), (5, .vs 1 (words.map strAV)), (6, .lit (.int .i64 ((words.map strAV).length : Nat))), (7, .lit (.int .i64 i))], []⟩) ⟨_, _, _, _, Weak.none (ts := [(0, _), (5, _), (6, _), (7, _)]) rfl ⟨.same (.lit (.string _)) rfl, .same (.vs _ _) rfl, .same (.lit (.int _ _)) rfl, .same (.lit (.int _ _)) rfl, trivial⟩, words.length, 0, by omega, fun j _ hj => by omega, rfl⟩ ?_)
    | (exfalso; omega))
  rintro k st ⟨i, hi, hp, rfl⟩
  refine awp_ok ?_
  repeat' ((conv => whnf); first
    | refine Arith.mk ⟨_, w64 (by omega), ?_⟩
    | refine Side.mk (by first | omega | (simp only [B_size]; omega)) ?_
    | refine Arith.mk ⟨_, rfl, ?_⟩
    | (refine At.map (i) (by first | rfl | simp) (by first | assumption | omega) ?_)
    | ((refine ifB_intro (fun hb => ?_) (fun hb => ?_)) <;> (try simp only [List.length_map, decide_eq_true_eq, decide_eq_false_iff_not, beq_iff_eq, bne_iff_ne, beq_eq_false_iff_ne, bne_eq_false_iff_eq, ne_eq, Bool.not_eq_true', Bool.not_eq_false', Bool.not_eq_true, Bool.not_eq_false] at hb) <;> (try simp only [B_size] at hb))
    | (refine CallN.gives (small_ok _ (by simp only [ByteArray.size_extract]; omega)) rfl ?_)
    | (exact ⟨_, _, _, _, Weak.none (ts := [(0, _), (5, _), (6, _), (7, _)]) rfl ⟨.same (.lit (.string _)) rfl, .same (.vs _ _) rfl, .same (.lit (.int _ _)) rfl, .same (.lit (.int _ _)) rfl, trivial⟩, k - 1, by omega, i + 1, by omega, no_succ hp (by omega) (by first | exact wtest_f (by simp [B_size]) hb | exact wtest_f2 (by omega)), rfl⟩)
    | exact Returns.pure (r := .lit (.string _)) rfl rfl rfl rfl ⟨by first | exact ls_ext (by unfold wordOf; rw [find_no hp (by omega)]; rfl) | exact ls_ext (by unfold wordOf; rw [find_at hp (by omega) (wtest_t (by simp [B_size]) (by omega) hb)]; rfl), rfl⟩
    | (exfalso; omega))
end Go.Q
