import Derived.Test.YthdklcpkoeehnaaDoorQT3
import Derived.Test.YthdklcpkoeehnaaDoorQU
namespace Go.Q
open Go Go.Proofs
set_option maxRecDepth 10000

/-- how many bytes at the front are of a sort -/
def pre (p : Int → Bool) (s : ByteArray) : Nat := (s.data.toList.takeWhile (fun c => p c.toNat)).length

theorem pre_le (p : Int → Bool) (s : ByteArray) : pre p s ≤ s.size := by
  have := (List.takeWhile_prefix (l := s.data.toList) (fun c => p c.toNat)).length_le
  have e : s.data.toList.length = s.size := by rw [Array.length_toList]; rfl
  unfold pre; omega

theorem bt_get {s : ByteArray} {i : Nat} (h : i < s.data.toList.length) : bt s i = (s.data.toList[i].toNat : Int) := by
  have : s.data.toList.getD i 0 = s.data.toList[i] := by simp only [List.getD, List.getElem?_eq_getElem h, Option.getD_some]
  unfold bt
  simp only [Int.toNat_natCast, this]

theorem take_all {α : Type} {p : α → Bool} : ∀ {l : List α} {i : Nat}, (∀ j (h : j < l.length), j < i → p l[j] = true) → i ≤ l.length → (l.takeWhile p).length = i + ((l.drop i).takeWhile p).length
  | l, 0, _, _ => by simp
  | [], i + 1, _, h => by simp at h
  | x :: xs, i + 1, h, hl => by
    have hx : p x = true := h 0 (by simp) (by omega)
    have ih := take_all (l := xs) (i := i) (fun j hj hji => h (j + 1) (by simpa using hj) (by omega)) (by simpa using hl)
    simp only [List.takeWhile_cons, hx, if_true, List.length_cons, List.drop_succ_cons, ih]
    omega

theorem pre_stop {p : Int → Bool} {s : ByteArray} {i : Nat} (h : ∀ j : Nat, j < i → p (bt s j) = true) (hi : i ≤ s.size) (hs : i < s.size → p (bt s i) = false) : pre p s = i := by
  have e : s.data.toList.length = s.size := by rw [Array.length_toList]; rfl
  unfold pre
  rw [take_all (i := i) (fun j hj hji => by have := h j hji; rwa [bt_get hj] at this) (by omega)]
  rcases Nat.lt_or_ge i s.size with h1 | h1
  · have h2 := hs h1
    rw [bt_get (by omega)] at h2
    rw [List.drop_eq_getElem_cons (by omega), List.takeWhile_cons, h2]
    simp
  · rw [List.drop_of_length_le (by omega)]; simp

theorem upto_succ {q : Int → Bool} {s : ByteArray} {i : Nat} (h : ∀ j : Nat, j < i → q (bt s j) = true) (hb : q (bt s i) = true) : ∀ j : Nat, j < i + 1 → q (bt s j) = true := by
  intro j hj
  rcases Nat.lt_or_ge j i with h1 | h1
  · exact h j h1
  · obtain rfl : j = i := by omega
    exact hb

theorem run_ok (g : Nat) (p : Int → Bool) (hg : ∀ c, Gives Tryd.prog g [.lit (.int .u8 c)] (.lit (.bool (p c)))) (s : ByteArray) (hs : s.size < 2 ^ 62) :
    Gives Tryd.prog 13 [.lit (.string s), .fn (.func g) [] []] (.lit (.int .i64 (pre p s))) := by
  refine ACalls.of_swp Tryd.func13 rfl (by decide) rfl (st0 := ⟨20, [(0, .lit (.string s)), (1, .fn (.func g) [] [])], []⟩) rfl (awp_ok ?_)
  conv => whnf
  refine LoopN.of (fun k st => ∃ i : Nat, i + k = s.size ∧ (∀ j : Nat, j < i → p (bt s j) = true) ∧ st = ⟨20, [(0, .lit (.string s)), (1, .fn (.func g) [] []), (5, .lit (.int .i64 i))], []⟩)
    ⟨_, _, _, _, Weak.none (ts := [(0, _), (1, _), (5, _)]) rfl ⟨.same (.lit (.string _)) rfl, .same (.fn _ _ _) rfl, .same (.lit (.int _ _)) rfl, trivial⟩, s.size, 0, by omega, fun j hj => by omega, rfl⟩ ?_
  rintro k st ⟨i, hi, hp, rfl⟩
  refine awp_ok ?_
  repeat' ((conv => whnf); first
    | refine Arith.mk ⟨_, w64 (by omega), ?_⟩
    | refine Side.mk (by first | omega | (simp (disch := omega) only [w64]; omega) | (simp; omega) | (simp_all; done)) ?_
    | refine Arith.mk ⟨_, rfl, ?_⟩
    | ((refine ifB_intro (fun hb => ?_) (fun hb => ?_)) <;> (try simp only [List.length_map, decide_eq_true_eq, decide_eq_false_iff_not, beq_iff_eq, bne_iff_ne, beq_eq_false_iff_ne, bne_eq_false_iff_eq, ne_eq, Bool.not_eq_true', Bool.not_eq_false', Bool.not_eq_true, Bool.not_eq_false] at hb))
    | (refine CallN.gives (hg _) rfl ?_)
    | (exact ⟨_, _, _, _, Weak.none (ts := [(0, _), (1, _), (5, _)]) rfl ⟨.same (.lit (.string _)) rfl, .same (.fn _ _ _) rfl, .same (.lit (.int _ _)) rfl, trivial⟩, k - 1, by omega, i + 1, by omega, upto_succ hp (by assumption), rfl⟩)
    | exact Returns.pure (r := .lit (.int _ _)) rfl rfl rfl rfl ⟨by exact li_ext (by rw [pre_stop hp (by omega) (by intro h; first | omega | assumption)]), rfl⟩
    | (exfalso; omega))
end Go.Q
