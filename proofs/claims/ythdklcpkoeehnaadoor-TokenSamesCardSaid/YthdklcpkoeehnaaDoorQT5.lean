import Derived.Test.YthdklcpkoeehnaaDoorQT4
import Derived.KernelRfl
namespace Go.Q
open Go Go.Proofs
set_option maxRecDepth 10000

abbrev TK := ByteArray × ByteArray
def tkAV (t : TK) : AV := .agg [.lit (.string t.1), .lit (.string t.2)]
def tkEq (x y : TK) : Bool := x.1.toList == y.1.toList && (x.2.toList == y.2.toList && true)

theorem bytes_eq {a b : ByteArray} (h : a.toList = b.toList) : a = b := by
  rw [ByteArray.toList_eq, ByteArray.toList_eq] at h
  obtain ⟨⟨x⟩⟩ := a
  obtain ⟨⟨y⟩⟩ := b
  simp_all

theorem tkEq_iff (x y : TK) : tkEq x y = decide (x = y) := by
  rw [Bool.eq_iff_iff]
  simp only [tkEq, Bool.and_true, Bool.and_eq_true, beq_iff_eq, decide_eq_true_eq]
  constructor
  · rintro ⟨h1, h2⟩
    exact Prod.ext (bytes_eq h1) (bytes_eq h2)
  · rintro rfl; exact ⟨rfl, rfl⟩

theorem At.map {α : Type} {f : α → AV} {l : List α} {j : Nat} {K : AV → Prop} (i : Nat) (hj : j = i) (h : i < l.length) (k : K (f l[i])) : At (l.map f) j K :=
  ⟨⟨_, by rw [hj, List.getElem?_map, List.getElem?_eq_getElem h]; rfl, k⟩⟩

theorem tok_flat : flatQ Tryd.prog 32 = some [.s, .s] := by kernel_rfl

theorem eq_upto {l m : List TK} {i : Nat} (h : ∀ j (h1 : j < l.length) (h2 : j < m.length), j < i → l[j] = m[j]) (hl : l.length = m.length) (hi : i = l.length) : l = m :=
  List.ext_getElem hl (fun j h1 h2 => h j h1 h2 (by omega))

theorem upto_succ2 {l m : List TK} {i : Nat} (h : ∀ j (h1 : j < l.length) (h2 : j < m.length), j < i → l[j] = m[j]) (hl : i < l.length) (hm : i < m.length) (he : (l[i].1.toList == m[i].1.toList && (l[i].2.toList == m[i].2.toList && true)) = true) :
    ∀ j (h1 : j < l.length) (h2 : j < m.length), j < i + 1 → l[j] = m[j] := by
  intro j h1 h2 h3
  rcases Nat.lt_or_ge j i with h4 | h4
  · exact h j h1 h2 h4
  · obtain rfl : j = i := by omega
    have e := tkEq_iff l[j] m[j]
    unfold tkEq at e
    rw [e] at he
    simpa using he

theorem tk_ne {l m : List TK} {i : Nat} (hl : i < l.length) (hm : i < m.length) (he : (l[i].1.toList == m[i].1.toList && (l[i].2.toList == m[i].2.toList && true)) = false) : ¬ l = m := by
  rintro rfl
  simp at he

theorem slicesEqual_ok (l m : List TK) (hl : l.length < 2 ^ 63) (hm : m.length < 2 ^ 63) :
    Gives Tryd.prog 18 [.vs 2 (l.map tkAV), .vs 2 (m.map tkAV)] (.lit (.bool (decide (l = m)))) := by
  refine ACalls.of_swp Tryd.func18 rfl (by decide) rfl (st0 := ⟨26, [(0, .vs 2 (l.map tkAV)), (1, .vs 2 (m.map tkAV))], []⟩) rfl (awp_ok ?_)
  repeat' ((conv => whnf); first
    | refine Arith.mk ⟨_, w64 (by omega), ?_⟩
    | refine Side.mk (by first | omega | (simp (disch := omega) only [w64]; omega) | (simp; omega) | (simp_all; done)) ?_
    | refine Arith.mk ⟨_, rfl, ?_⟩
    | ((refine ifB_intro (fun hb => ?_) (fun hb => ?_)) <;> (try simp only [List.length_map, decide_eq_true_eq, decide_eq_false_iff_not, beq_iff_eq, bne_iff_ne, beq_eq_false_iff_ne, bne_eq_false_iff_eq, ne_eq, Bool.not_eq_true', Bool.not_eq_false', Bool.not_eq_true, Bool.not_eq_false] at hb))
    | (refine LoopN.of (fun k st => ∃ i : Nat, i + k = l.length ∧ (∀ j (h1 : j < l.length) (h2 : j < m.length), j < i → l[j] = m[j]) ∧ st = ⟨26, [(0, .vs 2 (l.map tkAV)), (1, .vs 2 (m.map tkAV)), (12, .lit (.int .i64 ((l.map tkAV).length : Nat))), (13, .lit (.int .i64 i))], []⟩) ⟨_, _, _, _, Weak.none (ts := [(0, _), (1, _), (12, _), (13, _)]) rfl ⟨.same (.vs _ _) rfl, .same (.vs _ _) rfl, .same (.lit (.int _ _)) rfl, .same (.lit (.int _ _)) rfl, trivial⟩, l.length, 0, by omega, fun j _ _ hj => by omega, rfl⟩ ?_)
    | exact Returns.pure (r := .lit (.bool _)) rfl rfl rfl rfl ⟨by exact lb_ext (by simp; intro h; exact hb (by simp [h])), rfl⟩
    | (exfalso; omega))
  have hlm : l.length = m.length := by omega
  rintro k st ⟨i, hi, hp, rfl⟩
  refine awp_ok ?_
  repeat' ((conv => whnf); first
    | refine Arith.mk ⟨_, w64 (by omega), ?_⟩
    | refine Side.mk (by first | omega | (simp (disch := omega) only [w64]; omega) | (simp; omega) | (simp_all; done)) ?_
    | refine Arith.mk ⟨_, rfl, ?_⟩
    | (refine DrawN.of rfl ?_)
    | (apply DNode.of)
    | (refine EqS.mk ⟨_, tok_flat, ?_⟩)
    | (refine At.map (i) (by first | rfl | simp) (by first | assumption | omega) ?_)
    | (exact rfl)
    | ((refine ifB_intro (fun hb => ?_) (fun hb => ?_)) <;> (try simp only [List.length_map, decide_eq_true_eq, decide_eq_false_iff_not, beq_iff_eq, bne_iff_ne, beq_eq_false_iff_ne, bne_eq_false_iff_eq, ne_eq, Bool.not_eq_true', Bool.not_eq_false', Bool.not_eq_true, Bool.not_eq_false] at hb))
    | (exact ⟨_, _, _, _, Weak.none (ts := [(0, _), (1, _), (12, _), (13, _)]) rfl ⟨.same (.vs _ _) rfl, .same (.vs _ _) rfl, .same (.lit (.int _ _)) rfl, .same (.lit (.int _ _)) rfl, trivial⟩, k - 1, by omega, i + 1, by omega, upto_succ2 hp (by omega) (by omega) hb, rfl⟩)
    | exact Returns.pure (r := .lit (.bool _)) rfl rfl rfl rfl ⟨by first | exact lb_ext (by simp; exact eq_upto hp hlm (by omega)) | exact lb_ext (by simp; exact tk_ne (i := i) (by omega) (by omega) hb), rfl⟩
    | (exfalso; omega))
end Go.Q
