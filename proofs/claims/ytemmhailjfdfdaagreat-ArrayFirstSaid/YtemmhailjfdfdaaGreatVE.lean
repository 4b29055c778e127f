/- The law: sums and products of arrays do not ask which operand is first. -/
import Derived.Test.YtemmhailjfdfdaaGreatVD
import Derived.Test.YtemmhailjfdfdaaGreatAFE
namespace Go.Q
open Go
set_option maxRecDepth 100000
set_option maxHeartbeats 4000000

structure ArrR (a : api.Array) : Prop where
  i : ∀ n ∈ a.Elems, I64 n
  e : a.Elems.length < 9223372036854775808
  s : a.Shape.length < 9223372036854775808
def largeA (a : api.Array) : Bool := decide (400 < a.Elems.length) || decide (50 < a.Shape.length)
theorem largeA_no {a : api.Array} (h : ArrR a) (hl : largeA a = false) : ArrI a := by
  unfold largeA at hl
  simp only [Bool.or_eq_false_iff, decide_eq_false_iff_not] at hl
  exact ⟨h.i, by omega, by omega⟩
theorem lgStep (l : List api.Array) (k : Nat) (a : api.Array) (ha : l[k]? = some a) (hl : l.length < 100) (hr : ArrR a) : Law7.isLarge.l0 l (k : Int) = if largeA a = true then some true else Law7.isLarge.l0 l ((k + 1 : Nat) : Int) := by
  have hk : k < l.length := by
    rcases Nat.lt_or_ge k l.length with q | q
    · exact q
    · rw [List.getElem?_eq_none q] at ha; cases ha
  rw [Law7.isLarge.l0, loopO_eq, Law7.isLarge.s0]
  simp only [letkE]
  rw [decide_eq_true (show (k : Int) < (l.length : Int) by omega), condT, chk_pos (by omega), Int.toNat_natCast, ha, bindS, chk_pos (by omega), bindS, wi (by omega) (by omega)]
  unfold largeA
  by_cases h1 : 400 < a.Elems.length
  · rw [decide_eq_true (show (a.Elems.length : Int) > 400 by omega), condT, decide_eq_true h1, Bool.true_or, if_pos rfl]; rfl
  · rw [decide_eq_false (show ¬ (a.Elems.length : Int) > 400 by omega), condF, decide_eq_false h1, Bool.false_or]
    by_cases h2 : 50 < a.Shape.length
    · rw [decide_eq_true (show (a.Shape.length : Int) > 50 by omega), condT, decide_eq_true h2, if_pos rfl]; rfl
    · rw [decide_eq_false (show ¬ (a.Shape.length : Int) > 50 by omega), condF, decide_eq_false h2, if_neg (by decide)]; rfl
theorem lgEnd (l : List api.Array) (k : Nat) (hk : k = l.length) (hl : l.length ≤ 10) : Law7.isLarge.l0 l (k : Int) = some false := by
  rw [Law7.isLarge.l0, loopO_eq, Law7.isLarge.s0]
  simp only [letkE]
  rw [decide_eq_false (show ¬ (k : Int) < (l.length : Int) by omega), condF, decide_eq_false (show ¬ (l.length : Int) > 10 by omega)]; rfl
theorem large_two {a b : api.Array} (ha : ArrR a) (hb : ArrR b) : Law7.isLarge [a, b] = some (largeA a || largeA b) := by
  unfold Law7.isLarge
  refine (lgStep [a, b] 0 a rfl (by simp) ha).trans ?_
  cases h1 : largeA a
  · rw [if_neg (by decide), lgStep [a, b] 1 b rfl (by simp) hb]
    cases h2 : largeA b
    · rw [if_neg (by decide), lgEnd [a, b] 2 rfl (by simp)]; rfl
    · rw [if_pos rfl]; rfl
  · rw [if_pos rfl]; rfl

end Go.Q
namespace Go.Q
open Go
set_option maxRecDepth 100000
set_option maxHeartbeats 4000000

theorem ss_l0 {l k : List Int} (hk : l.length = k.length) (hl : l.length < 4611686018427387904) :
    ∀ m i : Nat, i + m = l.length → Ref7.SameShape.l0 l k (i : Int) = some (decide (l.drop i = k.drop i)) := by
  intro m
  induction m with
  | zero =>
    intro i hi
    rw [Ref7.SameShape.l0, loopO_eq, Ref7.SameShape.s0]
    simp only [letkE]
    rw [decide_eq_false (show ¬ (i : Int) < (l.length : Int) by omega), condF, bindS, Sum.elim_inr, List.drop_of_length_le (by omega), List.drop_of_length_le (by omega), decide_eq_true rfl]
  | succ m ih =>
    intro i hi
    have hil : i < l.length := by omega
    have hik : i < k.length := by omega
    rw [Ref7.SameShape.l0, loopO_eq, Ref7.SameShape.s0]
    simp only [letkE, nb1]
    rw [decide_eq_true (show (i : Int) < (l.length : Int) by omega), condT, chk_pos (by omega), Int.toNat_natCast, List.getElem?_eq_getElem hil, bindS, chk_pos (by omega), List.getElem?_eq_getElem hik, bindS, List.drop_eq_getElem_cons hil, List.drop_eq_getElem_cons hik]
    by_cases hp : l[i] = k[i]
    · rw [decide_eq_true hp, Bool.not_true, condF, wi (by omega) (by omega), bindS, Sum.elim_inl]
      rw [show Option.some (decide (l[i] :: l.drop (i + 1) = k[i] :: k.drop (i + 1))) = some (decide (l.drop (i + 1) = k.drop (i + 1))) from by
        congr 1; rw [decide_eq_decide, hp]; constructor
        · intro q; exact (List.cons.inj q).2
        · intro q; rw [q]]
      exact ih (i + 1) (by omega)
    · rw [decide_eq_false hp, Bool.not_false, condT, bindS, Sum.elim_inr, decide_eq_false (fun q => hp (List.cons.inj q).1)]
theorem ssF {l k : List Int} (hl : l.length < 4611686018427387904) : Ref7.SameShape l k = some (decide (l = k)) := by
  unfold Ref7.SameShape
  simp only [letkE, nb1]
  by_cases h : l.length = k.length
  · rw [decide_eq_true (show (l.length : Int) = (k.length : Int) by omega), Bool.not_true, condF]
    have := ss_l0 h hl l.length 0 (by omega)
    rw [List.drop_zero, List.drop_zero] at this
    exact this
  · rw [decide_eq_false (show ¬ (l.length : Int) = (k.length : Int) by omega), Bool.not_false, condT, decide_eq_false (fun q => h (by rw [q]))]

theorem One_one {op : ByteArray} {a b : api.Value} (va : ValB a.Kind a.N) (vb : ValB b.Kind b.N) (hk : kindC (opC (L op)) a.Kind b.Kind ≠ 0) : Arr.One op a b = Arr.one op a b := by
  unfold Arr.One Arr.One.j1 Arr.One.j0
  rw [aIsValue_eq, bindS, aIsValue_eq, dV_true va, dV_true vb]
  simp only [letkE, bindS, Bool.not_true, condF, aKind_eq, b1]
  rw [decide_eq_false hk, condF]
  show (Option.bind (Arr.one op a b) fun x => some ((⟨x.1.Kind, x.1.N⟩ : api.Value), x.2)) = _
  cases Arr.one op a b <;> rfl

section
variable {op : ByteArray} {a b : api.Array} (ha : ArrI a) (hb : ArrI b) (va : vldS a = true) (vb : vldS b = true) (hk : kindC (opC (L op)) a.Kind b.Kind ≠ 0) (h0 : a.Shape.length ≠ 0) (hs : a.Shape = b.Shape)
include ha hb va vb hk h0 hs
theorem first_l0 {s : List Int} {R : api.Array × Int} (hR : R = eachG (kindC (opC (L op)) a.Kind b.Kind) s (elemV op a b) a.Elems.length 0 []) :
    ∀ (m i : Nat) (out : List Int), i + m = a.Elems.length → out.length = i → R = eachG (kindC (opC (L op)) a.Kind b.Kind) s (elemV op a b) m i out →
      Law7.ArrayFirst.l0 op R.2 a.Kind a.Shape a.Elems b.Kind b.Shape b.Elems R.1.Kind R.1.Shape R.1.Elems (i : Int) = some true := by
  have el : b.Elems.length = a.Elems.length := by
    obtain ⟨_, _, sa, _⟩ := vld_facts va
    obtain ⟨_, _, sb, _⟩ := vld_facts vb
    rw [hs] at sa; omega
  obtain ⟨_, _, _, fa⟩ := vld_facts va
  obtain ⟨_, _, _, fb⟩ := vld_facts vb
  intro m
  induction m with
  | zero =>
    intro i out hi ho hr
    have h2 : R.2 = 0 := by rw [hr]; rfl
    rw [Law7.ArrayFirst.l0, loopO_eq, Law7.ArrayFirst.s0]
    simp only [letkE, b1]
    rw [decide_eq_false (show ¬ (i : Int) < (a.Elems.length : Int) by omega), condF, decide_eq_true h2, condT, Law7.Awake_eq]; rfl
  | succ m ih =>
    intro i out hi ho hr
    have h1 : i < a.Elems.length := by omega
    have h2 : i < b.Elems.length := by omega
    have ia : ixA a i = i := if_neg h0
    have ib : ixA b i = i := if_neg (by rw [← hs]; exact h0)
    have hix1 : ixA a i < a.Elems.length := by rw [ia]; exact h1
    have hix2 : ixA b i < b.Elems.length := by rw [ib]; exact h2
    obtain ⟨e1, e2⟩ := elem_eq ha hb va vb hk hix1 hix2
    simp only [ia, ib] at e1
    rw [Law7.ArrayFirst.l0, loopO_eq, Law7.ArrayFirst.s0]
    simp only [letkE, b1, nb1]
    rw [decide_eq_true (show (i : Int) < (a.Elems.length : Int) by omega), condT, chk_pos (by omega), Int.toNat_natCast, List.getElem?_eq_getElem h1, bindS, chk_pos (by omega), List.getElem?_eq_getElem h2, bindS]
    rw [One_one (a := ⟨a.Kind, a.Elems[i]⟩) (b := ⟨b.Kind, b.Elems[i]⟩) (fa _ (List.getElem_mem h1)) (fb _ (List.getElem_mem h2)) hk, e1, bindS]
    unfold eachG at hr
    by_cases hz : (elemV op a b i).2 = 0
    · rw [decide_eq_true hz, Bool.not_true, condF]
      rw [if_neg (fun q => q hz)] at hr
      have nx := ih (i + 1) _ (by omega) (by simp [ho]) hr
      have a400 := ha.e
      rw [wi (x := (i : Int) + 1) (by omega) (by omega)]
      by_cases hR2 : R.2 = 0
      · rw [decide_eq_true hR2, condT]
        have hR3 := hR2
        rw [hr] at hR3
        obtain ⟨t, et⟩ := eachG_ok m (i + 1) _ hR3
        rw [← hr] at et
        have ee : R.1.Elems[i]? = some (elemV op a b i).1.N := by
          rw [et]
          simp only
          rw [List.append_assoc, List.getElem?_append_right (by omega), ho, Nat.sub_self]; rfl
        have ek : R.1.Kind = (elemV op a b i).1.Kind := by rw [et, e2 hz]
        rw [chk_pos (by omega), ee, bindS, decide_eq_true rfl, Bool.not_true, condF, decide_eq_true ek, Bool.not_true, condF, bindS, Sum.elim_inl]
        exact nx
      · rw [decide_eq_false hR2, condF, bindS, Sum.elim_inl]
        exact nx
    · rw [decide_eq_false hz, Bool.not_false, condT]
      rw [if_pos hz] at hr
      have h2 : R.2 = (elemV op a b i).2 := by rw [hr]
      rw [decide_eq_true h2, condT, Law7.Awake_eq]; rfl
end

theorem ArrayFirst_eq (op : ByteArray) (a b : api.Array) (ra : ArrR a) (rb : ArrR b) : Law7.ArrayFirst op a b = some true := by
  unfold Law7.ArrayFirst
  rw [show Law7.isLarge [⟨a.Kind, a.Shape, a.Elems⟩, ⟨b.Kind, b.Shape, b.Elems⟩] = _ from large_two ra rb, bindS, Law7.Awake_eq, bindS]
  cases hl : (largeA a || largeA b)
  · rw [condF]
    simp only [Bool.or_eq_false_iff] at hl
    have ha := largeA_no ra hl.1
    have hb := largeA_no rb hl.2
    rw [show Arr.Valid ⟨a.Kind, a.Shape, a.Elems⟩ = _ from aValid_eq a (by have := ha.s; omega) (by have := ha.e; omega), bindS, show Arr.Valid ⟨b.Kind, b.Shape, b.Elems⟩ = _ from aValid_eq b (by have := hb.s; omega) (by have := hb.e; omega)]
    simp only [letkE, bindS, aKind_eq, b1]
    cases va : vldS a
    · rfl
    · rw [Bool.not_true, condF]
      cases vb : vldS b
      · rfl
      · rw [Bool.not_true, condF]
        by_cases hk : kindC (opC (L op)) a.Kind b.Kind = 0
        · rw [decide_eq_true hk, condT]
        · rw [decide_eq_false hk, condF]
          by_cases h0 : a.Shape.length = 0
          · rw [decide_eq_true (show (a.Shape.length : Int) = 0 by omega), condT]
          · rw [decide_eq_false (show ¬ (a.Shape.length : Int) = 0 by omega), condF, ssF (by have := ha.s; omega), bindS]
            by_cases hs : a.Shape = b.Shape
            · rw [decide_eq_true hs, Bool.not_true, condF]
              unfold Law7.ArrayFirst.j0
              have hsh : shpS a b = some a.Shape := by unfold shpS; rw [if_neg h0, if_pos (.inr hs)]
              obtain ⟨_, _, sa, _⟩ := vld_facts va
              obtain ⟨N, hN, hN4, hsl, hix⟩ := shp_elems ha hb va vb hsh
              have eN : N = a.Elems.length := by omega
              have d := Do_ok ha hb va vb hk hsh hN hN4 hsl hix
              rw [eN] at d
              rw [show Arr.Do op ⟨a.Kind, a.Shape, a.Elems⟩ ⟨b.Kind, b.Shape, b.Elems⟩ = _ from d, bindS]
              exact first_l0 ha hb va vb hk h0 hs rfl a.Elems.length 0 [] (by omega) rfl rfl
            · rw [decide_eq_false hs, Bool.not_false, condT]
  · rw [condT]
end Go.Q
