/- The law: sums and products of arrays do not ask which operand is first. -/
import Derived.Test.YtemmhailjfdfdaaGreatVD
import Derived.Test.YtemmhailjfdfdaaGreatAFE
namespace Go.Q
open Go
set_option maxRecDepth 100000
set_option maxHeartbeats 4000000

structure ArrR (a : api.Array) : Prop where
  i : ∀ n ∈ a.Elems, I64 n
  e : a.Elems.length < 9223372036854775808
  s : a.Shape.length < 9223372036854775808
def largeA (a : api.Array) : Bool := decide (400 < a.Elems.length) || decide (50 < a.Shape.length)
theorem largeA_no {a : api.Array} (h : ArrR a) (hl : largeA a = false) : ArrI a := by
  unfold largeA at hl
  simp only [Bool.or_eq_false_iff, decide_eq_false_iff_not] at hl
  exact ⟨h.i, by omega, by omega⟩
theorem lgStep (l : List api.Array) (k : Nat) (a : api.Array) (ha : l[k]? = some a) (hl : l.length < 100) (hr : ArrR a) : Law7.isLarge.l0 l (k : Int) = if largeA a = true then some true else Law7.isLarge.l0 l ((k + 1 : Nat) : Int) := by
  have hk : k < l.length := by
    rcases Nat.lt_or_ge k l.length with q | q
    · exact q
    · rw [List.getElem?_eq_none q] at ha; cases ha
  rw [Law7.isLarge.l0, loopO_eq, Law7.isLarge.s0]
  simp only [letkE]
  rw [decide_eq_true (show (k : Int) < (l.length : Int) by omega), condT, chk_pos (by omega), Int.toNat_natCast, ha, bindS, chk_pos (by omega), bindS, wi (by omega) (by omega)]
  unfold largeA
  by_cases h1 : 400 < a.Elems.length
  · rw [decide_eq_true (show (a.Elems.length : Int) > 400 by omega), condT, decide_eq_true h1, Bool.true_or, if_pos rfl]; rfl
  · rw [decide_eq_false (show ¬ (a.Elems.length : Int) > 400 by omega), condF, decide_eq_false h1, Bool.false_or]
    by_cases h2 : 50 < a.Shape.length
    · rw [decide_eq_true (show (a.Shape.length : Int) > 50 by omega), condT, decide_eq_true h2, if_pos rfl]; rfl
    · rw [decide_eq_false (show ¬ (a.Shape.length : Int) > 50 by omega), condF, decide_eq_false h2, if_neg (by decide)]; rfl
theorem lgEnd (l : List api.Array) (k : Nat) (hk : k = l.length) (hl : l.length ≤ 10) : Law7.isLarge.l0 l (k : Int) = some false := by
  rw [Law7.isLarge.l0, loopO_eq, Law7.isLarge.s0]
  simp only [letkE]
  rw [decide_eq_false (show ¬ (k : Int) < (l.length : Int) by omega), condF, decide_eq_false (show ¬ (l.length : Int) > 10 by omega)]; rfl
theorem large_two {a b : api.Array} (ha : ArrR a) (hb : ArrR b) : Law7.isLarge [a, b] = some (largeA a || largeA b) := by
  unfold Law7.isLarge
  refine (lgStep [a, b] 0 a rfl (by simp) ha).trans ?_
  cases h1 : largeA a
  · rw [if_neg (by decide), lgStep [a, b] 1 b rfl (by simp) hb]
    cases h2 : largeA b
    · rw [if_neg (by decide), lgEnd [a, b] 2 rfl (by simp)]; rfl
    · rw [if_pos rfl]; rfl
  · rw [if_pos rfl]; rfl

theorem shp_turn (a b : api.Array) : shpS b a = shpS a b := by
  unfold shpS
  by_cases h1 : a.Shape.length = 0 <;> by_cases h2 : b.Shape.length = 0
  · rw [if_pos h1, if_pos h2, List.eq_nil_of_length_eq_zero h1, List.eq_nil_of_length_eq_zero h2]
  · rw [if_pos h1, if_neg h2, if_pos (.inl h1)]
  · rw [if_neg h1, if_pos h2, if_pos (.inl h2)]
  · rw [if_neg h1, if_neg h2]
    by_cases h3 : a.Shape = b.Shape
    · rw [if_pos (.inr h3.symm), if_pos (.inr h3), h3]
    · rw [if_neg (by rintro (q | q); exact h1 q; exact h3 q.symm), if_neg (by rintro (q | q); exact h2 q; exact h3 q)]

theorem kindC_turn {c : Nat} {a b : Int} (hc : c = 1 ∨ c = 2) (ha : kB a ≠ 3) (hb : kB b ≠ 3) : kindC c b a = kindC c a b ∧ (kindC c a b ≠ 0 → kB a = 1 ∧ kB b = 1) := by
  constructor
  · unfold kindC
    rw [show (kB b == 3) = false from by rw [beq_eq_false_iff_ne]; exact hb, show (kB a == 3) = false from by rw [beq_eq_false_iff_ne]; exact ha, condF, condF]
    have e : (if a > b then a else b) = (if b > a then b else a) := by split <;> split <;> omega
    rw [e, Bool.and_comm (kB b == 1), Bool.and_comm (kB b == 2)]
  · intro h
    rcases kc_need hb h with ⟨_, q⟩ | ⟨q, _⟩
    · exact q
    · omega

theorem eachG_congr {kind : Int} {shape : List Int} {g k : Nat → api.Value × Int} {N : Nat} (h : ∀ i, i < N → g i = k i) : ∀ (m i : Nat) (out : List Int), i + m = N → eachG kind shape g m i out = eachG kind shape k m i out
  | 0, _, _, _ => rfl
  | m + 1, i, out, hi => by
    unfold eachG
    rw [h i (by omega)]
    by_cases h0 : (k i).2 ≠ 0
    · rw [if_pos h0, if_pos h0]
    · rw [if_neg h0, if_neg h0]; exact eachG_congr h m (i + 1) _ (by omega)

theorem kB_valid {a : api.Array} (h : vldS a = true) : kB a.Kind ≠ 3 := by
  intro q
  have : a.Kind = 0 := of_decide_eq_true ((zero_kB _).trans (by rw [q]; rfl))
  have := vld_facts h
  omega

theorem Do_turn {op : ByteArray} (hop : L op = [43] ∨ L op = [42]) {a b : api.Array} (ha : ArrI a) (hb : ArrI b) : ∃ r, Arr.Do op a b = some r ∧ Arr.Do op b a = some r ∧ r.1.Shape.length ≤ 50 ∧ r.1.Elems.length ≤ 400 := by
  have hc : opC (L op) = 1 ∨ opC (L op) = 2 := by rcases hop with q | q <;> rw [q] <;> decide
  cases hva : vldS a
  · exact ⟨_, Do_bad ha hb (.inl hva), Do_bad hb ha (.inr hva), by decide, by decide⟩
  · cases hvb : vldS b
    · exact ⟨_, Do_bad ha hb (.inr hvb), Do_bad hb ha (.inl hvb), by decide, by decide⟩
    · have qa := kB_valid hva
      have qb := kB_valid hvb
      obtain ⟨e1, e2⟩ := kindC_turn hc qa qb
      by_cases hk : kindC (opC (L op)) a.Kind b.Kind = 0
      · exact ⟨_, Do_nokind ha hb hva hvb hk, Do_nokind hb ha hvb hva (e1.trans hk), by decide, by decide⟩
      · have hk' : kindC (opC (L op)) b.Kind a.Kind ≠ 0 := by rw [e1]; exact hk
        cases hs : shpS a b with
        | none => exact ⟨_, Do_noshape ha hb hva hvb hk hs, Do_noshape hb ha hvb hva hk' ((shp_turn a b).trans hs), by decide, by decide⟩
        | some s =>
          obtain ⟨N, hN, hN4, hsl, hix⟩ := shp_elems ha hb hva hvb hs
          have d1 := Do_ok ha hb hva hvb hk hs hN hN4 hsl hix
          have d2 := Do_ok hb ha hvb hva hk' ((shp_turn a b).trans hs) hN hN4 hsl (fun i hi => (hix i hi).symm)
          obtain ⟨k1, k2⟩ := e2 hk
          have na : NumK a.Kind := of_decide_eq_true (p := a.Kind = 1 ∨ a.Kind = 3 ∨ a.Kind = 4) ((N1_kB a.Kind).trans (by rw [k1]; rfl))
          have nb : NumK b.Kind := of_decide_eq_true (p := b.Kind = 1 ∨ b.Kind = 3 ∨ b.Kind = 4) ((N1_kB b.Kind).trans (by rw [k2]; rfl))
          obtain ⟨_, _, _, fa⟩ := vld_facts hva
          obtain ⟨_, _, _, fb⟩ := vld_facts hvb
          have hg : ∀ i, i < N → elemV op b a i = elemV op a b i := by
            intro i hi
            obtain ⟨x1, x2⟩ := hix i hi
            have c1 := (elem_eq ha hb hva hvb hk x1 x2).1
            have c2 := (elem_eq hb ha hvb hva hk' x2 x1).1
            have ma := List.getElem_mem x1
            have mb := List.getElem_mem x2
            have t := one_turn (a := ⟨a.Kind, a.Elems[ixA a i]⟩) (b := ⟨b.Kind, b.Elems[ixA b i]⟩) hop na nb (ha.i _ ma) (hb.i _ mb) (fa _ ma) (fb _ mb)
            rw [c1, c2] at t
            exact (Option.some.inj t).symm
          rw [e1, eachG_congr hg N 0 [] (by omega)] at d2
          refine ⟨_, d1, d2, ?_⟩
          have len : ∀ (m i : Nat) (out : List Int), i + m = N → out.length = i → (eachG (kindC (opC (L op)) a.Kind b.Kind) s (elemV op a b) m i out).1.Elems.length ≤ N ∧ (eachG (kindC (opC (L op)) a.Kind b.Kind) s (elemV op a b) m i out).1.Shape.length ≤ 50 := by
            intro m
            induction m with
            | zero => intro i out hi ho; exact ⟨by show out.length ≤ N; omega, hsl⟩
            | succ m ih =>
              intro i out hi ho
              unfold eachG
              by_cases h0 : (elemV op a b i).2 ≠ 0
              · rw [if_pos h0]; exact ⟨Nat.zero_le _, Nat.zero_le _⟩
              · rw [if_neg h0]; exact ih (i + 1) _ (by omega) (by simp [ho])
          have := len N 0 [] (by omega) rfl
          exact ⟨this.2, by omega⟩

theorem Same_self {x : api.Array} (h1 : x.Shape.length ≤ 50) (h2 : x.Elems.length ≤ 400) : Arr.Same x x = some true := by
  unfold Arr.Same
  simp only [letkE, b1, decide_true, condT]
  rw [eqF (by omega), decide_eq_true rfl, bindS, condT, eqF (by omega), decide_eq_true rfl, bindS]

theorem ArrayTurns_eq (a b : api.Array) (ha : ArrR a) (hb : ArrR b) : Law7.ArrayTurns a b = some true := by
  unfold Law7.ArrayTurns
  rw [show Law7.isLarge [⟨a.Kind, a.Shape, a.Elems⟩, ⟨b.Kind, b.Shape, b.Elems⟩] = _ from large_two ha hb, bindS]
  cases hl : (largeA a || largeA b)
  · rw [condF]
    simp only [Bool.or_eq_false_iff] at hl
    have ia := largeA_no ha hl.1
    have ib := largeA_no hb hl.2
    obtain ⟨r, p1, p2, p3, p4⟩ := Do_turn (op := ⟨#[43]⟩) (.inl rfl) ia ib
    obtain ⟨t, q1, q2, q3, q4⟩ := Do_turn (op := ⟨#[42]⟩) (.inr rfl) ia ib
    rw [show Arr.Do ⟨#[43]⟩ ⟨a.Kind, a.Shape, a.Elems⟩ ⟨b.Kind, b.Shape, b.Elems⟩ = _ from p1, show Arr.Do ⟨#[43]⟩ ⟨b.Kind, b.Shape, b.Elems⟩ ⟨a.Kind, a.Shape, a.Elems⟩ = _ from p2,
      show Arr.Do ⟨#[42]⟩ ⟨a.Kind, a.Shape, a.Elems⟩ ⟨b.Kind, b.Shape, b.Elems⟩ = _ from q1, show Arr.Do ⟨#[42]⟩ ⟨b.Kind, b.Shape, b.Elems⟩ ⟨a.Kind, a.Shape, a.Elems⟩ = _ from q2]
    simp only [bindS, letkE, b1, decide_true, condT]
    rw [show Arr.Same ⟨r.1.Kind, r.1.Shape, r.1.Elems⟩ ⟨r.1.Kind, r.1.Shape, r.1.Elems⟩ = _ from Same_self p3 p4, bindS, condT, show Arr.Same ⟨t.1.Kind, t.1.Shape, t.1.Elems⟩ ⟨t.1.Kind, t.1.Shape, t.1.Elems⟩ = _ from Same_self q3 q4, bindS, condT, Law7.Awake_eq, bindS]
  · rw [condT, Law7.Awake_eq, bindS]
end Go.Q
