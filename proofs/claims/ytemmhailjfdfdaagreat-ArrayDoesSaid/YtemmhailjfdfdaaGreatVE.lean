import Derived.Test.YtemmhailjfdfdaaGreatVD
import Derived.Test.YtemmhailjfdfdaaGreatAFE
namespace Go.Q
open Go
set_option maxRecDepth 100000
set_option maxHeartbeats 4000000
structure ArrR (a:api.Array):Prop where
  i:∀ n ∈ a.Elems,I64 n
  e:a.Elems.length < 9223372036854775808
  s:a.Shape.length < 9223372036854775808
def largeA (a:api.Array):Bool:=decide (400 < a.Elems.length) || decide (50 < a.Shape.length)
theorem largeA_no {a:api.Array} (h:ArrR a) (hl:largeA a = false):ArrI a:=by
  unfold largeA at hl
  simp only [Bool.or_eq_false_iff,decide_eq_false_iff_not] at hl
  exact ⟨h.i,by omega,by omega⟩
theorem lgStep (l:List api.Array) (k:Nat) (a:api.Array) (ha:l[k]? = some a) (hl:l.length < 100) (hr:ArrR a):Law7.isLarge.l0 l (k:Int) = if largeA a = true then some true else Law7.isLarge.l0 l ((k + 1:Nat):Int):=by
  have hk:k < l.length:=by
    rcases Nat.lt_or_ge k l.length with q | q
    · exact q
    · rw [List.getElem?_eq_none q] at ha; cases ha
  rw [Law7.isLarge.l0,loopO_eq,Law7.isLarge.s0]
  simp only [letkE]
  rw [decide_eq_true (show (k:Int) < (l.length:Int) by omega),condT,chk_pos (by omega),Int.toNat_natCast,ha,bindS,chk_pos (by omega),bindS,wi (by omega) (by omega)]
  unfold largeA
  by_cases h1:400 < a.Elems.length
  · rw [decide_eq_true (show (a.Elems.length:Int) > 400 by omega),condT,decide_eq_true h1,Bool.true_or,if_pos rfl]; rfl
  · rw [decide_eq_false (show ¬ (a.Elems.length:Int) > 400 by omega),condF,decide_eq_false h1,Bool.false_or]
    by_cases h2:50 < a.Shape.length
    · rw [decide_eq_true (show (a.Shape.length:Int) > 50 by omega),condT,decide_eq_true h2,if_pos rfl]; rfl
    · rw [decide_eq_false (show ¬ (a.Shape.length:Int) > 50 by omega),condF,decide_eq_false h2,if_neg (by decide)]; rfl
theorem lgEnd (l:List api.Array) (k:Nat) (hk:k = l.length) (hl:l.length ≤ 10):Law7.isLarge.l0 l (k:Int) = some false:=by
  rw [Law7.isLarge.l0,loopO_eq,Law7.isLarge.s0]
  simp only [letkE]
  rw [decide_eq_false (show ¬ (k:Int) < (l.length:Int) by omega),condF,decide_eq_false (show ¬ (l.length:Int) > 10 by omega)]; rfl
theorem large_two {a b:api.Array} (ha:ArrR a) (hb:ArrR b):Law7.isLarge [a,b] = some (largeA a || largeA b):=by
  unfold Law7.isLarge
  refine (lgStep [a,b] 0 a rfl (by simp) ha).trans ?_
  cases h1:largeA a
  · rw [if_neg (by decide),lgStep [a,b] 1 b rfl (by simp) hb]
    cases h2:largeA b
    · rw [if_neg (by decide),lgEnd [a,b] 2 rfl (by simp)]; rfl
    · rw [if_pos rfl]; rfl
  · rw [if_pos rfl]; rfl
theorem Same_self {x:api.Array} (h1:x.Shape.length ≤ 50) (h2:x.Elems.length ≤ 400):Arr.Same x x = some true:=by
  unfold Arr.Same
  simp only [letkE,b1,decide_true,condT]
  rw [eqF (by omega),decide_eq_true rfl,bindS,condT,eqF (by omega),decide_eq_true rfl,bindS]
end Go.Q
namespace Go.Q
open Go
set_option maxRecDepth 100000
set_option maxHeartbeats 4000000
theorem ss_l0 {l k:List Int} (hk:l.length = k.length) (hl:l.length < 4611686018427387904) :
    ∀ m i:Nat,i + m = l.length → Ref7.SameShape.l0 l k (i:Int) = some (decide (l.drop i = k.drop i)):=by
  intro m
  induction m with
  | zero =>
    intro i hi
    rw [Ref7.SameShape.l0,loopO_eq,Ref7.SameShape.s0]
    simp only [letkE]
    rw [decide_eq_false (show ¬ (i:Int) < (l.length:Int) by omega),condF,bindS,Sum.elim_inr,List.drop_of_length_le (by omega),List.drop_of_length_le (by omega),decide_eq_true rfl]
  | succ m ih =>
    intro i hi
    have hil:i < l.length:=by omega
    have hik:i < k.length:=by omega
    rw [Ref7.SameShape.l0,loopO_eq,Ref7.SameShape.s0]
    simp only [letkE,nb1]
    rw [decide_eq_true (show (i:Int) < (l.length:Int) by omega),condT,chk_pos (by omega),Int.toNat_natCast,List.getElem?_eq_getElem hil,bindS,chk_pos (by omega),List.getElem?_eq_getElem hik,bindS,List.drop_eq_getElem_cons hil,List.drop_eq_getElem_cons hik]
    by_cases hp:l[i] = k[i]
    · rw [decide_eq_true hp,Bool.not_true,condF,wi (by omega) (by omega),bindS,Sum.elim_inl]
      rw [show Option.some (decide (l[i] :: l.drop (i + 1) = k[i] :: k.drop (i + 1))) = some (decide (l.drop (i + 1) = k.drop (i + 1))) from by
        congr 1; rw [decide_eq_decide,hp]; constructor
        · intro q; exact (List.cons.inj q).2
        · intro q; rw [q]]
      exact ih (i + 1) (by omega)
    · rw [decide_eq_false hp,Bool.not_false,condT,bindS,Sum.elim_inr,decide_eq_false (fun q=>hp (List.cons.inj q).1)]
theorem ssF {l k:List Int} (hl:l.length < 4611686018427387904):Ref7.SameShape l k = some (decide (l = k)):=by
  unfold Ref7.SameShape
  simp only [letkE,nb1]
  by_cases h:l.length = k.length
  · rw [decide_eq_true (show (l.length:Int) = (k.length:Int) by omega),Bool.not_true,condF]
    have:=ss_l0 h hl l.length 0 (by omega)
    rw [List.drop_zero,List.drop_zero] at this
    exact this
  · rw [decide_eq_false (show ¬ (l.length:Int) = (k.length:Int) by omega),Bool.not_false,condT,decide_eq_false (fun q=>h (by rw [q]))]
section
variable {op:ByteArray} {a b:api.Array} (ha:ArrI a) (hb:ArrI b) (va:vldS a = true) (vb:vldS b = true) (hk:kindC (opC (L op)) a.Kind b.Kind ≠ 0) (h0:a.Shape.length ≠ 0) (hs:a.Shape = b.Shape)
include ha hb va vb hk h0 hs
end
end Go.Q
namespace Go.Q
open Go
set_option maxRecDepth 100000
set_option maxHeartbeats 4000000
def zeroX (l:List Int):Bool:=l.any fun x=>decide (x = 0)
theorem cnt_l1 {l:List Int} (i:Nat) (hi:i < 1000) (hl:l.length < 1000):∀ (m k:Nat) (n:Int),k + m = l.length → Ref7.Count.l1 l (i:Int) n (k:Int) = some (.inl (if zeroX (l.drop k) = true then 0 else n,((i + 1:Nat):Int))):=by
  intro m
  induction m with
  | zero =>
    intro k n hk
    rw [Ref7.Count.l1,loopO_eq,Ref7.Count.s1]
    simp only [letkE]
    rw [decide_eq_false (show ¬ (k:Int) < (l.length:Int) by omega),condF,List.drop_of_length_le (by omega),wi (by omega) (by omega)]; rfl
  | succ m ih =>
    intro k n hk
    have hkl:k < l.length:=by omega
    rw [Ref7.Count.l1,loopO_eq,Ref7.Count.s1]
    simp only [letkE,b1]
    rw [decide_eq_true (show (k:Int) < (l.length:Int) by omega),condT,chk_pos (by omega),Int.toNat_natCast,List.getElem?_eq_getElem hkl,bindS,wi (by omega) (by omega),List.drop_eq_getElem_cons hkl]
    unfold zeroX
    rw [List.any_cons]
    by_cases h0:l[k] = 0
    · rw [decide_eq_true h0,condT,bindS,Sum.elim_inl,Bool.true_or,if_pos rfl]
      have:=ih (k + 1) 0 (by omega)
      unfold zeroX at this
      refine Eq.trans this ?_
      split <;> rfl
    · rw [decide_eq_false h0,condF,bindS,Sum.elim_inl,Bool.false_or]
      exact ih (k + 1) n (by omega)
def capN (P:Int) (rest:List Int):Int:=if P ≤ 4000 then P else if zeroX rest = true then 0 else 4001
theorem cnt_l0 {l:List Int} (hl:l.length < 1000):∀ (m i:Nat) (P:Int),i + m = l.length → 0 ≤ P →
    Ref7.Count.l0 l (capN P (l.drop i)) (i:Int) = some (if (l.drop i).any badX = true then -1 else if 4000 < (l.drop i).foldl (· * ·) P then -1 else (l.drop i).foldl (· * ·) P):=by
  intro m
  induction m with
  | zero =>
    intro i P hi hP
    rw [Ref7.Count.l0,loopO_eq,Ref7.Count.s0]
    simp only [letkE]
    rw [decide_eq_false (show ¬ (i:Int) < (l.length:Int) by omega),condF,List.drop_of_length_le (by omega)]
    rw [show capN P [] = if P ≤ 4000 then P else 4001 from rfl]
    show _ = some (if 4000 < P then -1 else P)
    by_cases h:P ≤ 4000
    · rw [if_pos h,decide_eq_false (show ¬ P > 4000 by omega),condF,if_neg (by omega)]; rfl
    · rw [if_neg h,show decide ((4001:Int) > 4000) = true from rfl,condT,if_pos (by omega)]; rfl
  | succ m ih =>
    intro i P hi hP
    have hil:i < l.length:=by omega
    rw [Ref7.Count.l0,loopO_eq,Ref7.Count.s0]
    simp only [letkE]
    rw [decide_eq_true (show (i:Int) < (l.length:Int) by omega),condT,chk_pos (by omega),Int.toNat_natCast,List.getElem?_eq_getElem hil,bindS,chk_pos (by omega),bindS,List.drop_eq_getElem_cons hil,List.any_cons,List.foldl_cons]
    by_cases hb:badX l[i] = true
    · rw [hb,Bool.true_or,if_pos rfl]
      unfold badX at hb
      simp only [Bool.or_eq_true,decide_eq_true_eq] at hb
      by_cases h1:l[i] < 0
      · rw [decide_eq_true h1,condT]; rfl
      · rw [decide_eq_false h1,condF,decide_eq_true (show l[i] > 4000 by omega),condT]; rfl
    · simp only [Bool.not_eq_true] at hb
      have hb':=hb
      unfold badX at hb
      simp only [Bool.or_eq_false_iff,decide_eq_false_iff_not] at hb
      rw [hb',Bool.false_or,decide_eq_false hb.1,condF,decide_eq_false (show ¬ l[i] > 4000 by omega),condF]
      unfold Ref7.Count.j0
      simp only [letkE]
      rw [chk_pos (by omega),Int.toNat_natCast,List.getElem?_eq_getElem hil,bindS]
      generalize hx:l[i] = x at *
      have x0:0 ≤ x:=by omega
      have hPx:0 ≤ P * x:=Int.mul_nonneg hP x0
      have cap4:0 ≤ capN P (x :: l.drop (i + 1)) ∧ capN P (x :: l.drop (i + 1)) ≤ 4001:=by unfold capN; split <;> (try split) <;> omega
      have mb:=mul_bound cap4.1 x0 cap4.2 (show x ≤ 4000 by omega)
      rw [wi (by omega) (by omega)]
      have key:(if (if 4001 < capN P (x :: l.drop (i + 1)) * x then 4001 else capN P (x :: l.drop (i + 1)) * x) > 4000 then (if zeroX (l.drop (i + 1)) = true then 0 else (if 4001 < capN P (x :: l.drop (i + 1)) * x then 4001 else capN P (x :: l.drop (i + 1)) * x)) else (if 4001 < capN P (x :: l.drop (i + 1)) * x then 4001 else capN P (x :: l.drop (i + 1)) * x)) = capN (P * x) (l.drop (i + 1)):=by
        have hz:zeroX (x :: l.drop (i + 1)) = (decide (x = 0) || zeroX (l.drop (i + 1))):=List.any_cons
        unfold capN
        rw [hz]
        by_cases p4:P ≤ 4000
        · rw [if_pos p4]
          by_cases q:P * x ≤ 4000
          · rw [if_pos q,if_neg (show ¬ 4001 < P * x by omega),if_neg (show ¬ P * x > 4000 by omega)]
          · rw [if_neg q]
            by_cases q2:4001 < P * x
            · rw [if_pos q2,if_pos (by decide)]
            · rw [if_neg q2,if_pos (show P * x > 4000 by omega),show P * x = 4001 by omega]
        · rw [if_neg p4]
          by_cases x1:x = 0
          · subst x1
            rw [decide_eq_true rfl,Bool.true_or,if_pos rfl,Int.mul_zero,Int.mul_zero,if_neg (by decide),if_neg (by decide),if_pos (by decide)]
          · rw [decide_eq_false x1,Bool.false_or]
            have hge:P ≤ P * x:=by
              have:=Int.mul_le_mul_of_nonneg_left (show 1 ≤ x by omega) hP
              rwa [Int.mul_one] at this
            rw [if_neg (show ¬ P * x ≤ 4000 by omega)]
            cases hzz:zeroX (l.drop (i + 1))
            · simp only [Bool.false_eq_true,if_false]
              by_cases q2:4001 < 4001 * x
              · rw [if_pos q2,if_pos (by decide)]
              · rw [if_neg q2,show 4001 * x = 4001 by omega,if_pos (by decide)]
            · simp only [if_true]
              rw [Int.zero_mul,if_neg (by decide),if_neg (by decide)]
      have nx:=ih (i + 1) (P * x) (by omega) hPx
      rw [← key] at nx
      generalize (if 4001 < capN P (x :: l.drop (i + 1)) * x then 4001 else capN P (x :: l.drop (i + 1)) * x) = y at *
      by_cases q:y > 4000
      · rw [if_pos q] at nx
        rw [decide_eq_true q,condT,wi (by omega) (by omega),show ((i:Int) + 1) = ((i + 1:Nat):Int) by omega,cnt_l1 i (by omega) hl (l.length - (i + 1)) (i + 1) y (by omega),bindS,Sum.elim_inl]
        exact nx
      · rw [if_neg q] at nx
        rw [decide_eq_false q,condF,wi (by omega) (by omega),bindS,Sum.elim_inl]
        exact nx
theorem rCount_eq {l:List Int} (h3:l.length ≤ 3):Ref7.Count l = some (szS l):=by
  have:=cnt_l0 (l:=l) (by omega) l.length 0 1 (by omega) (by decide)
  rw [List.drop_zero] at this
  unfold Ref7.Count
  rw [show Ref7.Count.l0 l 1 0 = _ from this]
  unfold szS prodL
  by_cases hb:l.any badX = true
  · rw [if_pos hb,if_pos (.inr hb)]
  · rw [if_neg hb,if_neg (show ¬ (3 < l.length ∨ l.any badX = true) by rintro (q | q); omega; exact hb q)]
theorem rv_l1 {k:Int} {s l:List Int} (hi:∀ n ∈ l,I64 n) (hl:l.length < 100000):∀ m i:Nat,i + m = l.length → Ref7.Valid.l1 k s l (i:Int) = some ((l.drop i).all (dV k)):=by
  intro m
  induction m with
  | zero =>
    intro i h
    rw [Ref7.Valid.l1,loopO_eq,Ref7.Valid.s1]
    simp only [letkE]
    rw [decide_eq_false (show ¬ (i:Int) < (l.length:Int) by omega),condF,List.drop_of_length_le (by omega)]; rfl
  | succ m ih =>
    intro i h
    have hil:i < l.length:=by omega
    rw [Ref7.Valid.l1,loopO_eq,Ref7.Valid.s1]
    simp only [letkE]
    rw [decide_eq_true (show (i:Int) < (l.length:Int) by omega),condT,chk_pos (by omega),Int.toNat_natCast,List.getElem?_eq_getElem hil,bindS,rIsValue_eq (hi _ (List.getElem_mem hil)),bindS,List.drop_eq_getElem_cons hil,List.all_cons]
    cases hd:dV k l[i]
    · rfl
    · rw [Bool.not_true,condF,wi (by omega) (by omega),bindS,Sum.elim_inl,Bool.true_and]
      exact ih (i + 1) (by omega)
theorem rv_l0 {k:Int} {s l:List Int} (hg:∀ x ∈ s,0 ≤ x ∧ x ≤ 4000) (hi:∀ n ∈ l,I64 n) (hl:l.length < 100000) (hs:s.length < 1000):∀ m i:Nat,i + m = s.length → Ref7.Valid.l0 k s l (i:Int) = some (l.all (dV k)):=by
  intro m
  induction m with
  | zero =>
    intro i h
    rw [Ref7.Valid.l0,loopO_eq,Ref7.Valid.s0]
    simp only [letkE]
    have:=rv_l1 (k:=k) (s:=s) hi hl l.length 0 (by omega)
    rw [List.drop_zero] at this
    rw [decide_eq_false (show ¬ (i:Int) < (s.length:Int) by omega),condF,show Ref7.Valid.l1 k s l 0 = _ from this]; rfl
  | succ m ih =>
    intro i h
    have hil:i < s.length:=by omega
    have g:=hg _ (List.getElem_mem hil)
    rw [Ref7.Valid.l0,loopO_eq,Ref7.Valid.s0]
    simp only [letkE]
    rw [decide_eq_true (show (i:Int) < (s.length:Int) by omega),condT,chk_pos (by omega),Int.toNat_natCast,List.getElem?_eq_getElem hil,bindS,decide_eq_false (by omega),condF,chk_pos (by omega),bindS,decide_eq_false (by omega),condF,wi (by omega) (by omega),bindS,Sum.elim_inl]
    exact ih (i + 1) (by omega)
theorem rValidA_eq {a:api.Array} (ha:ArrI a):Ref7.Valid a = some (vldS a):=by
  unfold Ref7.Valid Ref7.Valid.j0 vldS
  simp only [letkE,nb1]
  have hae:=ha.e
  have has:=ha.s
  by_cases c1:1 ≤ a.Kind
  · rw [decide_eq_false (show ¬ a.Kind < 1 by omega),condF,decide_eq_true c1,Bool.true_and]
    by_cases c2:a.Kind ≤ 4
    · rw [decide_eq_false (show ¬ a.Kind > 4 by omega),condF,decide_eq_true c2,Bool.true_and]
      by_cases c3:3 < a.Shape.length
      · have:szS a.Shape = -1:=by unfold szS; rw [if_pos (.inl c3)]
        rw [decide_eq_true (show (a.Shape.length:Int) > 3 by omega),condT,this,decide_eq_false (by omega)]; rfl
      · rw [decide_eq_false (show ¬ (a.Shape.length:Int) > 3 by omega),condF,rCount_eq (by omega),bindS]
        by_cases c4:szS a.Shape = a.Elems.length
        · have good:=(szS_three (l:=a.Shape) (by omega)).2.1
          rw [decide_eq_true c4,Bool.not_true,condF,Bool.true_and]
          exact rv_l0 good ha.i (by omega) (by omega) a.Shape.length 0 (by omega)
        · rw [decide_eq_false c4]; rfl
    · rw [decide_eq_true (show a.Kind > 4 by omega),condT,decide_eq_false c2]; rfl
  · rw [decide_eq_true (show a.Kind < 1 by omega),condT,decide_eq_false c1]; rfl
theorem rAt_eq {a:api.Array} {i:Nat} (h:ixA a i < a.Elems.length):Ref7.At a (i:Int) = some ⟨a.Kind,a.Elems[ixA a i]⟩:=by
  unfold Ref7.At Ref7.At.j0
  simp only [letkE,b1]
  unfold ixA at *
  by_cases hs:a.Shape.length = 0
  · simp only [if_pos hs] at h ⊢
    rw [decide_eq_true (show (a.Shape.length:Int) = 0 by omega),condT,chk_pos (by decide),show ((0:Int)).toNat = 0 from rfl,List.getElem?_eq_getElem h,bindS]
  · simp only [if_neg hs] at h ⊢
    rw [decide_eq_false (show ¬ (a.Shape.length:Int) = 0 by omega),condF,chk_pos (by omega),Int.toNat_natCast,List.getElem?_eq_getElem h,bindS]
theorem coEnd (l:List api.Array) (s:List Int) (k:Nat) (hk:k = l.length) (hs:s.length ≤ 50):Ref7.Common.l0 l s (k:Int) = some (s,true):=by
  rw [Ref7.Common.l0,loopO_eq,Ref7.Common.s0]
  simp only [letkE]
  rw [decide_eq_false (show ¬ (k:Int) < (l.length:Int) by omega),condF,chk_pos (by simp; omega)]; rfl
theorem coStep (l:List api.Array) (s:List Int) (k:Nat) (a:api.Array) (ha:l[k]? = some a) (hl:l.length < 100) (hs:s.length ≤ 50) :
    Ref7.Common.l0 l s (k:Int) = if a.Shape.length = 0 then Ref7.Common.l0 l s ((k + 1:Nat):Int)
      else if s.length = 0 then Ref7.Common.l0 l a.Shape ((k + 1:Nat):Int) else if s = a.Shape then Ref7.Common.l0 l a.Shape ((k + 1:Nat):Int) else some ([],false):=by
  have hk:k < l.length:=by
    rcases Nat.lt_or_ge k l.length with q | q
    · exact q
    · rw [List.getElem?_eq_none q] at ha; cases ha
  rw [Ref7.Common.l0,loopO_eq,Ref7.Common.s0]
  unfold Ref7.Common.j0
  simp only [letkE,b1]
  rw [decide_eq_true (show (k:Int) < (l.length:Int) by omega),condT,chk_pos (by omega),chk_pos (by omega),Int.toNat_natCast,ha,bindS,wi (by omega) (by omega)]
  by_cases h0:a.Shape.length = 0
  · rw [decide_eq_true (show (a.Shape.length:Int) = 0 by omega),condT,if_pos h0,bindS,Sum.elim_inl]; rfl
  · rw [decide_eq_false (show ¬ (a.Shape.length:Int) = 0 by omega),condF,if_neg h0]
    by_cases h1:s.length = 0
    · rw [decide_eq_false (show ¬ (s.length:Int) > 0 by omega),condF,if_pos h1,chk_pos (by omega),bindS,bindS,Sum.elim_inl]; rfl
    · rw [decide_eq_true (show (s.length:Int) > 0 by omega),condT,if_neg h1,chk_pos (by omega),bindS,ssF (by omega),bindS]
      by_cases he:s = a.Shape
      · rw [decide_eq_true he,if_pos he,Bool.not_true,condF,bindS,bindS,Sum.elim_inl]; rfl
      · rw [decide_eq_false he,if_neg he,Bool.not_false,condT,bindS,Sum.elim_inr]
theorem common_eq {a b:api.Array} (ha:ArrI a) (hb:ArrI b):Ref7.Common [a,b] = some (match shpS a b with | some s=>(s,true) | none=>([],false)):=by
  unfold Ref7.Common
  refine (coStep [a,b] [] 0 a rfl (by simp) (by simp)).trans ?_
  unfold shpS
  have e1:=fun s hs=>coStep [a,b] s 1 b rfl (by simp) hs
  by_cases h1:a.Shape.length = 0
  · rw [if_pos h1,if_pos h1,e1 _ (by simp)]
    by_cases h2:b.Shape.length = 0
    · have:b.Shape = []:=List.eq_nil_of_length_eq_zero h2
      rw [if_pos h2,coEnd [a,b] _ 2 rfl (by simp),this]
    · rw [if_neg h2,if_pos (show ([]:List Int).length = 0 from rfl),coEnd [a,b] _ 2 rfl hb.s]
  · rw [if_neg h1,if_pos (show ([]:List Int).length = 0 from rfl),if_neg h1,e1 _ ha.s]
    by_cases h2:b.Shape.length = 0
    · rw [if_pos h2,if_pos (.inl h2),coEnd [a,b] _ 2 rfl ha.s]
    · rw [if_neg h2,if_neg h1]
      by_cases h3:a.Shape = b.Shape
      · rw [if_pos h3,if_pos (.inr h3),coEnd [a,b] _ 2 rfl hb.s,h3]
      · rw [if_neg h3,if_neg (by rintro (q | q); exact h2 q; exact h3 q)]
end Go.Q
namespace Go.Q
open Go
set_option maxRecDepth 100000
set_option maxHeartbeats 4000000
theorem rone_elem {op:ByteArray} {a b:api.Array} (ha:ArrI a) (hb:ArrI b) (va:vldS a = true) (vb:vldS b = true) (hk:kindC (opC (L op)) a.Kind b.Kind ≠ 0) {i:Nat} (h1:ixA a i < a.Elems.length) (h2:ixA b i < b.Elems.length) :
    Ref7.one op ⟨a.Kind,a.Elems[ixA a i]⟩ ⟨b.Kind,b.Elems[ixA b i]⟩ = some (elemV op a b i):=by
  obtain ⟨_,_,_,fa⟩:=vld_facts va
  obtain ⟨_,_,_,fb⟩:=vld_facts vb
  have ma:=List.getElem_mem h1
  have mb:=List.getElem_mem h2
  obtain ⟨r,e1,e2⟩:=one_same (op:=op) (a:=⟨a.Kind,a.Elems[ixA a i]⟩) (b:=⟨b.Kind,b.Elems[ixA b i]⟩) (ha.i _ ma) (hb.i _ mb) (fa _ ma) (fb _ mb) hk
  rw [(elem_eq ha hb va vb hk h1 h2).1] at e1
  rw [e2,← e1]
theorem rDo_l0 {op:ByteArray} {a b:api.Array} {s:List Int} {kind:Int} {N:Nat} (hc:Ref7.Count s = some (N:Int)) (hN:N ≤ 4000)
    (hat:∀ i,i < N → ixA a i < a.Elems.length ∧ ixA b i < b.Elems.length) (hone:∀ i (h1:ixA a i < a.Elems.length) (h2:ixA b i < b.Elems.length),Ref7.one op ⟨a.Kind,a.Elems[ixA a i]⟩ ⟨b.Kind,b.Elems[ixA b i]⟩ = some (elemV op a b i)) :
    ∀ (m i:Nat) (out:List Int),i + m = N → out.length = i → Ref7.Do.l0 op s a.Kind a.Shape a.Elems b.Kind b.Shape b.Elems 0 [] [] kind s out (i:Int) = some (eachG kind s (elemV op a b) m i out):=by
  intro m
  induction m with
  | zero =>
    intro i out hi ho
    rw [Ref7.Do.l0,loopO_eq,Ref7.Do.s0]
    simp only [letkE]
    rw [hc,bindS,decide_eq_false (show ¬ (i:Int) < (N:Int) by omega),condF]; rfl
  | succ m ih =>
    intro i out hi ho
    obtain ⟨x1,x2⟩:=hat i (by omega)
    rw [Ref7.Do.l0,loopO_eq,Ref7.Do.s0]
    simp only [letkE,nb1]
    rw [hc,bindS,decide_eq_true (show (i:Int) < (N:Int) by omega),condT,show Ref7.At ⟨a.Kind,a.Shape,a.Elems⟩ (i:Int) = _ from rAt_eq x1,bindS,show Ref7.At ⟨b.Kind,b.Shape,b.Elems⟩ (i:Int) = _ from rAt_eq x2,bindS,hone i x1 x2,bindS]
    unfold eachG
    by_cases h0:(elemV op a b i).2 = 0
    · rw [decide_eq_true h0,Bool.not_true,condF,if_neg (fun q=>q h0),chk_pos (by rw [List.length_singleton]; omega),wi (by omega) (by omega),bindS,Sum.elim_inl]
      exact ih (i + 1) _ (by omega) (by simp [ho])
    · rw [decide_eq_false h0,Bool.not_false,condT,if_pos h0,bindS,Sum.elim_inr]
theorem shp_le {a b:api.Array} (va:vldS a = true) (vb:vldS b = true) {s:List Int} (h:shpS a b = some s):s.length ≤ 3:=by
  obtain ⟨_,_,sa,_⟩:=vld_facts va
  obtain ⟨_,_,sb,_⟩:=vld_facts vb
  have h1:=(szS_three (l:=a.Shape) (by omega)).1
  have h2:=(szS_three (l:=b.Shape) (by omega)).1
  unfold shpS at h
  split at h
  · cases h; exact h2
  · split at h
    · cases h; exact h1
    · cases h
theorem rDo_eq {op:ByteArray} {a b:api.Array} (ha:ArrI a) (hb:ArrI b):∃ r,Arr.Do op a b = some r ∧ Ref7.Do op a b = some r ∧ r.1.Shape.length ≤ 50 ∧ r.1.Elems.length ≤ 400:=by
  unfold Ref7.Do Ref7.Do.j1 Ref7.Do.j0
  rw [show Ref7.Valid ⟨a.Kind,a.Shape,a.Elems⟩ = _ from rValidA_eq ha,bindS,show Ref7.Valid ⟨b.Kind,b.Shape,b.Elems⟩ = _ from rValidA_eq hb]
  simp only [letkE,bindS,rKind_eq,b1]
  cases hva:vldS a
  · exact ⟨_,Do_bad ha hb (.inl hva),rfl,by decide,by decide⟩
  · rw [Bool.not_true,condF]
    cases hvb:vldS b
    · exact ⟨_,Do_bad ha hb (.inr hvb),rfl,by decide,by decide⟩
    · rw [Bool.not_true,condF]
      by_cases hk:kindC (opC (L op)) a.Kind b.Kind = 0
      · rw [decide_eq_true hk,condT]
        exact ⟨_,Do_nokind ha hb hva hvb hk,rfl,by decide,by decide⟩
      · rw [decide_eq_false hk,condF,show Ref7.Common [⟨a.Kind,a.Shape,a.Elems⟩,⟨b.Kind,b.Shape,b.Elems⟩] = _ from common_eq ha hb,bindS]
        cases hs:shpS a b with
        | none=>exact ⟨_,Do_noshape ha hb hva hvb hk hs,rfl,by decide,by decide⟩
        | some s =>
          dsimp only
          obtain ⟨N,hN,hN4,hsl,hix⟩:=shp_elems ha hb hva hvb hs
          have d1:=Do_ok ha hb hva hvb hk hs hN hN4 hsl hix
          have d2:=rDo_l0 (op:=op) (a:=a) (b:=b) (s:=s) (kind:=kindC (opC (L op)) a.Kind b.Kind) (N:=N) ((rCount_eq (shp_le hva hvb hs)).trans (by rw [hN])) (by omega) hix (fun i h1 h2=>rone_elem ha hb hva hvb hk h1 h2) N 0 [] (by omega) rfl
          rw [Bool.not_true,condF]
          refine ⟨_,d1,d2,?_⟩
          have len:∀ (m i:Nat) (out:List Int),i + m = N → out.length = i → (eachG (kindC (opC (L op)) a.Kind b.Kind) s (elemV op a b) m i out).1.Elems.length ≤ N ∧ (eachG (kindC (opC (L op)) a.Kind b.Kind) s (elemV op a b) m i out).1.Shape.length ≤ 50:=by
            intro m
            induction m with
            | zero=>intro i out hi ho; exact ⟨by show out.length ≤ N; omega,hsl⟩
            | succ m ih =>
              intro i out hi ho
              unfold eachG
              by_cases h0:(elemV op a b i).2 ≠ 0
              · rw [if_pos h0]; exact ⟨Nat.zero_le _,Nat.zero_le _⟩
              · rw [if_neg h0]; exact ih (i + 1) _ (by omega) (by simp [ho])
          have:=len N 0 [] (by omega) rfl
          exact ⟨this.2,by omega⟩
theorem rSame_eq {x y:api.Array} (h1:x.Shape.length ≤ 50) (h2:x.Elems.length ≤ 400):Ref7.Same x y = Arr.Same x y:=by
  unfold Ref7.Same Arr.Same
  simp only [letkE,b1]
  rw [eqF (by omega),ssF (by omega),eqF (by omega),ssF (by omega)]
theorem rSame_self {x:api.Array} (h1:x.Shape.length ≤ 50) (h2:x.Elems.length ≤ 400):Ref7.Same x x = some true:=(rSame_eq h1 h2).trans (Same_self h1 h2)
theorem Same_some {x y:api.Array} (h1:x.Shape.length ≤ 50) (h2:x.Elems.length ≤ 400):∃ r,Arr.Same x y = some r:=by
  unfold Arr.Same
  simp only [letkE,b1]
  rw [eqF (by omega),eqF (by omega),bindS,bindS]
  cases decide (x.Kind = y.Kind)
  · exact ⟨_,rfl⟩
  · rw [condT]
    cases decide (x.Shape = y.Shape)
    · exact ⟨_,rfl⟩
    · exact ⟨_,rfl⟩
theorem ArrayDoes_eq (op:ByteArray) (a b:api.Array) (ra:ArrR a) (rb:ArrR b):Law7.ArrayDoes op a b = some true:=by
  unfold Law7.ArrayDoes
  rw [show Law7.isLarge [⟨a.Kind,a.Shape,a.Elems⟩,⟨b.Kind,b.Shape,b.Elems⟩] = _ from large_two ra rb,bindS]
  cases hl:(largeA a || largeA b)
  · rw [condF]
    simp only [Bool.or_eq_false_iff] at hl
    have ha:=largeA_no ra hl.1
    have hb:=largeA_no rb hl.2
    obtain ⟨r,p1,p2,p3,p4⟩:=rDo_eq (op:=op) ha hb
    obtain ⟨t,q1⟩:=Same_some (y:=b) ha.s ha.e
    have q2:=(rSame_eq (y:=b) ha.s ha.e).trans q1
    rw [show Arr.Do op ⟨a.Kind,a.Shape,a.Elems⟩ ⟨b.Kind,b.Shape,b.Elems⟩ = _ from p1,show Ref7.Do op ⟨a.Kind,a.Shape,a.Elems⟩ ⟨b.Kind,b.Shape,b.Elems⟩ = _ from p2]
    simp only [bindS,letkE,b1,decide_true,condT]
    rw [show Ref7.Same ⟨r.1.Kind,r.1.Shape,r.1.Elems⟩ ⟨r.1.Kind,r.1.Shape,r.1.Elems⟩ = _ from rSame_self p3 p4,bindS,condT,
      show Arr.Valid ⟨a.Kind,a.Shape,a.Elems⟩ = _ from aValid_eq a (by have:=ha.s; omega) (by have:=ha.e; omega),bindS,show Ref7.Valid ⟨a.Kind,a.Shape,a.Elems⟩ = _ from rValidA_eq ha,bindS,beq_self_eq_true,condT,
      show Arr.Same ⟨a.Kind,a.Shape,a.Elems⟩ ⟨b.Kind,b.Shape,b.Elems⟩ = _ from q1,bindS,show Ref7.Same ⟨a.Kind,a.Shape,a.Elems⟩ ⟨b.Kind,b.Shape,b.Elems⟩ = _ from q2,bindS,beq_self_eq_true,condT,Law7.Awake_eq,bindS]
  · rw [condT,Law7.Awake_eq,bindS]
end Go.Q
