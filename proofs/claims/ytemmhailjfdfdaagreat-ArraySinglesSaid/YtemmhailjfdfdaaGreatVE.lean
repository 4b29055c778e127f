import Derived.Test.YtemmhailjfdfdaaGreatVD
import Derived.Test.YtemmhailjfdfdaaGreatAFE
namespace Go.Q
open Go
set_option maxRecDepth 100000
set_option maxHeartbeats 4000000
structure ArrR (a:api.Array):Prop where
  i:∀ n ∈ a.Elems,I64 n
  e:a.Elems.length < 9223372036854775808
  s:a.Shape.length < 9223372036854775808
def largeA (a:api.Array):Bool:=decide (400 < a.Elems.length) || decide (50 < a.Shape.length)
theorem largeA_no {a:api.Array} (h:ArrR a) (hl:largeA a = false):ArrI a:=by
  unfold largeA at hl
  simp only [Bool.or_eq_false_iff,decide_eq_false_iff_not] at hl
  exact ⟨h.i,by omega,by omega⟩
theorem lgStep (l:List api.Array) (k:Nat) (a:api.Array) (ha:l[k]? = some a) (hl:l.length < 100) (hr:ArrR a):Law7.isLarge.l0 l (k:Int) = if largeA a = true then some true else Law7.isLarge.l0 l ((k + 1:Nat):Int):=by
  have hk:k < l.length:=by
    rcases Nat.lt_or_ge k l.length with q | q
    · exact q
    · rw [List.getElem?_eq_none q] at ha; cases ha
  rw [Law7.isLarge.l0,loopO_eq,Law7.isLarge.s0]
  simp only [letkE]
  rw [decide_eq_true (show (k:Int) < (l.length:Int) by omega),condT,chk_pos (by omega),Int.toNat_natCast,ha,bindS,chk_pos (by omega),bindS,wi (by omega) (by omega)]
  unfold largeA
  by_cases h1:400 < a.Elems.length
  · rw [decide_eq_true (show (a.Elems.length:Int) > 400 by omega),condT,decide_eq_true h1,Bool.true_or,if_pos rfl]; rfl
  · rw [decide_eq_false (show ¬ (a.Elems.length:Int) > 400 by omega),condF,decide_eq_false h1,Bool.false_or]
    by_cases h2:50 < a.Shape.length
    · rw [decide_eq_true (show (a.Shape.length:Int) > 50 by omega),condT,decide_eq_true h2,if_pos rfl]; rfl
    · rw [decide_eq_false (show ¬ (a.Shape.length:Int) > 50 by omega),condF,decide_eq_false h2,if_neg (by decide)]; rfl
theorem lgEnd (l:List api.Array) (k:Nat) (hk:k = l.length) (hl:l.length ≤ 10):Law7.isLarge.l0 l (k:Int) = some false:=by
  rw [Law7.isLarge.l0,loopO_eq,Law7.isLarge.s0]
  simp only [letkE]
  rw [decide_eq_false (show ¬ (k:Int) < (l.length:Int) by omega),condF,decide_eq_false (show ¬ (l.length:Int) > 10 by omega)]; rfl
theorem Same_self {x:api.Array} (h1:x.Shape.length ≤ 50) (h2:x.Elems.length ≤ 400):Arr.Same x x = some true:=by
  unfold Arr.Same
  simp only [letkE,b1,decide_true,condT]
  rw [eqF (by omega),decide_eq_true rfl,bindS,condT,eqF (by omega),decide_eq_true rfl,bindS]
end Go.Q
namespace Go.Q
open Go
set_option maxRecDepth 100000
set_option maxHeartbeats 4000000
theorem ss_l0 {l k:List Int} (hk:l.length = k.length) (hl:l.length < 4611686018427387904) :
    ∀ m i:Nat,i + m = l.length → Ref7.SameShape.l0 l k (i:Int) = some (decide (l.drop i = k.drop i)):=by
  intro m
  induction m with
  | zero =>
    intro i hi
    rw [Ref7.SameShape.l0,loopO_eq,Ref7.SameShape.s0]
    simp only [letkE]
    rw [decide_eq_false (show ¬ (i:Int) < (l.length:Int) by omega),condF,bindS,Sum.elim_inr,List.drop_of_length_le (by omega),List.drop_of_length_le (by omega),decide_eq_true rfl]
  | succ m ih =>
    intro i hi
    have hil:i < l.length:=by omega
    have hik:i < k.length:=by omega
    rw [Ref7.SameShape.l0,loopO_eq,Ref7.SameShape.s0]
    simp only [letkE,nb1]
    rw [decide_eq_true (show (i:Int) < (l.length:Int) by omega),condT,chk_pos (by omega),Int.toNat_natCast,List.getElem?_eq_getElem hil,bindS,chk_pos (by omega),List.getElem?_eq_getElem hik,bindS,List.drop_eq_getElem_cons hil,List.drop_eq_getElem_cons hik]
    by_cases hp:l[i] = k[i]
    · rw [decide_eq_true hp,Bool.not_true,condF,wi (by omega) (by omega),bindS,Sum.elim_inl]
      rw [show Option.some (decide (l[i] :: l.drop (i + 1) = k[i] :: k.drop (i + 1))) = some (decide (l.drop (i + 1) = k.drop (i + 1))) from by
        congr 1; rw [decide_eq_decide,hp]; constructor
        · intro q; exact (List.cons.inj q).2
        · intro q; rw [q]]
      exact ih (i + 1) (by omega)
    · rw [decide_eq_false hp,Bool.not_false,condT,bindS,Sum.elim_inr,decide_eq_false (fun q=>hp (List.cons.inj q).1)]
theorem ssF {l k:List Int} (hl:l.length < 4611686018427387904):Ref7.SameShape l k = some (decide (l = k)):=by
  unfold Ref7.SameShape
  simp only [letkE,nb1]
  by_cases h:l.length = k.length
  · rw [decide_eq_true (show (l.length:Int) = (k.length:Int) by omega),Bool.not_true,condF]
    have:=ss_l0 h hl l.length 0 (by omega)
    rw [List.drop_zero,List.drop_zero] at this
    exact this
  · rw [decide_eq_false (show ¬ (l.length:Int) = (k.length:Int) by omega),Bool.not_false,condT,decide_eq_false (fun q=>h (by rw [q]))]
section
variable {op:ByteArray} {a b:api.Array} (ha:ArrI a) (hb:ArrI b) (va:vldS a = true) (vb:vldS b = true) (hk:kindC (opC (L op)) a.Kind b.Kind ≠ 0) (h0:a.Shape.length ≠ 0) (hs:a.Shape = b.Shape)
include ha hb va vb hk h0 hs
end
end Go.Q
namespace Go.Q
open Go
set_option maxRecDepth 100000
set_option maxHeartbeats 4000000
def zeroX (l:List Int):Bool:=l.any fun x=>decide (x = 0)
theorem cnt_l1 {l:List Int} (i:Nat) (hi:i < 1000) (hl:l.length < 1000):∀ (m k:Nat) (n:Int),k + m = l.length → Ref7.Count.l1 l (i:Int) n (k:Int) = some (.inl (if zeroX (l.drop k) = true then 0 else n,((i + 1:Nat):Int))):=by
  intro m
  induction m with
  | zero =>
    intro k n hk
    rw [Ref7.Count.l1,loopO_eq,Ref7.Count.s1]
    simp only [letkE]
    rw [decide_eq_false (show ¬ (k:Int) < (l.length:Int) by omega),condF,List.drop_of_length_le (by omega),wi (by omega) (by omega)]; rfl
  | succ m ih =>
    intro k n hk
    have hkl:k < l.length:=by omega
    rw [Ref7.Count.l1,loopO_eq,Ref7.Count.s1]
    simp only [letkE,b1]
    rw [decide_eq_true (show (k:Int) < (l.length:Int) by omega),condT,chk_pos (by omega),Int.toNat_natCast,List.getElem?_eq_getElem hkl,bindS,wi (by omega) (by omega),List.drop_eq_getElem_cons hkl]
    unfold zeroX
    rw [List.any_cons]
    by_cases h0:l[k] = 0
    · rw [decide_eq_true h0,condT,bindS,Sum.elim_inl,Bool.true_or,if_pos rfl]
      have:=ih (k + 1) 0 (by omega)
      unfold zeroX at this
      refine Eq.trans this ?_
      split <;> rfl
    · rw [decide_eq_false h0,condF,bindS,Sum.elim_inl,Bool.false_or]
      exact ih (k + 1) n (by omega)
def capN (P:Int) (rest:List Int):Int:=if P ≤ 4000 then P else if zeroX rest = true then 0 else 4001
theorem cnt_l0 {l:List Int} (hl:l.length < 1000):∀ (m i:Nat) (P:Int),i + m = l.length → 0 ≤ P →
    Ref7.Count.l0 l (capN P (l.drop i)) (i:Int) = some (if (l.drop i).any badX = true then -1 else if 4000 < (l.drop i).foldl (· * ·) P then -1 else (l.drop i).foldl (· * ·) P):=by
  intro m
  induction m with
  | zero =>
    intro i P hi hP
    rw [Ref7.Count.l0,loopO_eq,Ref7.Count.s0]
    simp only [letkE]
    rw [decide_eq_false (show ¬ (i:Int) < (l.length:Int) by omega),condF,List.drop_of_length_le (by omega)]
    rw [show capN P [] = if P ≤ 4000 then P else 4001 from rfl]
    show _ = some (if 4000 < P then -1 else P)
    by_cases h:P ≤ 4000
    · rw [if_pos h,decide_eq_false (show ¬ P > 4000 by omega),condF,if_neg (by omega)]; rfl
    · rw [if_neg h,show decide ((4001:Int) > 4000) = true from rfl,condT,if_pos (by omega)]; rfl
  | succ m ih =>
    intro i P hi hP
    have hil:i < l.length:=by omega
    rw [Ref7.Count.l0,loopO_eq,Ref7.Count.s0]
    simp only [letkE]
    rw [decide_eq_true (show (i:Int) < (l.length:Int) by omega),condT,chk_pos (by omega),Int.toNat_natCast,List.getElem?_eq_getElem hil,bindS,chk_pos (by omega),bindS,List.drop_eq_getElem_cons hil,List.any_cons,List.foldl_cons]
    by_cases hb:badX l[i] = true
    · rw [hb,Bool.true_or,if_pos rfl]
      unfold badX at hb
      simp only [Bool.or_eq_true,decide_eq_true_eq] at hb
      by_cases h1:l[i] < 0
      · rw [decide_eq_true h1,condT]; rfl
      · rw [decide_eq_false h1,condF,decide_eq_true (show l[i] > 4000 by omega),condT]; rfl
    · simp only [Bool.not_eq_true] at hb
      have hb':=hb
      unfold badX at hb
      simp only [Bool.or_eq_false_iff,decide_eq_false_iff_not] at hb
      rw [hb',Bool.false_or,decide_eq_false hb.1,condF,decide_eq_false (show ¬ l[i] > 4000 by omega),condF]
      unfold Ref7.Count.j0
      simp only [letkE]
      rw [chk_pos (by omega),Int.toNat_natCast,List.getElem?_eq_getElem hil,bindS]
      generalize hx:l[i] = x at *
      have x0:0 ≤ x:=by omega
      have hPx:0 ≤ P * x:=Int.mul_nonneg hP x0
      have cap4:0 ≤ capN P (x :: l.drop (i + 1)) ∧ capN P (x :: l.drop (i + 1)) ≤ 4001:=by unfold capN; split <;> (try split) <;> omega
      have mb:=mul_bound cap4.1 x0 cap4.2 (show x ≤ 4000 by omega)
      rw [wi (by omega) (by omega)]
      have key:(if (if 4001 < capN P (x :: l.drop (i + 1)) * x then 4001 else capN P (x :: l.drop (i + 1)) * x) > 4000 then (if zeroX (l.drop (i + 1)) = true then 0 else (if 4001 < capN P (x :: l.drop (i + 1)) * x then 4001 else capN P (x :: l.drop (i + 1)) * x)) else (if 4001 < capN P (x :: l.drop (i + 1)) * x then 4001 else capN P (x :: l.drop (i + 1)) * x)) = capN (P * x) (l.drop (i + 1)):=by
        have hz:zeroX (x :: l.drop (i + 1)) = (decide (x = 0) || zeroX (l.drop (i + 1))):=List.any_cons
        unfold capN
        rw [hz]
        by_cases p4:P ≤ 4000
        · rw [if_pos p4]
          by_cases q:P * x ≤ 4000
          · rw [if_pos q,if_neg (show ¬ 4001 < P * x by omega),if_neg (show ¬ P * x > 4000 by omega)]
          · rw [if_neg q]
            by_cases q2:4001 < P * x
            · rw [if_pos q2,if_pos (by decide)]
            · rw [if_neg q2,if_pos (show P * x > 4000 by omega),show P * x = 4001 by omega]
        · rw [if_neg p4]
          by_cases x1:x = 0
          · subst x1
            rw [decide_eq_true rfl,Bool.true_or,if_pos rfl,Int.mul_zero,Int.mul_zero,if_neg (by decide),if_neg (by decide),if_pos (by decide)]
          · rw [decide_eq_false x1,Bool.false_or]
            have hge:P ≤ P * x:=by
              have:=Int.mul_le_mul_of_nonneg_left (show 1 ≤ x by omega) hP
              rwa [Int.mul_one] at this
            rw [if_neg (show ¬ P * x ≤ 4000 by omega)]
            cases hzz:zeroX (l.drop (i + 1))
            · simp only [Bool.false_eq_true,if_false]
              by_cases q2:4001 < 4001 * x
              · rw [if_pos q2,if_pos (by decide)]
              · rw [if_neg q2,show 4001 * x = 4001 by omega,if_pos (by decide)]
            · simp only [if_true]
              rw [Int.zero_mul,if_neg (by decide),if_neg (by decide)]
      have nx:=ih (i + 1) (P * x) (by omega) hPx
      rw [← key] at nx
      generalize (if 4001 < capN P (x :: l.drop (i + 1)) * x then 4001 else capN P (x :: l.drop (i + 1)) * x) = y at *
      by_cases q:y > 4000
      · rw [if_pos q] at nx
        rw [decide_eq_true q,condT,wi (by omega) (by omega),show ((i:Int) + 1) = ((i + 1:Nat):Int) by omega,cnt_l1 i (by omega) hl (l.length - (i + 1)) (i + 1) y (by omega),bindS,Sum.elim_inl]
        exact nx
      · rw [if_neg q] at nx
        rw [decide_eq_false q,condF,wi (by omega) (by omega),bindS,Sum.elim_inl]
        exact nx
theorem rCount_eq {l:List Int} (h3:l.length ≤ 3):Ref7.Count l = some (szS l):=by
  have:=cnt_l0 (l:=l) (by omega) l.length 0 1 (by omega) (by decide)
  rw [List.drop_zero] at this
  unfold Ref7.Count
  rw [show Ref7.Count.l0 l 1 0 = _ from this]
  unfold szS prodL
  by_cases hb:l.any badX = true
  · rw [if_pos hb,if_pos (.inr hb)]
  · rw [if_neg hb,if_neg (show ¬ (3 < l.length ∨ l.any badX = true) by rintro (q | q); omega; exact hb q)]
theorem rv_l1 {k:Int} {s l:List Int} (hi:∀ n ∈ l,I64 n) (hl:l.length < 100000):∀ m i:Nat,i + m = l.length → Ref7.Valid.l1 k s l (i:Int) = some ((l.drop i).all (dV k)):=by
  intro m
  induction m with
  | zero =>
    intro i h
    rw [Ref7.Valid.l1,loopO_eq,Ref7.Valid.s1]
    simp only [letkE]
    rw [decide_eq_false (show ¬ (i:Int) < (l.length:Int) by omega),condF,List.drop_of_length_le (by omega)]; rfl
  | succ m ih =>
    intro i h
    have hil:i < l.length:=by omega
    rw [Ref7.Valid.l1,loopO_eq,Ref7.Valid.s1]
    simp only [letkE]
    rw [decide_eq_true (show (i:Int) < (l.length:Int) by omega),condT,chk_pos (by omega),Int.toNat_natCast,List.getElem?_eq_getElem hil,bindS,rIsValue_eq (hi _ (List.getElem_mem hil)),bindS,List.drop_eq_getElem_cons hil,List.all_cons]
    cases hd:dV k l[i]
    · rfl
    · rw [Bool.not_true,condF,wi (by omega) (by omega),bindS,Sum.elim_inl,Bool.true_and]
      exact ih (i + 1) (by omega)
theorem rv_l0 {k:Int} {s l:List Int} (hg:∀ x ∈ s,0 ≤ x ∧ x ≤ 4000) (hi:∀ n ∈ l,I64 n) (hl:l.length < 100000) (hs:s.length < 1000):∀ m i:Nat,i + m = s.length → Ref7.Valid.l0 k s l (i:Int) = some (l.all (dV k)):=by
  intro m
  induction m with
  | zero =>
    intro i h
    rw [Ref7.Valid.l0,loopO_eq,Ref7.Valid.s0]
    simp only [letkE]
    have:=rv_l1 (k:=k) (s:=s) hi hl l.length 0 (by omega)
    rw [List.drop_zero] at this
    rw [decide_eq_false (show ¬ (i:Int) < (s.length:Int) by omega),condF,show Ref7.Valid.l1 k s l 0 = _ from this]; rfl
  | succ m ih =>
    intro i h
    have hil:i < s.length:=by omega
    have g:=hg _ (List.getElem_mem hil)
    rw [Ref7.Valid.l0,loopO_eq,Ref7.Valid.s0]
    simp only [letkE]
    rw [decide_eq_true (show (i:Int) < (s.length:Int) by omega),condT,chk_pos (by omega),Int.toNat_natCast,List.getElem?_eq_getElem hil,bindS,decide_eq_false (by omega),condF,chk_pos (by omega),bindS,decide_eq_false (by omega),condF,wi (by omega) (by omega),bindS,Sum.elim_inl]
    exact ih (i + 1) (by omega)
theorem rValidA_eq {a:api.Array} (ha:ArrI a):Ref7.Valid a = some (vldS a):=by
  unfold Ref7.Valid Ref7.Valid.j0 vldS
  simp only [letkE,nb1]
  have hae:=ha.e
  have has:=ha.s
  by_cases c1:1 ≤ a.Kind
  · rw [decide_eq_false (show ¬ a.Kind < 1 by omega),condF,decide_eq_true c1,Bool.true_and]
    by_cases c2:a.Kind ≤ 4
    · rw [decide_eq_false (show ¬ a.Kind > 4 by omega),condF,decide_eq_true c2,Bool.true_and]
      by_cases c3:3 < a.Shape.length
      · have:szS a.Shape = -1:=by unfold szS; rw [if_pos (.inl c3)]
        rw [decide_eq_true (show (a.Shape.length:Int) > 3 by omega),condT,this,decide_eq_false (by omega)]; rfl
      · rw [decide_eq_false (show ¬ (a.Shape.length:Int) > 3 by omega),condF,rCount_eq (by omega),bindS]
        by_cases c4:szS a.Shape = a.Elems.length
        · have good:=(szS_three (l:=a.Shape) (by omega)).2.1
          rw [decide_eq_true c4,Bool.not_true,condF,Bool.true_and]
          exact rv_l0 good ha.i (by omega) (by omega) a.Shape.length 0 (by omega)
        · rw [decide_eq_false c4]; rfl
    · rw [decide_eq_true (show a.Kind > 4 by omega),condT,decide_eq_false c2]; rfl
  · rw [decide_eq_true (show a.Kind < 1 by omega),condT,decide_eq_false c1]; rfl
theorem rAt_eq {a:api.Array} {i:Nat} (h:ixA a i < a.Elems.length):Ref7.At a (i:Int) = some ⟨a.Kind,a.Elems[ixA a i]⟩:=by
  unfold Ref7.At Ref7.At.j0
  simp only [letkE,b1]
  unfold ixA at *
  by_cases hs:a.Shape.length = 0
  · simp only [if_pos hs] at h ⊢
    rw [decide_eq_true (show (a.Shape.length:Int) = 0 by omega),condT,chk_pos (by decide),show ((0:Int)).toNat = 0 from rfl,List.getElem?_eq_getElem h,bindS]
  · simp only [if_neg hs] at h ⊢
    rw [decide_eq_false (show ¬ (a.Shape.length:Int) = 0 by omega),condF,chk_pos (by omega),Int.toNat_natCast,List.getElem?_eq_getElem h,bindS]
end Go.Q
namespace Go.Q
open Go
set_option maxRecDepth 100000
set_option maxHeartbeats 4000000
theorem rSame_eq {x y:api.Array} (h1:x.Shape.length ≤ 50) (h2:x.Elems.length ≤ 400):Ref7.Same x y = Arr.Same x y:=by
  unfold Ref7.Same Arr.Same
  simp only [letkE,b1]
  rw [eqF (by omega),ssF (by omega),eqF (by omega),ssF (by omega)]
theorem rSame_self {x:api.Array} (h1:x.Shape.length ≤ 50) (h2:x.Elems.length ≤ 400):Ref7.Same x x = some true:=(rSame_eq h1 h2).trans (Same_self h1 h2)
end Go.Q
namespace Go.Q
open Go
set_option maxRecDepth 100000
set_option maxHeartbeats 4000000
theorem large_one {a:api.Array} (ha:ArrR a):Law7.isLarge [a] = some (largeA a):=by
  unfold Law7.isLarge
  refine (lgStep [a] 0 a rfl (by simp) ha).trans ?_
  cases h1:largeA a
  · rw [if_neg (by decide),lgEnd [a] 1 rfl (by simp)]
  · rw [if_pos rfl]
theorem eachG_size {kind:Int} {shape:List Int} {g:Nat → api.Value × Int} (hs:shape.length ≤ 50):∀ (m i:Nat) (out:List Int),out.length = i → i + m ≤ 400 → (eachG kind shape g m i out).1.Shape.length ≤ 50 ∧ (eachG kind shape g m i out).1.Elems.length ≤ 400
  | 0,i,out,ho,hi=>⟨hs,by show out.length ≤ 400; omega⟩
  | m + 1,i,out,ho,hi=>by
    unfold eachG
    by_cases h0:(g i).2 ≠ 0
    · rw [if_pos h0]; exact ⟨Nat.zero_le _,Nat.zero_le _⟩
    · rw [if_neg h0]; exact eachG_size hs m (i + 1) _ (by simp [ho]) (by omega)
theorem ix_all {a:api.Array} (va:vldS a = true) {i:Nat} (hi:i < a.Elems.length):ixA a i < a.Elems.length:=by
  obtain ⟨_,_,sa,_⟩:=vld_facts va
  unfold ixA
  split <;> omega
theorem kc_one {a:api.Array} {c:Nat} (hk:kindC c a.Kind 0 ≠ 0):kindC c a.Kind 0 = a.Kind:=by
  rcases kc_need1 hk with ⟨h1,h2⟩ | ⟨h1,h2⟩
  · unfold kindC
    rw [h1,h2]; rfl
  · have:=of_decide_eq_true ((two_kB a.Kind).trans (by rw [h2]; rfl))
    unfold kindC
    rw [h1,h2,this]; rfl
section
variable {a:api.Array} (ha:ArrI a) (va:vldS a = true)
include ha va
theorem Single_1_eq {op:ByteArray} (hk:kindC (opC (L op)) a.Kind 0 ≠ 0) {i:Nat} (h1:ixA a i < a.Elems.length):Arr.Single_1 (i:Int) op a = some (onV (L op) ⟨a.Kind,a.Elems[ixA a i]⟩,0):=by
  obtain ⟨_,_,_,fa⟩:=vld_facts va
  have ma:=List.getElem_mem h1
  unfold Arr.Single_1
  rw [aAt_eq h1,bindS,(only_same (op:=op) (a:=⟨a.Kind,a.Elems[ixA a i]⟩) (ha.i _ ma) (fa _ ma) hk).1,bindS]
theorem rSingle_l0 {op:ByteArray} (hk:kindC (opC (L op)) a.Kind 0 ≠ 0) {kind:Int} {s:List Int}:∀ (m i:Nat) (out:List Int),i + m = a.Elems.length → out.length = i →
    Ref7.Single.l0 op a.Kind a.Shape a.Elems 0 [] [] kind s out (i:Int) = some (eachG kind s (fun i=>(onV (L op) ⟨a.Kind,(a.Elems[ixA a i]?).getD 0⟩,0)) m i out):=by
  obtain ⟨_,_,_,fa⟩:=vld_facts va
  have he:=ha.e
  intro m
  induction m with
  | zero =>
    intro i out hi ho
    rw [Ref7.Single.l0,loopO_eq,Ref7.Single.s0]
    simp only [letkE]
    rw [decide_eq_false (show ¬ (i:Int) < (a.Elems.length:Int) by omega),condF]; rfl
  | succ m ih =>
    intro i out hi ho
    have h1:=ix_all va (i:=i) (by omega)
    have ma:=List.getElem_mem h1
    rw [Ref7.Single.l0,loopO_eq,Ref7.Single.s0]
    simp only [letkE]
    rw [decide_eq_true (show (i:Int) < (a.Elems.length:Int) by omega),condT,show Ref7.At ⟨a.Kind,a.Shape,a.Elems⟩ (i:Int) = _ from rAt_eq h1,bindS,(only_same (op:=op) (a:=⟨a.Kind,a.Elems[ixA a i]⟩) (ha.i _ ma) (fa _ ma) hk).2,bindS,chk_pos (by rw [List.length_singleton]; omega),wi (by omega) (by omega),bindS,Sum.elim_inl]
    unfold eachG
    rw [if_neg (fun q=>q rfl)]
    simp only [List.getElem?_eq_getElem h1,Option.getD_some]
    have:=ih (i + 1) (out ++ [(onV (L op) ⟨a.Kind,a.Elems[ixA a i]⟩).N]) (by omega) (by simp [ho])
    exact this
theorem Single_ok {op:ByteArray} (hk:kindC (opC (L op)) a.Kind 0 ≠ 0):∃ r,Arr.Single op a = some r ∧ Ref7.Single op a = some r ∧ r.1.Shape.length ≤ 50 ∧ r.1.Elems.length ≤ 400:=by
  obtain ⟨_,_,sa,_⟩:=vld_facts va
  have he:=ha.e
  have hs:=ha.s
  refine ⟨eachG a.Kind a.Shape (fun i=>(onV (L op) ⟨a.Kind,(a.Elems[ixA a i]?).getD 0⟩,0)) a.Elems.length 0 [],?_,?_,eachG_size hs _ 0 [] rfl (by omega)⟩
  · unfold Arr.Single
    rw [show Arr.Valid ⟨a.Kind,a.Shape,a.Elems⟩ = _ from aValid_eq a (by omega) (by omega),bindS,va]
    simp only [letkE,Bool.not_true,condF,aKind_eq,bindS,b1]
    rw [decide_eq_false hk,condF,clone_ok hs,bindS,kc_one hk]
    rw [each_eq (N:=a.Elems.length) (g:=fun i=>(onV (L op) ⟨a.Kind,(a.Elems[ixA a i]?).getD 0⟩,0)) hs sa (by omega) (fun i hi=>by
      have h1:=ix_all va hi
      refine (Single_1_eq ha va hk h1).trans ?_
      rw [List.getElem?_eq_getElem h1,Option.getD_some]),bindS]
  · unfold Ref7.Single
    rw [show Ref7.Valid ⟨a.Kind,a.Shape,a.Elems⟩ = _ from rValidA_eq ha,bindS,va]
    simp only [letkE,Bool.not_true,condF,rKind_eq,bindS,b1]
    rw [decide_eq_false hk,condF,chk_pos (by simp; omega),List.nil_append]
    exact rSingle_l0 ha va hk a.Elems.length 0 [] (by omega) rfl
theorem rConv_l0 {k:Int} (hk:∀ n ∈ a.Elems,Ref7.brought k ⟨a.Kind,n⟩ = some (toV k ⟨a.Kind,n⟩)) {kind:Int} {s:List Int}:∀ (m i:Nat) (out:List Int),i + m = a.Elems.length → out.length = i →
    Ref7.Convert.l0 k a.Kind a.Shape a.Elems 0 [] [] kind s out (i:Int) = some (eachG kind s (fun i=>toV k ⟨a.Kind,(a.Elems[ixA a i]?).getD 0⟩) m i out):=by
  have he:=ha.e
  intro m
  induction m with
  | zero =>
    intro i out hi ho
    rw [Ref7.Convert.l0,loopO_eq,Ref7.Convert.s0]
    simp only [letkE]
    rw [decide_eq_false (show ¬ (i:Int) < (a.Elems.length:Int) by omega),condF]; rfl
  | succ m ih =>
    intro i out hi ho
    have h1:=ix_all va (i:=i) (by omega)
    have ma:=List.getElem_mem h1
    rw [Ref7.Convert.l0,loopO_eq,Ref7.Convert.s0]
    simp only [letkE,nb1]
    rw [decide_eq_true (show (i:Int) < (a.Elems.length:Int) by omega),condT,show Ref7.At ⟨a.Kind,a.Shape,a.Elems⟩ (i:Int) = _ from rAt_eq h1,bindS,hk _ ma,bindS]
    unfold eachG
    simp only [List.getElem?_eq_getElem h1,Option.getD_some]
    by_cases h0:(toV k ⟨a.Kind,a.Elems[ixA a i]⟩).2 = 0
    · rw [decide_eq_true h0,Bool.not_true,condF,if_neg (fun q=>q h0),chk_pos (by rw [List.length_singleton]; omega),wi (by omega) (by omega),bindS,Sum.elim_inl]
      exact ih (i + 1) _ (by omega) (by simp [ho])
    · rw [decide_eq_false h0,Bool.not_false,condT,if_pos h0,bindS,Sum.elim_inr]
theorem Convert_ok {k:Int} (h1:1 ≤ k) (h4:k ≤ 4):∃ r,Arr.Convert k a = some r ∧ Ref7.Convert k a = some r ∧ r.1.Shape.length ≤ 50 ∧ r.1.Elems.length ≤ 400:=by
  obtain ⟨a1,a4,sa,fa⟩:=vld_facts va
  have he:=ha.e
  have hs:=ha.s
  unfold Arr.Convert Arr.Convert.j3 Arr.Convert.j0 Arr.Convert.j2 Arr.Convert.j1 Ref7.Convert Ref7.Convert.j1 Ref7.Convert.j0
  rw [show Arr.Valid ⟨a.Kind,a.Shape,a.Elems⟩ = _ from aValid_eq a (by omega) (by omega),show Ref7.Valid ⟨a.Kind,a.Shape,a.Elems⟩ = _ from rValidA_eq ha,va]
  simp only [letkE,bindS,Bool.not_true,condF,rKnd_eq,aNum_eq,rNum_eq,nb1]
  rw [decide_eq_false (show ¬ k < 1 by omega),condF,decide_eq_false (show ¬ k > 4 by omega),condF,show K1 k = true from decide_eq_true ⟨h1,h4⟩,Bool.not_true,condF]
  have n:∀ x:Int,1 ≤ x → x ≤ 4 → N1 x = !decide (x = 2):=by
    intro x x1 x4
    unfold N1
    by_cases q:x = 2
    · rw [decide_eq_true q,decide_eq_false (by omega)]; rfl
    · rw [decide_eq_false q,decide_eq_true (by omega)]; rfl
  rw [n k h1 h4,n a.Kind a1 a4]
  by_cases hno:(k = 2) ↔ (a.Kind = 2)
  · have hto:∀ n ∈ a.Elems,Arr.to k ⟨a.Kind,n⟩ = some (toV k ⟨a.Kind,n⟩) ∧ Ref7.brought k ⟨a.Kind,n⟩ = some (toV k ⟨a.Kind,n⟩):=by
      intro n hn
      have x1:NumK k ∨ k = a.Kind:=by unfold NumK; omega
      have x2:NumK a.Kind ∨ k = a.Kind:=by unfold NumK; omega
      exact ⟨aTo_eq (v:=⟨a.Kind,n⟩) x1 x2 (ha.i n hn) (fa n hn),rTo_eq (v:=⟨a.Kind,n⟩) x1 x2 (ha.i n hn) (fa n hn)⟩
    have e1:((!decide (k = 2)) == (!decide (a.Kind = 2))) = true:=by
      by_cases q:k = 2
      · rw [decide_eq_true q,decide_eq_true (hno.1 q)]; rfl
      · rw [decide_eq_false q,decide_eq_false (fun z=>q (hno.2 z))]; rfl
    rw [e1,Bool.not_true,condF,chk_pos (by simp; omega),List.nil_append]
    refine ⟨eachG k a.Shape (fun i=>toV k ⟨a.Kind,(a.Elems[ixA a i]?).getD 0⟩) a.Elems.length 0 [],?_,rConv_l0 ha va (fun n hn=>(hto n hn).2) a.Elems.length 0 [] (by omega) rfl,eachG_size hs _ 0 [] rfl (by omega)⟩
    have fin:(Option.bind (Slcs.Clone___int_int_ a.Shape) fun t37=>Option.bind (Arr.each k t37 (fun z0_=>Arr.Convert_1 z0_ k ⟨a.Kind,a.Shape,a.Elems⟩)) fun x=>some ((⟨x.1.Kind,x.1.Shape,x.1.Elems⟩:api.Array),x.2)) = some (eachG k a.Shape (fun i=>toV k ⟨a.Kind,(a.Elems[ixA a i]?).getD 0⟩) a.Elems.length 0 []):=by
      rw [clone_ok hs,bindS,each_eq (N:=a.Elems.length) (g:=fun i=>toV k ⟨a.Kind,(a.Elems[ixA a i]?).getD 0⟩) hs sa (by omega) (fun i hi=>by
        have h1:=ix_all va hi
        unfold Arr.Convert_1
        rw [show Arr.at_ ⟨a.Kind,a.Shape,a.Elems⟩ (i:Int) = _ from aAt_eq h1,bindS,(hto _ (List.getElem_mem h1)).1,bindS,List.getElem?_eq_getElem h1,Option.getD_some]),bindS]
    by_cases hka:k = a.Kind
    · rw [decide_eq_true hka,Bool.not_true,condF]; exact fin
    · have k2:k ≠ 2:=by omega
      have a2:a.Kind ≠ 2:=by omega
      rw [decide_eq_false hka,decide_eq_false k2,decide_eq_false a2]
      simp only [Bool.not_false,Bool.not_true,condT,condF]
      exact fin
  · have e1:((!decide (k = 2)) == (!decide (a.Kind = 2))) = false:=by
      by_cases q:k = 2 <;> by_cases q2:a.Kind = 2
      · exact absurd ⟨fun _=>q2,fun _=>q⟩ hno
      · rw [decide_eq_true q,decide_eq_false q2]; rfl
      · rw [decide_eq_false q,decide_eq_true q2]; rfl
      · exact absurd ⟨fun z=>absurd z q,fun z=>absurd z q2⟩ hno
    rw [e1,Bool.not_false,condT]
    refine ⟨_,?_,rfl,by decide,by decide⟩
    have hka:k ≠ a.Kind:=fun q=>hno (by rw [q])
    rw [decide_eq_false hka,Bool.not_false,condT]
    by_cases q:k = 2
    · rw [decide_eq_true q]; rfl
    · have q2:a.Kind = 2:=by omega
      rw [decide_eq_false q,decide_eq_true q2]; rfl
end
theorem Single_all (op:ByteArray) {a:api.Array} (ha:ArrI a):∃ r,Arr.Single op a = some r ∧ Ref7.Single op a = some r ∧ r.1.Shape.length ≤ 50 ∧ r.1.Elems.length ≤ 400:=by
  have he:=ha.e
  have hs:=ha.s
  cases va:vldS a
  · refine ⟨(⟨0,[],[]⟩,2),?_,?_,by decide,by decide⟩
    · unfold Arr.Single
      rw [show Arr.Valid ⟨a.Kind,a.Shape,a.Elems⟩ = _ from aValid_eq a (by omega) (by omega),bindS,va]; rfl
    · unfold Ref7.Single
      rw [show Ref7.Valid ⟨a.Kind,a.Shape,a.Elems⟩ = _ from rValidA_eq ha,bindS,va]; rfl
  · by_cases hk:kindC (opC (L op)) a.Kind 0 = 0
    · refine ⟨(⟨0,[],[]⟩,70),?_,?_,by decide,by decide⟩
      · unfold Arr.Single
        rw [show Arr.Valid ⟨a.Kind,a.Shape,a.Elems⟩ = _ from aValid_eq a (by omega) (by omega),bindS,va]
        simp only [letkE,Bool.not_true,condF,aKind_eq,bindS,b1]
        rw [decide_eq_true hk,condT]
      · unfold Ref7.Single
        rw [show Ref7.Valid ⟨a.Kind,a.Shape,a.Elems⟩ = _ from rValidA_eq ha,bindS,va]
        simp only [letkE,Bool.not_true,condF,rKind_eq,bindS,b1]
        rw [decide_eq_true hk,condT]
    · exact Single_ok ha va hk
theorem Convert_all (k:Int) {a:api.Array} (ha:ArrI a):∃ r,Arr.Convert k a = some r ∧ Ref7.Convert k a = some r ∧ r.1.Shape.length ≤ 50 ∧ r.1.Elems.length ≤ 400:=by
  have he:=ha.e
  have hs:=ha.s
  cases va:vldS a
  · refine ⟨(⟨0,[],[]⟩,2),?_,?_,by decide,by decide⟩
    · unfold Arr.Convert
      rw [show Arr.Valid ⟨a.Kind,a.Shape,a.Elems⟩ = _ from aValid_eq a (by omega) (by omega),bindS,va]; rfl
    · unfold Ref7.Convert
      rw [show Ref7.Valid ⟨a.Kind,a.Shape,a.Elems⟩ = _ from rValidA_eq ha,bindS,va]; rfl
  · by_cases hk:1 ≤ k ∧ k ≤ 4
    · exact Convert_ok ha va hk.1 hk.2
    · refine ⟨(⟨0,[],[]⟩,2),?_,?_,by decide,by decide⟩
      · unfold Arr.Convert Arr.Convert.j3
        rw [show Arr.Valid ⟨a.Kind,a.Shape,a.Elems⟩ = _ from aValid_eq a (by omega) (by omega),bindS,va]
        simp only [letkE,Bool.not_true,condF]
        by_cases q:k < 1
        · rw [decide_eq_true q]; rfl
        · rw [decide_eq_false q,condF,decide_eq_true (show k > 4 by omega)]; rfl
      · unfold Ref7.Convert Ref7.Convert.j1
        rw [show Ref7.Valid ⟨a.Kind,a.Shape,a.Elems⟩ = _ from rValidA_eq ha,bindS,va]
        simp only [letkE,Bool.not_true,condF,rKnd_eq,bindS]
        rw [show K1 k = false from decide_eq_false hk]; rfl
theorem ArraySingles_eq (op:ByteArray) (kind:Int) (a:api.Array) (ra:ArrR a):Law7.ArraySingles op kind a = some true:=by
  unfold Law7.ArraySingles
  rw [show Law7.isLarge [⟨a.Kind,a.Shape,a.Elems⟩] = _ from large_one ra,bindS]
  cases hl:largeA a
  · rw [condF]
    have ha:=largeA_no ra hl
    obtain ⟨r,p1,p2,p3,p4⟩:=Single_all op ha
    obtain ⟨t,q1,q2,q3,q4⟩:=Convert_all kind ha
    rw [show Arr.Single op ⟨a.Kind,a.Shape,a.Elems⟩ = _ from p1,show Ref7.Single op ⟨a.Kind,a.Shape,a.Elems⟩ = _ from p2,show Arr.Convert kind ⟨a.Kind,a.Shape,a.Elems⟩ = _ from q1,show Ref7.Convert kind ⟨a.Kind,a.Shape,a.Elems⟩ = _ from q2]
    simp only [bindS,letkE,b1,decide_true,condT]
    rw [show Ref7.Same ⟨r.1.Kind,r.1.Shape,r.1.Elems⟩ ⟨r.1.Kind,r.1.Shape,r.1.Elems⟩ = _ from rSame_self p3 p4,bindS,condT,show Ref7.Same ⟨t.1.Kind,t.1.Shape,t.1.Elems⟩ ⟨t.1.Kind,t.1.Shape,t.1.Elems⟩ = _ from rSame_self q3 q4,bindS,condT,Law7.Awake_eq,bindS]
  · rw [condT,Law7.Awake_eq,bindS]
end Go.Q
