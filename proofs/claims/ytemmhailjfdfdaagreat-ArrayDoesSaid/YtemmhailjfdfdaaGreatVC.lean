import Derived.Test.YtemmhailjfdfdaaGreatVB
import Derived.Test.YtemmhailjfdfdaaGreatAFE
namespace Go.Q
open Go
set_option maxRecDepth 100000
set_option maxHeartbeats 4000000
theorem brought_two {n:Int}:Ref7.brought 2 ⟨2,n⟩ = some (⟨2,n⟩,0):=by
  unfold Ref7.brought
  simp only [letkE,b1]
  rfl
section
variable {op:ByteArray} {x y:Int} (hx:x = 0 ∨ x = 1) (hy:y = 0 ∨ y = 1)
include hx hy
theorem aLog_eq (hL:L op = [61,61]):Arr.one op ⟨2,x⟩ ⟨2,y⟩ = some (lgV (decide (x = y)),0):=by
  unfold Arr.one Arr.one.j1 Arr.one.j0
  simp only [letkE,eqW,hL,q0,q1,q2,q3,q4,q5,q6,q7,q8,q9,q10,q11,q12,show decide (([61,61]:List UInt8) = [43]) = false from rfl,show decide (([61,61]:List UInt8) = [45]) = false from rfl,show decide (([61,61]:List UInt8) = [42]) = false from rfl,show decide (([61,61]:List UInt8) = [47]) = false from rfl,show decide (([61,61]:List UInt8) = [61,61]) = true from rfl,show decide (([61,61]:List UInt8) = [47,61]) = false from rfl,show decide (([61,61]:List UInt8) = [60]) = false from rfl,show decide (([61,61]:List UInt8) = [60,61]) = false from rfl,show decide (([61,61]:List UInt8) = [62]) = false from rfl,show decide (([61,61]:List UInt8) = [62,61]) = false from rfl,show decide (([61,61]:List UInt8) = [46,97,110,100,46]) = false from rfl,show decide (([61,61]:List UInt8) = [46,111,114,46]) = false from rfl,show decide (([61,61]:List UInt8) = [46,110,111,116,46]) = false from rfl,decide_true,condT,condF,b1,aLogical_eq,bindS]
  rcases hx with rfl | rfl <;> rcases hy with rfl | rfl <;> rfl
theorem rLog_eq (hL:L op = [61,61]):Ref7.one op ⟨2,x⟩ ⟨2,y⟩ = some (lgV (decide (x = y)),0):=by
  have ix:I64 x:=by unfold I64; omega
  have iy:I64 y:=by unfold I64; omega
  have e:∀ n:Int,(if (2:Int) > 2 then n else 2) = 2:=fun n=>if_neg (by decide)
  unfold Ref7.one
  simp only [letkE,eqW,hL,q0,q1,q2,q3,q4,q5,q6,q7,q8,q9,q10,q11,q12,show decide (([61,61]:List UInt8) = [43]) = false from rfl,show decide (([61,61]:List UInt8) = [45]) = false from rfl,show decide (([61,61]:List UInt8) = [42]) = false from rfl,show decide (([61,61]:List UInt8) = [47]) = false from rfl,show decide (([61,61]:List UInt8) = [61,61]) = true from rfl,show decide (([61,61]:List UInt8) = [47,61]) = false from rfl,show decide (([61,61]:List UInt8) = [60]) = false from rfl,show decide (([61,61]:List UInt8) = [60,61]) = false from rfl,show decide (([61,61]:List UInt8) = [62]) = false from rfl,show decide (([61,61]:List UInt8) = [62,61]) = false from rfl,show decide (([61,61]:List UInt8) = [46,97,110,100,46]) = false from rfl,show decide (([61,61]:List UInt8) = [46,111,114,46]) = false from rfl,show decide (([61,61]:List UInt8) = [46,110,111,116,46]) = false from rfl,decide_true,condT,condF,b1,nb1,rTruth_eq,bindS,e,brought_two]
  rw [rCompared_eq (.inr (.inl rfl)) ix iy (.inr (.inl ⟨rfl,hx⟩)) (.inr (.inl ⟨rfl,hy⟩)),bindS,show cmpV 2 x y = cmpZ x y from if_neg (by decide)]
  rcases hx with rfl | rfl <;> rcases hy with rfl | rfl <;> rfl
theorem aLog_ne (hL:L op = [47,61]):Arr.one op ⟨2,x⟩ ⟨2,y⟩ = some (lgV (!decide (x = y)),0):=by
  unfold Arr.one Arr.one.j1 Arr.one.j0
  simp only [letkE,eqW,hL,q0,q1,q2,q3,q4,q5,q6,q7,q8,q9,q10,q11,q12,show decide (([47,61]:List UInt8) = [43]) = false from rfl,show decide (([47,61]:List UInt8) = [45]) = false from rfl,show decide (([47,61]:List UInt8) = [42]) = false from rfl,show decide (([47,61]:List UInt8) = [47]) = false from rfl,show decide (([47,61]:List UInt8) = [61,61]) = false from rfl,show decide (([47,61]:List UInt8) = [47,61]) = true from rfl,show decide (([47,61]:List UInt8) = [60]) = false from rfl,show decide (([47,61]:List UInt8) = [60,61]) = false from rfl,show decide (([47,61]:List UInt8) = [62]) = false from rfl,show decide (([47,61]:List UInt8) = [62,61]) = false from rfl,show decide (([47,61]:List UInt8) = [46,97,110,100,46]) = false from rfl,show decide (([47,61]:List UInt8) = [46,111,114,46]) = false from rfl,show decide (([47,61]:List UInt8) = [46,110,111,116,46]) = false from rfl,decide_true,condT,condF,b1,aLogical_eq,bindS]
  rcases hx with rfl | rfl <;> rcases hy with rfl | rfl <;> rfl
theorem rLog_ne (hL:L op = [47,61]):Ref7.one op ⟨2,x⟩ ⟨2,y⟩ = some (lgV (!decide (x = y)),0):=by
  have ix:I64 x:=by unfold I64; omega
  have iy:I64 y:=by unfold I64; omega
  have e:∀ n:Int,(if (2:Int) > 2 then n else 2) = 2:=fun n=>if_neg (by decide)
  unfold Ref7.one
  simp only [letkE,eqW,hL,q0,q1,q2,q3,q4,q5,q6,q7,q8,q9,q10,q11,q12,show decide (([47,61]:List UInt8) = [43]) = false from rfl,show decide (([47,61]:List UInt8) = [45]) = false from rfl,show decide (([47,61]:List UInt8) = [42]) = false from rfl,show decide (([47,61]:List UInt8) = [47]) = false from rfl,show decide (([47,61]:List UInt8) = [61,61]) = false from rfl,show decide (([47,61]:List UInt8) = [47,61]) = true from rfl,show decide (([47,61]:List UInt8) = [60]) = false from rfl,show decide (([47,61]:List UInt8) = [60,61]) = false from rfl,show decide (([47,61]:List UInt8) = [62]) = false from rfl,show decide (([47,61]:List UInt8) = [62,61]) = false from rfl,show decide (([47,61]:List UInt8) = [46,97,110,100,46]) = false from rfl,show decide (([47,61]:List UInt8) = [46,111,114,46]) = false from rfl,show decide (([47,61]:List UInt8) = [46,110,111,116,46]) = false from rfl,decide_true,condT,condF,b1,nb1,rTruth_eq,bindS,e,brought_two]
  rw [rCompared_eq (.inr (.inl rfl)) ix iy (.inr (.inl ⟨rfl,hx⟩)) (.inr (.inl ⟨rfl,hy⟩)),bindS,show cmpV 2 x y = cmpZ x y from if_neg (by decide)]
  rcases hx with rfl | rfl <;> rcases hy with rfl | rfl <;> rfl
theorem aLog_an (hL:L op = [46,97,110,100,46]):Arr.one op ⟨2,x⟩ ⟨2,y⟩ = some (lgV (decide (x = 1 ∧ y = 1)),0):=by
  unfold Arr.one Arr.one.j1 Arr.one.j0
  simp only [letkE,eqW,hL,q0,q1,q2,q3,q4,q5,q6,q7,q8,q9,q10,q11,q12,show decide (([46,97,110,100,46]:List UInt8) = [43]) = false from rfl,show decide (([46,97,110,100,46]:List UInt8) = [45]) = false from rfl,show decide (([46,97,110,100,46]:List UInt8) = [42]) = false from rfl,show decide (([46,97,110,100,46]:List UInt8) = [47]) = false from rfl,show decide (([46,97,110,100,46]:List UInt8) = [61,61]) = false from rfl,show decide (([46,97,110,100,46]:List UInt8) = [47,61]) = false from rfl,show decide (([46,97,110,100,46]:List UInt8) = [60]) = false from rfl,show decide (([46,97,110,100,46]:List UInt8) = [60,61]) = false from rfl,show decide (([46,97,110,100,46]:List UInt8) = [62]) = false from rfl,show decide (([46,97,110,100,46]:List UInt8) = [62,61]) = false from rfl,show decide (([46,97,110,100,46]:List UInt8) = [46,97,110,100,46]) = true from rfl,show decide (([46,97,110,100,46]:List UInt8) = [46,111,114,46]) = false from rfl,show decide (([46,97,110,100,46]:List UInt8) = [46,110,111,116,46]) = false from rfl,decide_true,condT,condF,b1,aLogical_eq,bindS]
  rcases hx with rfl | rfl <;> rcases hy with rfl | rfl <;> rfl
theorem rLog_an (hL:L op = [46,97,110,100,46]):Ref7.one op ⟨2,x⟩ ⟨2,y⟩ = some (lgV (decide (x = 1 ∧ y = 1)),0):=by
  have ix:I64 x:=by unfold I64; omega
  have iy:I64 y:=by unfold I64; omega
  have e:∀ n:Int,(if (2:Int) > 2 then n else 2) = 2:=fun n=>if_neg (by decide)
  unfold Ref7.one
  simp only [letkE,eqW,hL,q0,q1,q2,q3,q4,q5,q6,q7,q8,q9,q10,q11,q12,show decide (([46,97,110,100,46]:List UInt8) = [43]) = false from rfl,show decide (([46,97,110,100,46]:List UInt8) = [45]) = false from rfl,show decide (([46,97,110,100,46]:List UInt8) = [42]) = false from rfl,show decide (([46,97,110,100,46]:List UInt8) = [47]) = false from rfl,show decide (([46,97,110,100,46]:List UInt8) = [61,61]) = false from rfl,show decide (([46,97,110,100,46]:List UInt8) = [47,61]) = false from rfl,show decide (([46,97,110,100,46]:List UInt8) = [60]) = false from rfl,show decide (([46,97,110,100,46]:List UInt8) = [60,61]) = false from rfl,show decide (([46,97,110,100,46]:List UInt8) = [62]) = false from rfl,show decide (([46,97,110,100,46]:List UInt8) = [62,61]) = false from rfl,show decide (([46,97,110,100,46]:List UInt8) = [46,97,110,100,46]) = true from rfl,show decide (([46,97,110,100,46]:List UInt8) = [46,111,114,46]) = false from rfl,show decide (([46,97,110,100,46]:List UInt8) = [46,110,111,116,46]) = false from rfl,decide_true,condT,condF,b1,nb1,rTruth_eq,bindS,e,brought_two]
  rw [rCompared_eq (.inr (.inl rfl)) ix iy (.inr (.inl ⟨rfl,hx⟩)) (.inr (.inl ⟨rfl,hy⟩)),bindS]
  rcases hx with rfl | rfl <;> rcases hy with rfl | rfl <;> rfl
theorem aLog_or (hL:L op = [46,111,114,46]):Arr.one op ⟨2,x⟩ ⟨2,y⟩ = some (lgV (decide (x = 1 ∨ y = 1)),0):=by
  unfold Arr.one Arr.one.j1 Arr.one.j0
  simp only [letkE,eqW,hL,q0,q1,q2,q3,q4,q5,q6,q7,q8,q9,q10,q11,q12,show decide (([46,111,114,46]:List UInt8) = [43]) = false from rfl,show decide (([46,111,114,46]:List UInt8) = [45]) = false from rfl,show decide (([46,111,114,46]:List UInt8) = [42]) = false from rfl,show decide (([46,111,114,46]:List UInt8) = [47]) = false from rfl,show decide (([46,111,114,46]:List UInt8) = [61,61]) = false from rfl,show decide (([46,111,114,46]:List UInt8) = [47,61]) = false from rfl,show decide (([46,111,114,46]:List UInt8) = [60]) = false from rfl,show decide (([46,111,114,46]:List UInt8) = [60,61]) = false from rfl,show decide (([46,111,114,46]:List UInt8) = [62]) = false from rfl,show decide (([46,111,114,46]:List UInt8) = [62,61]) = false from rfl,show decide (([46,111,114,46]:List UInt8) = [46,97,110,100,46]) = false from rfl,show decide (([46,111,114,46]:List UInt8) = [46,111,114,46]) = true from rfl,show decide (([46,111,114,46]:List UInt8) = [46,110,111,116,46]) = false from rfl,decide_true,condT,condF,b1,aLogical_eq,bindS]
  rcases hx with rfl | rfl <;> rcases hy with rfl | rfl <;> rfl
theorem rLog_or (hL:L op = [46,111,114,46]):Ref7.one op ⟨2,x⟩ ⟨2,y⟩ = some (lgV (decide (x = 1 ∨ y = 1)),0):=by
  have ix:I64 x:=by unfold I64; omega
  have iy:I64 y:=by unfold I64; omega
  have e:∀ n:Int,(if (2:Int) > 2 then n else 2) = 2:=fun n=>if_neg (by decide)
  unfold Ref7.one
  simp only [letkE,eqW,hL,q0,q1,q2,q3,q4,q5,q6,q7,q8,q9,q10,q11,q12,show decide (([46,111,114,46]:List UInt8) = [43]) = false from rfl,show decide (([46,111,114,46]:List UInt8) = [45]) = false from rfl,show decide (([46,111,114,46]:List UInt8) = [42]) = false from rfl,show decide (([46,111,114,46]:List UInt8) = [47]) = false from rfl,show decide (([46,111,114,46]:List UInt8) = [61,61]) = false from rfl,show decide (([46,111,114,46]:List UInt8) = [47,61]) = false from rfl,show decide (([46,111,114,46]:List UInt8) = [60]) = false from rfl,show decide (([46,111,114,46]:List UInt8) = [60,61]) = false from rfl,show decide (([46,111,114,46]:List UInt8) = [62]) = false from rfl,show decide (([46,111,114,46]:List UInt8) = [62,61]) = false from rfl,show decide (([46,111,114,46]:List UInt8) = [46,97,110,100,46]) = false from rfl,show decide (([46,111,114,46]:List UInt8) = [46,111,114,46]) = true from rfl,show decide (([46,111,114,46]:List UInt8) = [46,110,111,116,46]) = false from rfl,decide_true,condT,condF,b1,nb1,rTruth_eq,bindS,e,brought_two]
  rw [rCompared_eq (.inr (.inl rfl)) ix iy (.inr (.inl ⟨rfl,hx⟩)) (.inr (.inl ⟨rfl,hy⟩)),bindS]
  rcases hx with rfl | rfl <;> rcases hy with rfl | rfl <;> rfl
end
theorem kc_need {c:Nat} {a b:Int} (hb:kB b ≠ 3) (h:kindC c a b ≠ 0):((c = 1 ∨ c = 2 ∨ c = 3 ∨ c = 4) ∧ kB a = 1 ∧ kB b = 1) ∨ ((c = 3 ∨ c = 5) ∧ kB a = 2 ∧ kB b = 2):=by
  unfold kindC at h
  rw [show (kB b == 3) = false from by rw [beq_eq_false_iff_ne]; exact hb,condF] at h
  generalize kB a = x at *
  generalize kB b = y at *
  cases c1:((c == 1 || c == 2) && (x == 1 && y == 1))
  · rw [c1,condF] at h
    cases c2:((c == 3 || c == 4) && (x == 1 && y == 1))
    · rw [c2,condF] at h
      cases c3:((c == 3 || c == 5) && (x == 2 && y == 2))
      · rw [c3,condF] at h; exact absurd rfl h
      · simp only [Bool.and_eq_true,Bool.or_eq_true,beq_iff_eq] at c3
        exact .inr c3
    · simp only [Bool.and_eq_true,Bool.or_eq_true,beq_iff_eq] at c2
      exact .inl ⟨by omega,c2.2⟩
  · simp only [Bool.and_eq_true,Bool.or_eq_true,beq_iff_eq] at c1
    exact .inl ⟨by omega,c1.2⟩
def BothS {α:Type} (f g:Option α):Prop:=∃ r,f = some r ∧ g = some r
theorem one_same {op:ByteArray} {a b:api.Value} (ia:I64 a.N) (ib:I64 b.N) (va:ValB a.Kind a.N) (vb:ValB b.Kind b.N) (hk:kindC (opC (L op)) a.Kind b.Kind ≠ 0):BothS (Arr.one op a b) (Ref7.one op a b):=by
  have nb:kB b.Kind ≠ 3:=by
    intro h
    have:b.Kind = 0:=of_decide_eq_true ((zero_kB _).trans (by rw [h]; rfl))
    unfold ValB at vb; omega
  have num:∀ v:api.Value,kB v.Kind = 1 → NumK v.Kind:=fun v h=>of_decide_eq_true (p:=v.Kind = 1 ∨ v.Kind = 3 ∨ v.Kind = 4) ((N1_kB v.Kind).trans (by rw [h]; rfl))
  have two:∀ v:api.Value,kB v.Kind = 2 → v.Kind = 2:=fun v h=>of_decide_eq_true ((two_kB v.Kind).trans (by rw [h]; rfl))
  have log:∀ v:api.Value,kB v.Kind = 2 → ValB v.Kind v.N → v = ⟨2,v.N⟩ ∧ (v.N = 0 ∨ v.N = 1):=by
    intro v h hv
    have:=two v h
    refine ⟨by cases v; simp only at this; subst this; rfl,?_⟩
    unfold ValB at hv; omega
  have pair:=fun h1 h2=>pair_of (num a h1) (num b h2) ia ib va vb
  have n2:kB a.Kind = 1 → a.Kind ≠ 2:=fun h q=>by have:=num a h; unfold NumK at this; omega
  have need:=kc_need nb hk
  clear hk
  rcases op_cases (L op) with hL | hL | hL | hL | hL | hL | hL | hL | hL | hL | hL | hL | hL | ⟨h0,h1,h2,h3,h4,h5,h6,h7,h8,h9,h10,h11,h12⟩
  · rw [hL,show opC ([43]:List UInt8) = 1 from rfl] at need
    have h:kB a.Kind = 1 ∧ kB b.Kind = 1:=by omega
    have:=pair h.1 h.2
    exact ⟨_,aOne_pl hL this.p,rOne_pl hL this⟩
  · rw [hL,show opC ([45]:List UInt8) = 1 from rfl] at need
    have h:kB a.Kind = 1 ∧ kB b.Kind = 1:=by omega
    have:=pair h.1 h.2
    exact ⟨_,aOne_mi hL this.p,rOne_mi hL this⟩
  · rw [hL,show opC ([42]:List UInt8) = 2 from rfl] at need
    have h:kB a.Kind = 1 ∧ kB b.Kind = 1:=by omega
    have:=pair h.1 h.2
    exact ⟨_,aOne_st hL this.p,rOne_st hL this⟩
  · rw [hL,show opC ([47]:List UInt8) = 2 from rfl] at need
    have h:kB a.Kind = 1 ∧ kB b.Kind = 1:=by omega
    have:=pair h.1 h.2
    exact ⟨_,aOne_sl hL this.p,rOne_sl hL this⟩
  · rw [hL,show opC ([61,61]:List UInt8) = 3 from rfl] at need
    have h:(kB a.Kind = 1 ∧ kB b.Kind = 1) ∨ (kB a.Kind = 2 ∧ kB b.Kind = 2):=by omega
    rcases h with h | h
    · have:=pair h.1 h.2
      exact ⟨_,aOne_eq hL this.p (n2 h.1),rOne_eq hL this⟩
    · obtain ⟨e1,x1⟩:=log a h.1 va
      obtain ⟨e2,x2⟩:=log b h.2 vb
      rw [e1,e2]
      exact ⟨_,aLog_eq x1 x2 hL,rLog_eq x1 x2 hL⟩
  · rw [hL,show opC ([47,61]:List UInt8) = 3 from rfl] at need
    have h:(kB a.Kind = 1 ∧ kB b.Kind = 1) ∨ (kB a.Kind = 2 ∧ kB b.Kind = 2):=by omega
    rcases h with h | h
    · have:=pair h.1 h.2
      exact ⟨_,aOne_ne hL this.p (n2 h.1),rOne_ne hL this⟩
    · obtain ⟨e1,x1⟩:=log a h.1 va
      obtain ⟨e2,x2⟩:=log b h.2 vb
      rw [e1,e2]
      exact ⟨_,aLog_ne x1 x2 hL,rLog_ne x1 x2 hL⟩
  · rw [hL,show opC ([60]:List UInt8) = 4 from rfl] at need
    have h:kB a.Kind = 1 ∧ kB b.Kind = 1:=by omega
    have:=pair h.1 h.2
    exact ⟨_,aOne_lt hL this.p (n2 h.1),rOne_lt hL this⟩
  · rw [hL,show opC ([60,61]:List UInt8) = 4 from rfl] at need
    have h:kB a.Kind = 1 ∧ kB b.Kind = 1:=by omega
    have:=pair h.1 h.2
    exact ⟨_,aOne_le hL this.p (n2 h.1),rOne_le hL this⟩
  · rw [hL,show opC ([62]:List UInt8) = 4 from rfl] at need
    have h:kB a.Kind = 1 ∧ kB b.Kind = 1:=by omega
    have:=pair h.1 h.2
    exact ⟨_,aOne_gt hL this.p (n2 h.1),rOne_gt hL this⟩
  · rw [hL,show opC ([62,61]:List UInt8) = 4 from rfl] at need
    have h:kB a.Kind = 1 ∧ kB b.Kind = 1:=by omega
    have:=pair h.1 h.2
    exact ⟨_,aOne_ge hL this.p (n2 h.1),rOne_ge hL this⟩
  · rw [hL,show opC ([46,97,110,100,46]:List UInt8) = 5 from rfl] at need
    have h:kB a.Kind = 2 ∧ kB b.Kind = 2:=by omega
    obtain ⟨e1,x1⟩:=log a h.1 va
    obtain ⟨e2,x2⟩:=log b h.2 vb
    rw [e1,e2]
    exact ⟨_,aLog_an x1 x2 hL,rLog_an x1 x2 hL⟩
  · rw [hL,show opC ([46,111,114,46]:List UInt8) = 5 from rfl] at need
    have h:kB a.Kind = 2 ∧ kB b.Kind = 2:=by omega
    obtain ⟨e1,x1⟩:=log a h.1 va
    obtain ⟨e2,x2⟩:=log b h.2 vb
    rw [e1,e2]
    exact ⟨_,aLog_or x1 x2 hL,rLog_or x1 x2 hL⟩
  · rw [hL,show opC ([46,110,111,116,46]:List UInt8) = 6 from rfl] at need
    exfalso; omega
  · have hc:opC (L op) = 0:=by unfold opC; rw [if_neg h0,if_neg h1,if_neg h2,if_neg h3,if_neg h4,if_neg h5,if_neg h6,if_neg h7,if_neg h8,if_neg h9,if_neg h10,if_neg h11,if_neg h12]
    rw [hc] at need
    exfalso; omega
end Go.Q
namespace Go.Q
open Go
set_option maxRecDepth 100000
set_option maxHeartbeats 4000000
theorem intV_kind {n:Int} (h:(intV n).2 = 0):(intV n).1.Kind = 1:=by
  unfold intV at *
  split
  · rfl
  · rename_i q; rw [if_neg q] at h; cases h
theorem arV_kind {i:Nat} {k x y:Int} (h:(arV i k x y).2 = 0):(arV i k x y).1.Kind = k:=by
  unfold arV at *
  by_cases h1:k = 1
  · rw [if_pos h1] at h ⊢
    rw [h1]
    by_cases i0:i = 0
    · rw [if_pos i0] at h ⊢; exact intV_kind h
    · rw [if_neg i0] at h ⊢
      by_cases i1:i = 1
      · rw [if_pos i1] at h ⊢; exact intV_kind h
      · rw [if_neg i1] at h ⊢
        by_cases i2:i = 2
        · rw [if_pos i2] at h ⊢; exact intV_kind h
        · rw [if_neg i2] at h ⊢
          by_cases y0:y = 0
          · rw [if_pos y0] at h; cases h
          · rw [if_neg y0] at h ⊢; exact intV_kind h
  · rw [if_neg h1]
theorem kc_vals {c:Nat} {a b:Int} (hb:kB b ≠ 3):(kB a = 1 → kB b = 1 → (c = 1 ∨ c = 2) → kindC c a b = if b > a then b else a) ∧ (kB a = 1 → kB b = 1 → (c = 3 ∨ c = 4) → kindC c a b = 2) ∧ (kB a = 2 → kB b = 2 → (c = 3 ∨ c = 5) → kindC c a b = 2):=by
  unfold kindC
  rw [show (kB b == 3) = false from by rw [beq_eq_false_iff_ne]; exact hb,condF]
  refine ⟨fun h1 h2 hc=>?_,fun h1 h2 hc=>?_,fun h1 h2 hc=>?_⟩
  · rw [h1,h2]; rcases hc with rfl | rfl <;> rfl
  · rw [h1,h2]; rcases hc with rfl | rfl <;> rfl
  · rw [h1,h2]; rcases hc with rfl | rfl <;> rfl
theorem one_some {op:ByteArray} {a b:api.Value} (ia:I64 a.N) (ib:I64 b.N) (va:ValB a.Kind a.N) (vb:ValB b.Kind b.N) (hk:kindC (opC (L op)) a.Kind b.Kind ≠ 0) :
    ∃ r,Arr.one op a b = some r ∧ (r.2 = 0 → r.1.Kind = kindC (opC (L op)) a.Kind b.Kind):=by
  have nb:kB b.Kind ≠ 3:=by
    intro h
    have:b.Kind = 0:=of_decide_eq_true ((zero_kB _).trans (by rw [h]; rfl))
    unfold ValB at vb; omega
  have num:∀ v:api.Value,kB v.Kind = 1 → NumK v.Kind:=fun v h=>of_decide_eq_true (p:=v.Kind = 1 ∨ v.Kind = 3 ∨ v.Kind = 4) ((N1_kB v.Kind).trans (by rw [h]; rfl))
  have two:∀ v:api.Value,kB v.Kind = 2 → v.Kind = 2:=fun v h=>of_decide_eq_true ((two_kB v.Kind).trans (by rw [h]; rfl))
  have log:∀ v:api.Value,kB v.Kind = 2 → ValB v.Kind v.N → v = ⟨2,v.N⟩ ∧ (v.N = 0 ∨ v.N = 1):=by
    intro v h hv
    have:=two v h
    refine ⟨by cases v; simp only at this; subst this; rfl,?_⟩
    unfold ValB at hv; omega
  have pair:=fun h1 h2=>pairA_of (num a h1) (num b h2) ia ib va vb
  have n2:kB a.Kind = 1 → a.Kind ≠ 2:=fun h q=>by have:=num a h; unfold NumK at this; omega
  have need:=kc_need nb hk
  obtain ⟨f1,f2,f3⟩:=kc_vals (c:=opC (L op)) (a:=a.Kind) (b:=b.Kind) nb
  clear hk
  rcases op_cases (L op) with hL | hL | hL | hL | hL | hL | hL | hL | hL | hL | hL | hL | hL | ⟨h0,h1,h2,h3,h4,h5,h6,h7,h8,h9,h10,h11,h12⟩
  · rw [hL,show opC ([43]:List UInt8) = 1 from rfl] at need f1 f2 f3 ⊢
    have h:kB a.Kind = 1 ∧ kB b.Kind = 1:=by omega
    exact ⟨_,aOne_pl hL (pair h.1 h.2),fun q=>(arV_kind q).trans (f1 h.1 h.2 (by decide)).symm⟩
  · rw [hL,show opC ([45]:List UInt8) = 1 from rfl] at need f1 f2 f3 ⊢
    have h:kB a.Kind = 1 ∧ kB b.Kind = 1:=by omega
    exact ⟨_,aOne_mi hL (pair h.1 h.2),fun q=>(arV_kind q).trans (f1 h.1 h.2 (by decide)).symm⟩
  · rw [hL,show opC ([42]:List UInt8) = 2 from rfl] at need f1 f2 f3 ⊢
    have h:kB a.Kind = 1 ∧ kB b.Kind = 1:=by omega
    exact ⟨_,aOne_st hL (pair h.1 h.2),fun q=>(arV_kind q).trans (f1 h.1 h.2 (by decide)).symm⟩
  · rw [hL,show opC ([47]:List UInt8) = 2 from rfl] at need f1 f2 f3 ⊢
    have h:kB a.Kind = 1 ∧ kB b.Kind = 1:=by omega
    exact ⟨_,aOne_sl hL (pair h.1 h.2),fun q=>(arV_kind q).trans (f1 h.1 h.2 (by decide)).symm⟩
  · rw [hL,show opC ([61,61]:List UInt8) = 3 from rfl] at need f1 f2 f3 ⊢
    have h:(kB a.Kind = 1 ∧ kB b.Kind = 1) ∨ (kB a.Kind = 2 ∧ kB b.Kind = 2):=by omega
    rcases h with h | h
    · exact ⟨_,aOne_eq hL (pair h.1 h.2) (n2 h.1),fun _=>(f2 h.1 h.2 (by decide)).symm⟩
    · obtain ⟨e1,x1⟩:=log a h.1 va
      obtain ⟨e2,x2⟩:=log b h.2 vb
      have hf:=f3 h.1 h.2 (by decide)
      rw [hf,e1,e2]
      exact ⟨_,aLog_eq x1 x2 hL,fun _=>rfl⟩
  · rw [hL,show opC ([47,61]:List UInt8) = 3 from rfl] at need f1 f2 f3 ⊢
    have h:(kB a.Kind = 1 ∧ kB b.Kind = 1) ∨ (kB a.Kind = 2 ∧ kB b.Kind = 2):=by omega
    rcases h with h | h
    · exact ⟨_,aOne_ne hL (pair h.1 h.2) (n2 h.1),fun _=>(f2 h.1 h.2 (by decide)).symm⟩
    · obtain ⟨e1,x1⟩:=log a h.1 va
      obtain ⟨e2,x2⟩:=log b h.2 vb
      have hf:=f3 h.1 h.2 (by decide)
      rw [hf,e1,e2]
      exact ⟨_,aLog_ne x1 x2 hL,fun _=>rfl⟩
  · rw [hL,show opC ([60]:List UInt8) = 4 from rfl] at need f1 f2 f3 ⊢
    have h:kB a.Kind = 1 ∧ kB b.Kind = 1:=by omega
    exact ⟨_,aOne_lt hL (pair h.1 h.2) (n2 h.1),fun _=>(f2 h.1 h.2 (by decide)).symm⟩
  · rw [hL,show opC ([60,61]:List UInt8) = 4 from rfl] at need f1 f2 f3 ⊢
    have h:kB a.Kind = 1 ∧ kB b.Kind = 1:=by omega
    exact ⟨_,aOne_le hL (pair h.1 h.2) (n2 h.1),fun _=>(f2 h.1 h.2 (by decide)).symm⟩
  · rw [hL,show opC ([62]:List UInt8) = 4 from rfl] at need f1 f2 f3 ⊢
    have h:kB a.Kind = 1 ∧ kB b.Kind = 1:=by omega
    exact ⟨_,aOne_gt hL (pair h.1 h.2) (n2 h.1),fun _=>(f2 h.1 h.2 (by decide)).symm⟩
  · rw [hL,show opC ([62,61]:List UInt8) = 4 from rfl] at need f1 f2 f3 ⊢
    have h:kB a.Kind = 1 ∧ kB b.Kind = 1:=by omega
    exact ⟨_,aOne_ge hL (pair h.1 h.2) (n2 h.1),fun _=>(f2 h.1 h.2 (by decide)).symm⟩
  · rw [hL,show opC ([46,97,110,100,46]:List UInt8) = 5 from rfl] at need f1 f2 f3 ⊢
    have h:kB a.Kind = 2 ∧ kB b.Kind = 2:=by omega
    obtain ⟨e1,x1⟩:=log a h.1 va
    obtain ⟨e2,x2⟩:=log b h.2 vb
    have hf:=f3 h.1 h.2 (by decide)
    rw [hf,e1,e2]
    exact ⟨_,aLog_an x1 x2 hL,fun _=>rfl⟩
  · rw [hL,show opC ([46,111,114,46]:List UInt8) = 5 from rfl] at need f1 f2 f3 ⊢
    have h:kB a.Kind = 2 ∧ kB b.Kind = 2:=by omega
    obtain ⟨e1,x1⟩:=log a h.1 va
    obtain ⟨e2,x2⟩:=log b h.2 vb
    have hf:=f3 h.1 h.2 (by decide)
    rw [hf,e1,e2]
    exact ⟨_,aLog_or x1 x2 hL,fun _=>rfl⟩
  · rw [hL,show opC ([46,110,111,116,46]:List UInt8) = 6 from rfl] at need f1 f2 f3 ⊢
    exfalso; omega
  · have hc:opC (L op) = 0:=by unfold opC; rw [if_neg h0,if_neg h1,if_neg h2,if_neg h3,if_neg h4,if_neg h5,if_neg h6,if_neg h7,if_neg h8,if_neg h9,if_neg h10,if_neg h11,if_neg h12]
    rw [hc] at need
    exfalso; omega
end Go.Q
