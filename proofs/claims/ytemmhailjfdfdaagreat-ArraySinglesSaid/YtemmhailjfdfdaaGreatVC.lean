import Derived.Test.YtemmhailjfdfdaaGreatVB
import Derived.Test.YtemmhailjfdfdaaGreatAFE
namespace Go.Q
open Go
set_option maxRecDepth 100000
set_option maxHeartbeats 4000000
section
variable {op:ByteArray} {x y:Int} (hx:x = 0 ∨ x = 1) (hy:y = 0 ∨ y = 1)
include hx hy
end
theorem kc_need1 {c:Nat} {a:Int} (h:kindC c a 0 ≠ 0):(c = 1 ∧ kB a = 1) ∨ (c = 6 ∧ kB a = 2):=by
  unfold kindC at h
  rw [show (kB 0 == 3) = true from rfl,condT] at h
  generalize kB a = x at *
  cases c1:(c == 1 && x == 1)
  · rw [c1,condF] at h
    cases c2:(c == 6 && x == 2)
    · rw [c2,condF] at h; exact absurd rfl h
    · simp only [Bool.and_eq_true,beq_iff_eq] at c2
      exact .inr c2
  · simp only [Bool.and_eq_true,beq_iff_eq] at c1
    exact .inl c1
theorem aNeg_eq {k:Int} (h:k = 3 ∨ k = 4) {n:Int} (hb:bitsOk (kp k).1 (kp k).2 n):Flt.Neg (kw k) n = some (negS (kp k).1 (kp k).2 n,0):=by
  have:=signed_eq (kindS_of h) hb (g:=Flt.Neg_1) (f:=fun s=>1 - s) (fun s hs=>by
    rcases hs with rfl | rfl
    · exact ⟨rfl,.inr rfl⟩
    · exact ⟨rfl,.inl rfl⟩)
  unfold Flt.Neg
  rw [this,bindS]
  rfl
noncomputable def onV (l:List UInt8) (a:api.Value):api.Value :=
  if l = [46,110,111,116,46] then lgV (decide (a.N = 0))
  else if a.Kind = 3 ∨ a.Kind = 4 then ⟨a.Kind,if l = [43] then negS (kp a.Kind).1 (kp a.Kind).2 (negS (kp a.Kind).1 (kp a.Kind).2 a.N) else negS (kp a.Kind).1 (kp a.Kind).2 a.N⟩
  else if l = [43] then a else ⟨1,IntKind.i64.wrap (0 - a.N)⟩
theorem only_same {op:ByteArray} {a:api.Value} (ia:I64 a.N) (va:ValB a.Kind a.N) (hk:kindC (opC (L op)) a.Kind 0 ≠ 0):Arr.only_ op a = some (onV (L op) a) ∧ Ref7.only_ op a = some (onV (L op) a):=by
  have num:kB a.Kind = 1 → NumK a.Kind:=fun h=>of_decide_eq_true (p:=a.Kind = 1 ∨ a.Kind = 3 ∨ a.Kind = 4) ((N1_kB a.Kind).trans (by rw [h]; rfl))
  have two:kB a.Kind = 2 → a.Kind = 2:=fun h=>of_decide_eq_true ((two_kB a.Kind).trans (by rw [h]; rfl))
  have need:=kc_need1 hk
  clear hk
  have hl:((L op = [43] ∨ L op = [45]) ∧ NumK a.Kind) ∨ (L op = [46,110,111,116,46] ∧ a.Kind = 2):=by
    rcases op_cases (L op) with q0 | q1 | q2 | q3 | q4 | q5 | q6 | q7 | q8 | q9 | q10 | q11 | q12 | ⟨h0,h1,h2,h3,h4,h5,h6,h7,h8,h9,h10,h11,h12⟩
    · rw [q0,show opC ([43]:List UInt8) = 1 from rfl] at need; exact .inl ⟨.inl q0,num (by omega)⟩
    · rw [q1,show opC ([45]:List UInt8) = 1 from rfl] at need; exact .inl ⟨.inr q1,num (by omega)⟩
    · rw [q2,show opC ([42]:List UInt8) = 2 from rfl] at need; exfalso; omega
    · rw [q3,show opC ([47]:List UInt8) = 2 from rfl] at need; exfalso; omega
    · rw [q4,show opC ([61,61]:List UInt8) = 3 from rfl] at need; exfalso; omega
    · rw [q5,show opC ([47,61]:List UInt8) = 3 from rfl] at need; exfalso; omega
    · rw [q6,show opC ([60]:List UInt8) = 4 from rfl] at need; exfalso; omega
    · rw [q7,show opC ([60,61]:List UInt8) = 4 from rfl] at need; exfalso; omega
    · rw [q8,show opC ([62]:List UInt8) = 4 from rfl] at need; exfalso; omega
    · rw [q9,show opC ([62,61]:List UInt8) = 4 from rfl] at need; exfalso; omega
    · rw [q10,show opC ([46,97,110,100,46]:List UInt8) = 5 from rfl] at need; exfalso; omega
    · rw [q11,show opC ([46,111,114,46]:List UInt8) = 5 from rfl] at need; exfalso; omega
    · rw [q12,show opC ([46,110,111,116,46]:List UInt8) = 6 from rfl] at need; exact .inr ⟨q12,two (by omega)⟩
    · have hc:opC (L op) = 0:=by unfold opC; rw [if_neg h0,if_neg h1,if_neg h2,if_neg h3,if_neg h4,if_neg h5,if_neg h6,if_neg h7,if_neg h8,if_neg h9,if_neg h10,if_neg h11,if_neg h12]
      rw [hc] at need
      exfalso; omega
  unfold Arr.only_ Ref7.only_ Ref7.only_.j2 Ref7.only_.j0 Ref7.only_.j1 onV
  simp only [letkE,b1,eqW,aBytes_eq,rBytes_eq,bindS,aLogical_eq,rTruth_eq,show L (⟨#[43]⟩:ByteArray) = [43] from rfl,show L (⟨#[46,110,111,116,46]⟩:ByteArray) = [46,110,111,116,46] from rfl]
  rcases hl with ⟨hl,hn⟩ | ⟨hl,h2⟩
  · have hno:¬ L op = [46,110,111,116,46]:=by rcases hl with q | q <;> rw [q] <;> decide
    rw [decide_eq_false hno,condF,condF,if_neg hno]
    by_cases h1:a.Kind = 1
    · rw [decide_eq_true h1,if_neg (show ¬ (a.Kind = 3 ∨ a.Kind = 4) by omega),if_neg (show ¬ a.Kind = 3 by omega),if_neg (show ¬ a.Kind = 4 by omega),show decide ((0:Int) > 0) = false from rfl]
      rcases hl with q | q
      · rw [q,show decide (([43]:List UInt8) = [43]) = true from rfl,if_pos rfl]
        exact ⟨rfl,rfl⟩
      · rw [q,show decide (([45]:List UInt8) = [43]) = false from rfl,if_neg (by decide)]
        rw [h1]
        exact ⟨rfl,rfl⟩
    · have h34:a.Kind = 3 ∨ a.Kind = 4:=by unfold NumK at hn; omega
      have hb:=val_float va h34
      obtain ⟨n1,n2,_,_⟩:=neg_ok (kindS_of h34) hb
      rw [decide_eq_false h1,if_pos h34,decide_eq_true (if3 _ h34),bytes_of h34,aNeg_eq h34 hb,rNeg_eq (kindS_of h34) ia hb]
      simp only [bindS,condF,condT]
      rw [aNeg_eq h34 n2,rNeg_eq (kindS_of h34) n1 n2]
      simp only [bindS]
      rcases hl with q | q
      · rw [q,show decide (([43]:List UInt8) = [43]) = true from rfl,if_pos rfl]
        exact ⟨rfl,rfl⟩
      · rw [q,show decide (([45]:List UInt8) = [43]) = false from rfl,if_neg (by decide)]
        exact ⟨rfl,rfl⟩
  · rw [decide_eq_true hl,if_pos hl,condT,condT]
    exact ⟨rfl,rfl⟩
end Go.Q
namespace Go.Q
open Go
set_option maxRecDepth 100000
set_option maxHeartbeats 4000000
end Go.Q
