import Derived.Test.YtemmhailjfdfdaaGreatVA
namespace Go.Q
open Go
set_option maxRecDepth 100000
set_option maxHeartbeats 4000000
def kp (k:Int):Nat × Nat:=if k = 3 then (24,8) else (53,11)
def kw (k:Int):Int:=if k = 3 then 4 else 8
theorem kindS_of {k:Int} (h:k = 3 ∨ k = 4):kindS (kw k) (kp k).1 (kp k).2:=by
  rcases h with rfl | rfl
  · exact .inr (.inl ⟨rfl,rfl,rfl⟩)
  · exact .inr (.inr ⟨rfl,rfl,rfl⟩)
theorem bytes_of {k:Int} (h:k = 3 ∨ k = 4):(if k = 3 then (4:Int) else if k = 4 then 8 else 0) = kw k:=by
  rcases h with rfl | rfl <;> rfl
def ValB (k n:Int):Prop:=(k = 1 ∧ -2147483647 ≤ n ∧ n ≤ 2147483647) ∨ (k = 2 ∧ (n = 0 ∨ n = 1)) ∨ ((k = 3 ∨ k = 4) ∧ bitsOk (kp k).1 (kp k).2 n)
noncomputable def dV (k n:Int):Bool:=@decide (ValB k n) (Classical.propDecidable _)
theorem dV_false {k n:Int} (h:¬ ValB k n):dV k n = false:=@decide_eq_false _ (_) h
theorem dV_iff {k n:Int}:dV k n = true ↔ ValB k n:=by
  unfold dV
  exact @decide_eq_true_iff _ (_)
theorem dV_one (n:Int):dV 1 n = (decide (-2147483647 ≤ n) && decide (n ≤ 2147483647)):=by
  rw [Bool.eq_iff_iff,dV_iff]
  simp only [Bool.and_eq_true,decide_eq_true_eq]
  unfold ValB
  omega
theorem dV_two (n:Int):dV 2 n = (decide (n = 0) || decide (n = 1)):=by
  rw [Bool.eq_iff_iff,dV_iff]
  simp only [Bool.or_eq_true,decide_eq_true_eq]
  unfold ValB
  omega
theorem dV_float {k:Int} (h:k = 3 ∨ k = 4) (n:Int):dV k n = @decide (bitsOk (kp k).1 (kp k).2 n) (Classical.propDecidable _):=by
  have e:ValB k n ↔ bitsOk (kp k).1 (kp k).2 n:=by
    unfold ValB
    constructor
    · rintro (q | q | q)
      · omega
      · omega
      · exact q.2
    · intro q; exact .inr (.inr ⟨h,q⟩)
  unfold dV
  congr 1
  exact propext e
theorem dV_none {k:Int} (h:k ≠ 1 ∧ k ≠ 2 ∧ k ≠ 3 ∧ k ≠ 4) (n:Int):dV k n = false:=dV_false (by unfold ValB; omega)
theorem aFits_eq (k n:Int):Arr.fits k n = some (dV k n):=by
  unfold Arr.fits Arr.fits.j0
  simp only [letkE,b1,aBytes_eq,bindS]
  by_cases h1:k = 1
  · subst h1
    rw [show decide ((1:Int) = 1) = true from rfl,condT,dV_one]
    by_cases q:-2147483647 ≤ n
    · rw [decide_eq_true (show n ≥ -2147483647 from q),condT]; rfl
    · rw [decide_eq_false (show ¬ n ≥ -2147483647 from q),condF]; rfl
  · rw [decide_eq_false h1,condF]
    by_cases h2:k = 2
    · subst h2
      rw [show decide ((2:Int) = 2) = true from rfl,condT,dV_two]
      cases decide (n = 0)
      · rfl
      · rfl
    · rw [decide_eq_false h2,condF]
      by_cases h34:k = 3 ∨ k = 4
      · rw [bytes_of h34,Valid_eq (kindS_of h34),dV_float h34]
        rcases h34 with rfl | rfl <;> rfl
      · rw [decide_eq_false (show ¬ k = 3 by omega),decide_eq_false (show ¬ k = 4 by omega),condF,condF,dV_none (by omega)]
theorem rIsValue_eq {k n:Int} (hn:I64 n):Ref7.IsValue ⟨k,n⟩ = some (dV k n):=by
  unfold Ref7.IsValue
  simp only [letkE,b1,rBytes_eq,bindS]
  by_cases h1:k = 1
  · subst h1
    rw [show decide ((1:Int) = 1) = true from rfl,condT,dV_one]
    by_cases q:-2147483647 ≤ n
    · rw [decide_eq_true (show n ≥ -2147483647 from q),condT]; rfl
    · rw [decide_eq_false (show ¬ n ≥ -2147483647 from q),condF]; rfl
  · rw [decide_eq_false h1,condF]
    by_cases h2:k = 2
    · subst h2
      rw [show decide ((2:Int) = 2) = true from rfl,condT,dV_two]
      cases decide (n = 0)
      · rfl
      · rfl
    · rw [decide_eq_false h2,condF]
      by_cases h34:k = 3 ∨ k = 4
      · rw [bytes_of h34,rValid_eq (kindS_of h34) hn,dV_float h34]
        rcases h34 with rfl | rfl <;> rfl
      · rw [if_neg (by omega),if_neg (by omega),dV_none (by omega)]; rfl
def intV (n:Int):api.Value × Int:=if -2147483647 ≤ n ∧ n ≤ 2147483647 then (⟨1,n⟩,0) else (⟨0,0⟩,10)
theorem rWhole_eq (n:Int):Ref7.whole n = some (intV n):=by
  unfold Ref7.whole Ref7.whole.j0 intV
  simp only [letkE]
  by_cases q:n < -2147483647
  · rw [decide_eq_true q,condT,condT,if_neg (by omega)]
  · rw [decide_eq_false q,condF]
    by_cases q2:n > 2147483647
    · rw [decide_eq_true q2,condT,if_neg (by omega)]
    · rw [decide_eq_false q2,condF,if_pos (by omega)]
noncomputable def toV (k:Int) (v:api.Value):api.Value × Int :=
  if k = v.Kind then (v,0)
  else if v.Kind = 1 then (⟨k,(fromS (kp k).1 (kp k).2 0 v.N).1⟩,0)
  else if k = 1 then (if (toS 1 (numS (kp v.Kind).1 (kp v.Kind).2 v.N)).2.2 ≠ 0 then (⟨0,0⟩,10) else intV (toS 1 (numS (kp v.Kind).1 (kp v.Kind).2 v.N)).1)
  else (⟨k,(convS (kp k).1 (kp k).2 0 (numS (kp v.Kind).1 (kp v.Kind).2 v.N)).1⟩,0)
def NumK (k:Int):Prop:=k = 1 ∨ k = 3 ∨ k = 4
theorem N1_of {k:Int} (h:NumK k):N1 k = true:=decide_eq_true h
theorem val_float {k n:Int} (h:ValB k n) (hk:k = 3 ∨ k = 4):bitsOk (kp k).1 (kp k).2 n:=by
  rcases h with q | q | q
  · omega
  · omega
  · exact q.2
theorem aTo_eq {k:Int} {v:api.Value} (hk:NumK k ∨ k = v.Kind) (hv:NumK v.Kind ∨ k = v.Kind) (hn:I64 v.N) (ok:ValB v.Kind v.N):Arr.to k v = some (toV k v):=by
  unfold Arr.to toV
  simp only [letkE,b1]
  by_cases h0:k = v.Kind
  · rw [decide_eq_true h0,condT,if_pos h0]
  · rw [decide_eq_false h0,condF,if_neg h0,aNum_eq,bindS,N1_of (hk.resolve_right h0),aNum_eq,bindS,N1_of (hv.resolve_right h0)]
    simp only [Bool.not_true,condF]
    have hk:=hk.resolve_right h0
    have hv:=hv.resolve_right h0
    unfold NumK at hk hv
    unfold Arr.to.j1
    rw [condF]
    simp only [letkE,b1,aBytes_eq,bindS]
    by_cases h1:v.Kind = 1
    · have k34:k = 3 ∨ k = 4:=by omega
      rw [decide_eq_true h1,condT,if_pos h1,bytes_of k34,FromInt_eq (kindS_of k34) (by decide) hn,bindS]
    · have v34:v.Kind = 3 ∨ v.Kind = 4:=by omega
      have hb:=val_float ok v34
      rw [decide_eq_false h1,condF,if_neg h1]
      by_cases k1:k = 1
      · rw [decide_eq_true k1,condT,if_pos k1,bytes_of v34,ToInt_eq (kindS_of v34) (by decide) hb,bindS]
        generalize toS 1 (numS (kp v.Kind).1 (kp v.Kind).2 v.N) = r
        obtain ⟨r1,r2,r3⟩:=r
        dsimp only
        rw [nb1]
        subst k1
        unfold Arr.to.j2
        by_cases h3:r3 = 0
        · rw [decide_eq_true h3,if_neg (by intro q; exact q h3),aFits_eq,bindS,dV_one]
          unfold intV
          by_cases q:-2147483647 ≤ r1 ∧ r1 ≤ 2147483647
          · rw [if_pos q,decide_eq_true q.1,decide_eq_true q.2]; rfl
          · rw [if_neg q,show (decide (-2147483647 ≤ r1) && decide (r1 ≤ 2147483647)) = false from by rw [← Bool.decide_and]; exact decide_eq_false q]; rfl
        · rw [decide_eq_false h3,if_pos h3]; rfl
      · have k34:k = 3 ∨ k = 4:=by omega
        rw [decide_eq_false k1,condF,if_neg k1]
        unfold Arr.to.j0
        simp only [aBytes_eq,bindS]
        rw [bytes_of v34,bytes_of k34,Convert_eq (kindS_of v34) (kindS_of k34) (by decide) hb,bindS]
theorem rTo_eq {k:Int} {v:api.Value} (hk:NumK k ∨ k = v.Kind) (hv:NumK v.Kind ∨ k = v.Kind) (hn:I64 v.N) (ok:ValB v.Kind v.N):Ref7.brought k v = some (toV k v):=by
  unfold Ref7.brought toV
  simp only [letkE,b1]
  by_cases h0:k = v.Kind
  · rw [decide_eq_true h0.symm,condT,if_pos h0]
  · have h0':¬ v.Kind = k:=fun q=>h0 q.symm
    rw [decide_eq_false h0',condF,if_neg h0]
    have hk:=hk.resolve_right h0
    have hv:=hv.resolve_right h0
    unfold NumK at hk hv
    simp only [rBytes_eq,bindS]
    by_cases h1:v.Kind = 1
    · have k34:k = 3 ∨ k = 4:=by omega
      rw [decide_eq_true h1,condT,if_pos h1,bytes_of k34,rFromInt_eq (kindS_of k34) (by decide) hn,bindS]
    · have v34:v.Kind = 3 ∨ v.Kind = 4:=by omega
      have hb:=val_float ok v34
      rw [decide_eq_false h1,condF,if_neg h1]
      by_cases k1:k = 1
      · rw [decide_eq_true k1,condT,if_pos k1,bytes_of v34,rToInt_eq (kindS_of v34) (by decide) hn hb,bindS]
        generalize toS 1 (numS (kp v.Kind).1 (kp v.Kind).2 v.N) = r
        obtain ⟨r1,r2,r3⟩:=r
        dsimp only
        rw [nb1]
        by_cases h3:r3 = 0
        · rw [decide_eq_true h3,if_neg (by intro q; exact q h3),rWhole_eq,bindS]; rfl
        · rw [decide_eq_false h3,if_pos h3]; rfl
      · have k34:k = 3 ∨ k = 4:=by omega
        rw [decide_eq_false k1,condF,if_neg k1,bytes_of v34,bytes_of k34,rConvert_eq (kindS_of v34) (kindS_of k34) (by decide) hn hb,bindS]
end Go.Q
namespace Go.Q
open Go
set_option maxRecDepth 100000
set_option maxHeartbeats 4000000
theorem q0:L (⟨#[43]⟩:ByteArray) = [43]:=rfl
theorem q1:L (⟨#[45]⟩:ByteArray) = [45]:=rfl
theorem q2:L (⟨#[42]⟩:ByteArray) = [42]:=rfl
theorem q3:L (⟨#[47]⟩:ByteArray) = [47]:=rfl
theorem q4:L (⟨#[61,61]⟩:ByteArray) = [61,61]:=rfl
theorem q5:L (⟨#[47,61]⟩:ByteArray) = [47,61]:=rfl
theorem q6:L (⟨#[60]⟩:ByteArray) = [60]:=rfl
theorem q7:L (⟨#[60,61]⟩:ByteArray) = [60,61]:=rfl
theorem q8:L (⟨#[62]⟩:ByteArray) = [62]:=rfl
theorem q9:L (⟨#[62,61]⟩:ByteArray) = [62,61]:=rfl
theorem q10:L (⟨#[46,97,110,100,46]⟩:ByteArray) = [46,97,110,100,46]:=rfl
theorem q11:L (⟨#[46,111,114,46]⟩:ByteArray) = [46,111,114,46]:=rfl
theorem q12:L (⟨#[46,110,111,116,46]⟩:ByteArray) = [46,110,111,116,46]:=rfl
section
variable {a b:api.Value} (ha:NumK a.Kind) (hb:NumK b.Kind) (ia:I64 a.N) (ib:I64 b.N) (va:ValB a.Kind a.N) (vb:ValB b.Kind b.N)
include ha hb ia ib va vb
end
def lgV (b:Bool):api.Value:=⟨2,if b = true then 1 else 0⟩
theorem aLogical_eq (b:Bool):Arr.logical b = some (lgV b):=by cases b <;> rfl
theorem rTruth_eq (b:Bool):Ref7.truth b = some (lgV b):=by cases b <;> rfl
theorem if3 (k:Int) (h:k = 3 ∨ k = 4):(if k = 3 then (4:Int) else if k = 4 then 8 else 0) > 0:=by rcases h with rfl | rfl <;> decide
section
variable {op:ByteArray} {a b:api.Value} {k x y:Int}
end
end Go.Q
