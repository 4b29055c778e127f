import Derived.Test.YtemmhailjfdfdaaGreatVA
namespace Go.Q
open Go
set_option maxRecDepth 100000
set_option maxHeartbeats 4000000
def kp (k:Int):Nat × Nat:=if k = 3 then (24,8) else (53,11)
def kw (k:Int):Int:=if k = 3 then 4 else 8
theorem kindS_of {k:Int} (h:k = 3 ∨ k = 4):kindS (kw k) (kp k).1 (kp k).2:=by
  rcases h with rfl | rfl
  · exact .inr (.inl ⟨rfl,rfl,rfl⟩)
  · exact .inr (.inr ⟨rfl,rfl,rfl⟩)
theorem bytes_of {k:Int} (h:k = 3 ∨ k = 4):(if k = 3 then (4:Int) else if k = 4 then 8 else 0) = kw k:=by
  rcases h with rfl | rfl <;> rfl
def ValB (k n:Int):Prop:=(k = 1 ∧ -2147483647 ≤ n ∧ n ≤ 2147483647) ∨ (k = 2 ∧ (n = 0 ∨ n = 1)) ∨ ((k = 3 ∨ k = 4) ∧ bitsOk (kp k).1 (kp k).2 n)
noncomputable def dV (k n:Int):Bool:=@decide (ValB k n) (Classical.propDecidable _)
theorem dV_false {k n:Int} (h:¬ ValB k n):dV k n = false:=@decide_eq_false _ (_) h
theorem dV_iff {k n:Int}:dV k n = true ↔ ValB k n:=by
  unfold dV
  exact @decide_eq_true_iff _ (_)
theorem dV_one (n:Int):dV 1 n = (decide (-2147483647 ≤ n) && decide (n ≤ 2147483647)):=by
  rw [Bool.eq_iff_iff,dV_iff]
  simp only [Bool.and_eq_true,decide_eq_true_eq]
  unfold ValB
  omega
theorem dV_two (n:Int):dV 2 n = (decide (n = 0) || decide (n = 1)):=by
  rw [Bool.eq_iff_iff,dV_iff]
  simp only [Bool.or_eq_true,decide_eq_true_eq]
  unfold ValB
  omega
theorem dV_float {k:Int} (h:k = 3 ∨ k = 4) (n:Int):dV k n = @decide (bitsOk (kp k).1 (kp k).2 n) (Classical.propDecidable _):=by
  have e:ValB k n ↔ bitsOk (kp k).1 (kp k).2 n:=by
    unfold ValB
    constructor
    · rintro (q | q | q)
      · omega
      · omega
      · exact q.2
    · intro q; exact .inr (.inr ⟨h,q⟩)
  unfold dV
  congr 1
  exact propext e
theorem dV_none {k:Int} (h:k ≠ 1 ∧ k ≠ 2 ∧ k ≠ 3 ∧ k ≠ 4) (n:Int):dV k n = false:=dV_false (by unfold ValB; omega)
theorem aFits_eq (k n:Int):Arr.fits k n = some (dV k n):=by
  unfold Arr.fits Arr.fits.j0
  simp only [letkE,b1,aBytes_eq,bindS]
  by_cases h1:k = 1
  · subst h1
    rw [show decide ((1:Int) = 1) = true from rfl,condT,dV_one]
    by_cases q:-2147483647 ≤ n
    · rw [decide_eq_true (show n ≥ -2147483647 from q),condT]; rfl
    · rw [decide_eq_false (show ¬ n ≥ -2147483647 from q),condF]; rfl
  · rw [decide_eq_false h1,condF]
    by_cases h2:k = 2
    · subst h2
      rw [show decide ((2:Int) = 2) = true from rfl,condT,dV_two]
      cases decide (n = 0)
      · rfl
      · rfl
    · rw [decide_eq_false h2,condF]
      by_cases h34:k = 3 ∨ k = 4
      · rw [bytes_of h34,Valid_eq (kindS_of h34),dV_float h34]
        rcases h34 with rfl | rfl <;> rfl
      · rw [decide_eq_false (show ¬ k = 3 by omega),decide_eq_false (show ¬ k = 4 by omega),condF,condF,dV_none (by omega)]
theorem rIsValue_eq {k n:Int} (hn:I64 n):Ref7.IsValue ⟨k,n⟩ = some (dV k n):=by
  unfold Ref7.IsValue
  simp only [letkE,b1,rBytes_eq,bindS]
  by_cases h1:k = 1
  · subst h1
    rw [show decide ((1:Int) = 1) = true from rfl,condT,dV_one]
    by_cases q:-2147483647 ≤ n
    · rw [decide_eq_true (show n ≥ -2147483647 from q),condT]; rfl
    · rw [decide_eq_false (show ¬ n ≥ -2147483647 from q),condF]; rfl
  · rw [decide_eq_false h1,condF]
    by_cases h2:k = 2
    · subst h2
      rw [show decide ((2:Int) = 2) = true from rfl,condT,dV_two]
      cases decide (n = 0)
      · rfl
      · rfl
    · rw [decide_eq_false h2,condF]
      by_cases h34:k = 3 ∨ k = 4
      · rw [bytes_of h34,rValid_eq (kindS_of h34) hn,dV_float h34]
        rcases h34 with rfl | rfl <;> rfl
      · rw [if_neg (by omega),if_neg (by omega),dV_none (by omega)]; rfl
def intV (n:Int):api.Value × Int:=if -2147483647 ≤ n ∧ n ≤ 2147483647 then (⟨1,n⟩,0) else (⟨0,0⟩,10)
theorem aInteger_eq (n:Int):Arr.integer n = some (intV n):=by
  unfold Arr.integer intV
  rw [aFits_eq,bindS,dV_one]
  simp only [letkE]
  by_cases q:-2147483647 ≤ n ∧ n ≤ 2147483647
  · rw [if_pos q,decide_eq_true q.1,decide_eq_true q.2]; rfl
  · rw [if_neg q,show (decide (-2147483647 ≤ n) && decide (n ≤ 2147483647)) = false from by rw [← Bool.decide_and]; exact decide_eq_false q]; rfl
theorem rWhole_eq (n:Int):Ref7.whole n = some (intV n):=by
  unfold Ref7.whole Ref7.whole.j0 intV
  simp only [letkE]
  by_cases q:n < -2147483647
  · rw [decide_eq_true q,condT,condT,if_neg (by omega)]
  · rw [decide_eq_false q,condF]
    by_cases q2:n > 2147483647
    · rw [decide_eq_true q2,condT,if_neg (by omega)]
    · rw [decide_eq_false q2,condF,if_pos (by omega)]
noncomputable def toV (k:Int) (v:api.Value):api.Value × Int :=
  if k = v.Kind then (v,0)
  else if v.Kind = 1 then (⟨k,(fromS (kp k).1 (kp k).2 0 v.N).1⟩,0)
  else if k = 1 then (if (toS 1 (numS (kp v.Kind).1 (kp v.Kind).2 v.N)).2.2 ≠ 0 then (⟨0,0⟩,10) else intV (toS 1 (numS (kp v.Kind).1 (kp v.Kind).2 v.N)).1)
  else (⟨k,(convS (kp k).1 (kp k).2 0 (numS (kp v.Kind).1 (kp v.Kind).2 v.N)).1⟩,0)
def NumK (k:Int):Prop:=k = 1 ∨ k = 3 ∨ k = 4
theorem N1_of {k:Int} (h:NumK k):N1 k = true:=decide_eq_true h
theorem val_float {k n:Int} (h:ValB k n) (hk:k = 3 ∨ k = 4):bitsOk (kp k).1 (kp k).2 n:=by
  rcases h with q | q | q
  · omega
  · omega
  · exact q.2
theorem aTo_eq {k:Int} {v:api.Value} (hk:NumK k ∨ k = v.Kind) (hv:NumK v.Kind ∨ k = v.Kind) (hn:I64 v.N) (ok:ValB v.Kind v.N):Arr.to k v = some (toV k v):=by
  unfold Arr.to toV
  simp only [letkE,b1]
  by_cases h0:k = v.Kind
  · rw [decide_eq_true h0,condT,if_pos h0]
  · rw [decide_eq_false h0,condF,if_neg h0,aNum_eq,bindS,N1_of (hk.resolve_right h0),aNum_eq,bindS,N1_of (hv.resolve_right h0)]
    simp only [Bool.not_true,condF]
    have hk:=hk.resolve_right h0
    have hv:=hv.resolve_right h0
    unfold NumK at hk hv
    unfold Arr.to.j1
    rw [condF]
    simp only [letkE,b1,aBytes_eq,bindS]
    by_cases h1:v.Kind = 1
    · have k34:k = 3 ∨ k = 4:=by omega
      rw [decide_eq_true h1,condT,if_pos h1,bytes_of k34,FromInt_eq (kindS_of k34) (by decide) hn,bindS]
    · have v34:v.Kind = 3 ∨ v.Kind = 4:=by omega
      have hb:=val_float ok v34
      rw [decide_eq_false h1,condF,if_neg h1]
      by_cases k1:k = 1
      · rw [decide_eq_true k1,condT,if_pos k1,bytes_of v34,ToInt_eq (kindS_of v34) (by decide) hb,bindS]
        generalize toS 1 (numS (kp v.Kind).1 (kp v.Kind).2 v.N) = r
        obtain ⟨r1,r2,r3⟩:=r
        dsimp only
        rw [nb1]
        subst k1
        unfold Arr.to.j2
        by_cases h3:r3 = 0
        · rw [decide_eq_true h3,if_neg (by intro q; exact q h3),aFits_eq,bindS,dV_one]
          unfold intV
          by_cases q:-2147483647 ≤ r1 ∧ r1 ≤ 2147483647
          · rw [if_pos q,decide_eq_true q.1,decide_eq_true q.2]; rfl
          · rw [if_neg q,show (decide (-2147483647 ≤ r1) && decide (r1 ≤ 2147483647)) = false from by rw [← Bool.decide_and]; exact decide_eq_false q]; rfl
        · rw [decide_eq_false h3,if_pos h3]; rfl
      · have k34:k = 3 ∨ k = 4:=by omega
        rw [decide_eq_false k1,condF,if_neg k1]
        unfold Arr.to.j0
        simp only [aBytes_eq,bindS]
        rw [bytes_of v34,bytes_of k34,Convert_eq (kindS_of v34) (kindS_of k34) (by decide) hb,bindS]
theorem rTo_eq {k:Int} {v:api.Value} (hk:NumK k ∨ k = v.Kind) (hv:NumK v.Kind ∨ k = v.Kind) (hn:I64 v.N) (ok:ValB v.Kind v.N):Ref7.brought k v = some (toV k v):=by
  unfold Ref7.brought toV
  simp only [letkE,b1]
  by_cases h0:k = v.Kind
  · rw [decide_eq_true h0.symm,condT,if_pos h0]
  · have h0':¬ v.Kind = k:=fun q=>h0 q.symm
    rw [decide_eq_false h0',condF,if_neg h0]
    have hk:=hk.resolve_right h0
    have hv:=hv.resolve_right h0
    unfold NumK at hk hv
    simp only [rBytes_eq,bindS]
    by_cases h1:v.Kind = 1
    · have k34:k = 3 ∨ k = 4:=by omega
      rw [decide_eq_true h1,condT,if_pos h1,bytes_of k34,rFromInt_eq (kindS_of k34) (by decide) hn,bindS]
    · have v34:v.Kind = 3 ∨ v.Kind = 4:=by omega
      have hb:=val_float ok v34
      rw [decide_eq_false h1,condF,if_neg h1]
      by_cases k1:k = 1
      · rw [decide_eq_true k1,condT,if_pos k1,bytes_of v34,rToInt_eq (kindS_of v34) (by decide) hn hb,bindS]
        generalize toS 1 (numS (kp v.Kind).1 (kp v.Kind).2 v.N) = r
        obtain ⟨r1,r2,r3⟩:=r
        dsimp only
        rw [nb1]
        by_cases h3:r3 = 0
        · rw [decide_eq_true h3,if_neg (by intro q; exact q h3),rWhole_eq,bindS]; rfl
        · rw [decide_eq_false h3,if_pos h3]; rfl
      · have k34:k = 3 ∨ k = 4:=by omega
        rw [decide_eq_false k1,condF,if_neg k1,bytes_of v34,bytes_of k34,rConvert_eq (kindS_of v34) (kindS_of k34) (by decide) hn hb,bindS]
theorem from_ok {p w:Nat} (h:OkS p w) (n:Int):FOk p w (fromS p w 0 n).1:=by
  unfold fromS
  split
  · exact zero_ok h (.inl rfl)
  · exact rnd_ok h (by split <;> simp) (by omega)
theorem conv_ok {p w p2 w2:Nat} (_h:OkS p w) (h2:OkS p2 w2) {x:float.number} (hx:NumOk p w x):FOk p2 w2 (convS p2 w2 0 x).1:=by
  unfold convS
  split
  · exact quiet_ok h2
  · split
    · exact inf_ok h2 hx.sgn
    · split
      · exact zero_ok h2 hx.sgn
      · have c:x.class_ = 1:=by have:=hx.cls; omega
        obtain ⟨m,em,m0,_⟩:=hx.mag c
        exact rnd_ok h2 hx.sgn (by omega)
theorem toV_ok {k:Int} {v:api.Value} (hk:NumK k ∨ k = v.Kind) (hv:NumK v.Kind ∨ k = v.Kind) (hn:I64 v.N) (ok:ValB v.Kind v.N) (h0:(toV k v).2 = 0):(toV k v).1.Kind = k ∧ I64 (toV k v).1.N ∧ ValB k (toV k v).1.N:=by
  unfold toV at *
  by_cases e:k = v.Kind
  · rw [if_pos e]; exact ⟨e.symm,hn,e ▸ ok⟩
  · have hk:=hk.resolve_right e
    have hv:=hv.resolve_right e
    unfold NumK at hk hv
    rw [if_neg e] at h0 ⊢
    by_cases h1:v.Kind = 1
    · rw [if_pos h1]
      have k34:k = 3 ∨ k = 4:=by omega
      have:=from_ok (kindS_of k34).ok v.N
      exact ⟨rfl,this.1,.inr (.inr ⟨k34,this.2⟩)⟩
    · rw [if_neg h1] at h0 ⊢
      have v34:v.Kind = 3 ∨ v.Kind = 4:=by omega
      by_cases k1:k = 1
      · rw [if_pos k1] at h0 ⊢
        by_cases q:(toS 1 (numS (kp v.Kind).1 (kp v.Kind).2 v.N)).2.2 ≠ 0
        · rw [if_pos q] at h0; cases h0
        · rw [if_neg q] at h0 ⊢
          unfold intV at h0 ⊢
          by_cases q2:-2147483647 ≤ (toS 1 (numS (kp v.Kind).1 (kp v.Kind).2 v.N)).1 ∧ (toS 1 (numS (kp v.Kind).1 (kp v.Kind).2 v.N)).1 ≤ 2147483647
          · rw [if_pos q2]
            refine ⟨k1.symm,⟨?_,?_⟩,.inl ⟨k1,q2⟩⟩
            · show -9223372036854775808 ≤ (toS 1 (numS (kp v.Kind).1 (kp v.Kind).2 v.N)).1; omega
            · show (toS 1 (numS (kp v.Kind).1 (kp v.Kind).2 v.N)).1 < 9223372036854775808; omega
          · rw [if_neg q2] at h0; cases h0
      · rw [if_neg k1]
        have k34:k = 3 ∨ k = 4:=by omega
        have:=conv_ok (kindS_of v34).ok (kindS_of k34).ok (numS_ok (kindS_of v34).ok v.N)
        exact ⟨rfl,this.1,.inr (.inr ⟨k34,this.2⟩)⟩
theorem toV_up {k:Int} {v:api.Value} (hk:k = 1 → v.Kind = 1):(toV k v).2 = 0:=by
  unfold toV
  split
  · rfl
  · split
    · rfl
    · rename_i h1
      rw [if_neg (fun q=>h1 (hk q))]
end Go.Q
namespace Go.Q
open Go
set_option maxRecDepth 100000
set_option maxHeartbeats 4000000
theorem q0:L (⟨#[43]⟩:ByteArray) = [43]:=rfl
theorem q1:L (⟨#[45]⟩:ByteArray) = [45]:=rfl
theorem q2:L (⟨#[42]⟩:ByteArray) = [42]:=rfl
theorem q3:L (⟨#[47]⟩:ByteArray) = [47]:=rfl
theorem q4:L (⟨#[61,61]⟩:ByteArray) = [61,61]:=rfl
theorem q5:L (⟨#[47,61]⟩:ByteArray) = [47,61]:=rfl
theorem q6:L (⟨#[60]⟩:ByteArray) = [60]:=rfl
theorem q7:L (⟨#[60,61]⟩:ByteArray) = [60,61]:=rfl
theorem q8:L (⟨#[62]⟩:ByteArray) = [62]:=rfl
theorem q9:L (⟨#[62,61]⟩:ByteArray) = [62,61]:=rfl
theorem q10:L (⟨#[46,97,110,100,46]⟩:ByteArray) = [46,97,110,100,46]:=rfl
theorem q11:L (⟨#[46,111,114,46]⟩:ByteArray) = [46,111,114,46]:=rfl
theorem q12:L (⟨#[46,110,111,116,46]⟩:ByteArray) = [46,110,111,116,46]:=rfl
def cmpZ (x y:Int):Int:=if x < y then -1 else if y < x then 1 else 0
noncomputable def cmpV (k x y:Int):Int:=if k = 3 ∨ k = 4 then cmpS (kp k).1 (kp k).2 x y (numS (kp k).1 (kp k).2 x) (numS (kp k).1 (kp k).2 y) else cmpZ x y
def topK (a b:api.Value):Int:=if b.Kind > a.Kind then b.Kind else a.Kind
theorem rCompared_eq {k x y:Int} (hk:k = 1 ∨ k = 2 ∨ k = 3 ∨ k = 4) (hx:I64 x) (hy:I64 y) (vx:ValB k x) (vy:ValB k y):Ref7.compared ⟨k,x⟩ ⟨k,y⟩ = some (cmpV k x y):=by
  unfold Ref7.compared cmpV
  simp only [letkE,rBytes_eq,bindS]
  by_cases h34:k = 3 ∨ k = 4
  · rw [if_pos h34,bytes_of h34]
    have hw:kw k > 0:=by rcases h34 with rfl | rfl <;> decide
    rw [decide_eq_true hw,condT,rCompare_eq (kindS_of h34) hx hy (val_float vx h34) (val_float vy h34),bindS]
  · rw [if_neg h34,if_neg (by omega),if_neg (by omega),show decide ((0:Int) > 0) = false from rfl,condF]
    unfold cmpZ
    by_cases c1:x < y
    · rw [decide_eq_true c1,condT,if_pos c1]
    · rw [decide_eq_false c1,condF,if_neg c1]
      by_cases c2:y < x
      · rw [decide_eq_true (show x > y from c2),condT,if_pos c2]
      · rw [decide_eq_false (show ¬ x > y from c2),condF,if_neg c2]
structure PairA (a b:api.Value) (k x y:Int):Prop where
  top:topK a b = k
  num:NumK k
  aa:Arr.to k a = some (⟨k,x⟩,0)
  ab:Arr.to k b = some (⟨k,y⟩,0)
  ix:I64 x
  iy:I64 y
  vx:ValB k x
  vy:ValB k y
structure Pair (a b:api.Value) (k x y:Int):Prop where
  p:PairA a b k x y
  ra:Ref7.brought k a = some (⟨k,x⟩,0)
  rb:Ref7.brought k b = some (⟨k,y⟩,0)
theorem value_eta {v:api.Value} {k n:Int} (h1:v.Kind = k) (h2:v.N = n):v = ⟨k,n⟩:=by cases v; subst h1 h2; rfl
section
variable {a b:api.Value} (ha:NumK a.Kind) (hb:NumK b.Kind) (ia:I64 a.N) (ib:I64 b.N) (va:ValB a.Kind a.N) (vb:ValB b.Kind b.N)
include ha hb ia ib va vb
theorem pair_facts:NumK (topK a b) ∧ toV (topK a b) a = (⟨topK a b,(toV (topK a b) a).1.N⟩,0) ∧ toV (topK a b) b = (⟨topK a b,(toV (topK a b) b).1.N⟩,0) ∧ I64 (toV (topK a b) a).1.N ∧ I64 (toV (topK a b) b).1.N ∧ ValB (topK a b) (toV (topK a b) a).1.N ∧ ValB (topK a b) (toV (topK a b) b).1.N:=by
  have hk:NumK (topK a b):=by unfold topK; split <;> assumption
  have ta:(toV (topK a b) a).2 = 0:=toV_up (fun q=>by unfold topK at q; unfold NumK at *; split at q <;> omega)
  have tb:(toV (topK a b) b).2 = 0:=toV_up (fun q=>by unfold topK at q; unfold NumK at *; split at q <;> omega)
  obtain ⟨a1,a2,a3⟩:=toV_ok (.inl hk) (.inl ha) ia va ta
  obtain ⟨b1,b2,b3⟩:=toV_ok (.inl hk) (.inl hb) ib vb tb
  exact ⟨hk,Prod.ext (value_eta a1 rfl) ta,Prod.ext (value_eta b1 rfl) tb,a2,b2,a3,b3⟩
theorem pairA_of:PairA a b (topK a b) (toV (topK a b) a).1.N (toV (topK a b) b).1.N:=by
  obtain ⟨hk,ea,eb,a2,b2,a3,b3⟩:=pair_facts ha hb ia ib va vb
  exact ⟨rfl,hk,(aTo_eq (.inl hk) (.inl ha) ia va).trans (congrArg some ea),(aTo_eq (.inl hk) (.inl hb) ib vb).trans (congrArg some eb),a2,b2,a3,b3⟩
theorem pair_of:Pair a b (topK a b) (toV (topK a b) a).1.N (toV (topK a b) b).1.N:=by
  obtain ⟨hk,ea,eb,a2,b2,a3,b3⟩:=pair_facts ha hb ia ib va vb
  exact ⟨pairA_of ha hb ia ib va vb,(rTo_eq (.inl hk) (.inl ha) ia va).trans (congrArg some ea),(rTo_eq (.inl hk) (.inl hb) ib vb).trans (congrArg some eb)⟩
end
theorem aCompared_eq {a b:api.Value} {k x y:Int} (h:PairA a b k x y):Arr.compared a b = some (cmpV k x y):=by
  obtain ⟨ht,hk,aa,ab,ix,iy,vx,vy⟩:=h
  unfold Arr.compared
  unfold topK at ht
  simp only [letkE,ht,b1]
  rw [show Arr.to k ⟨a.Kind,a.N⟩ = _ from aa,show Arr.to k ⟨b.Kind,b.N⟩ = _ from ab,bindS,bindS]
  dsimp only
  unfold cmpV
  unfold NumK at hk
  by_cases h1:k = 1
  · subst h1
    rw [show decide ((1:Int) = 1) = true from rfl,condT,if_neg (show ¬ ((1:Int) = 3 ∨ (1:Int) = 4) by decide)]
    have bx:-2147483647 ≤ x ∧ x ≤ 2147483647:=by unfold ValB at vx; omega
    have by_:-2147483647 ≤ y ∧ y ≤ 2147483647:=by unfold ValB at vy; omega
    rw [wi (x:=x - y) (by omega) (by omega)]
    unfold cmpZ
    congr 1
    split <;> split <;> (try split) <;> omega
  · have h34:k = 3 ∨ k = 4:=by omega
    rw [decide_eq_false h1,condF,if_pos h34,aBytes_eq,bindS,bytes_of h34,Compare_eq (kindS_of h34) (val_float vx h34) (val_float vy h34),bindS]
def lgV (b:Bool):api.Value:=⟨2,if b = true then 1 else 0⟩
theorem aLogical_eq (b:Bool):Arr.logical b = some (lgV b):=by cases b <;> rfl
theorem rTruth_eq (b:Bool):Ref7.truth b = some (lgV b):=by cases b <;> rfl
noncomputable def arV (i:Nat) (k x y:Int):api.Value × Int :=
  if k = 1 then (if i = 0 then intV (IntKind.i64.wrap (x + y)) else if i = 1 then intV (IntKind.i64.wrap (x - y)) else if i = 2 then intV (IntKind.i64.wrap (x * y)) else if y = 0 then (⟨0,0⟩,90) else intV (IntKind.i64.wrap (x.tdiv y)))
  else (⟨k,if i = 0 then (addS (kp k).1 (kp k).2 0 (numS (kp k).1 (kp k).2 x) (numS (kp k).1 (kp k).2 y)).1 else if i = 1 then (addS (kp k).1 (kp k).2 0 (numS (kp k).1 (kp k).2 x) (negN (numS (kp k).1 (kp k).2 y))).1
    else if i = 2 then (mulS (kp k).1 (kp k).2 0 (numS (kp k).1 (kp k).2 x) (numS (kp k).1 (kp k).2 y)).1 else (divS (kp k).1 (kp k).2 0 (numS (kp k).1 (kp k).2 x) (numS (kp k).1 (kp k).2 y)).1⟩,0)
def coV (i:Nat) (c:Int):Bool:=if i = 0 then decide (c = 0) else if i = 1 then !decide (c = 0) else if i = 2 then decide (c = -1) else if i = 3 then (decide (c = -1) || decide (c = 0)) else if i = 4 then decide (c = 1) else (decide (c = 1) || decide (c = 0))
theorem if3 (k:Int) (h:k = 3 ∨ k = 4):(if k = 3 then (4:Int) else if k = 4 then 8 else 0) > 0:=by rcases h with rfl | rfl <;> decide
theorem if1:(if (1:Int) = 3 then (4:Int) else if (1:Int) = 4 then 8 else 0) = 0:=rfl
section
variable {op:ByteArray} {a b:api.Value} {k x y:Int}
theorem aOne_pl (hL:L op = [43]) (h:PairA a b k x y):Arr.one op a b = some (arV 0 k x y):=by
  obtain ⟨ht,hk,aa,ab,ix,iy,vx,vy⟩:=h
  unfold topK at ht
  unfold Arr.one Arr.one.j1 Arr.reckon
  simp only [letkE,eqW,hL,q0,q1,q2,q3,q10,q11,show decide (([43]:List UInt8) = [45]) = false from rfl,show decide (([43]:List UInt8) = [42]) = false from rfl,show decide (([43]:List UInt8) = [47]) = false from rfl,show decide (([43]:List UInt8) = [46,97,110,100,46]) = false from rfl,show decide (([43]:List UInt8) = [46,111,114,46]) = false from rfl,decide_true,condT,condF,ht,b1]
  rw [show Arr.to k ⟨a.Kind,a.N⟩ = _ from aa,show Arr.to k ⟨b.Kind,b.N⟩ = _ from ab,bindS,bindS]
  dsimp only
  unfold NumK at hk
  unfold arV
  by_cases h1:k = 1
  · rw [decide_eq_true h1,condT,if_pos h1]
    rw [aInteger_eq,bindS]; rfl
  · have h34:k = 3 ∨ k = 4:=by omega
    rw [decide_eq_false h1,condF,if_neg h1,aBytes_eq,bindS,bytes_of h34,Add_eq (kindS_of h34) (by decide) (val_float vx h34) (val_float vy h34),bindS,bindS]
    rfl
theorem rOne_pl (hL:L op = [43]) (h:Pair a b k x y):Ref7.one op a b = some (arV 0 k x y):=by
  obtain ⟨⟨ht,hk,aa,ab,ix,iy,vx,vy⟩,ra,rb⟩:=h
  unfold topK at ht
  have hk4:k = 1 ∨ k = 2 ∨ k = 3 ∨ k = 4:=by unfold NumK at hk; omega
  unfold Ref7.one
  simp only [letkE,eqW,hL,q0,q1,q2,q4,q5,q6,q7,q8,q9,q10,q11,show decide (([43]:List UInt8) = [45]) = false from rfl,show decide (([43]:List UInt8) = [42]) = false from rfl,show decide (([43]:List UInt8) = [61,61]) = false from rfl,show decide (([43]:List UInt8) = [47,61]) = false from rfl,show decide (([43]:List UInt8) = [60]) = false from rfl,show decide (([43]:List UInt8) = [60,61]) = false from rfl,show decide (([43]:List UInt8) = [62]) = false from rfl,show decide (([43]:List UInt8) = [62,61]) = false from rfl,show decide (([43]:List UInt8) = [46,97,110,100,46]) = false from rfl,show decide (([43]:List UInt8) = [46,111,114,46]) = false from rfl,decide_true,condT,condF,ht,b1]
  rw [show Ref7.brought k ⟨a.Kind,a.N⟩ = _ from ra,show Ref7.brought k ⟨b.Kind,b.N⟩ = _ from rb,bindS,bindS]
  dsimp only
  rw [rCompared_eq hk4 ix iy vx vy,bindS,rBytes_eq,bindS]
  unfold NumK at hk
  unfold arV
  by_cases h1:k = 1
  · rw [if_pos h1]
    subst h1
    rw [if1,show decide ((0:Int) > 0) = false from rfl,condF]
    rw [rWhole_eq,bindS]; rfl
  · have h34:k = 3 ∨ k = 4:=by omega
    rw [if_neg h1,decide_eq_true (if3 k h34),condT,bytes_of h34,rAdd_eq (kindS_of h34) (by decide) ix iy (val_float vx h34) (val_float vy h34),bindS]
    rfl
theorem aOne_mi (hL:L op = [45]) (h:PairA a b k x y):Arr.one op a b = some (arV 1 k x y):=by
  obtain ⟨ht,hk,aa,ab,ix,iy,vx,vy⟩:=h
  unfold topK at ht
  unfold Arr.one Arr.one.j1 Arr.reckon
  simp only [letkE,eqW,hL,q0,q1,q2,q3,q10,q11,show decide (([45]:List UInt8) = [43]) = false from rfl,show decide (([45]:List UInt8) = [42]) = false from rfl,show decide (([45]:List UInt8) = [47]) = false from rfl,show decide (([45]:List UInt8) = [46,97,110,100,46]) = false from rfl,show decide (([45]:List UInt8) = [46,111,114,46]) = false from rfl,decide_true,condT,condF,ht,b1]
  rw [show Arr.to k ⟨a.Kind,a.N⟩ = _ from aa,show Arr.to k ⟨b.Kind,b.N⟩ = _ from ab,bindS,bindS]
  dsimp only
  unfold NumK at hk
  unfold arV
  by_cases h1:k = 1
  · rw [decide_eq_true h1,condT,if_pos h1]
    rw [aInteger_eq,bindS]; rfl
  · have h34:k = 3 ∨ k = 4:=by omega
    rw [decide_eq_false h1,condF,if_neg h1,aBytes_eq,bindS,bytes_of h34,Sub_eq (kindS_of h34) (by decide) (val_float vx h34) (val_float vy h34),bindS,bindS]
    rfl
theorem rOne_mi (hL:L op = [45]) (h:Pair a b k x y):Ref7.one op a b = some (arV 1 k x y):=by
  obtain ⟨⟨ht,hk,aa,ab,ix,iy,vx,vy⟩,ra,rb⟩:=h
  unfold topK at ht
  have hk4:k = 1 ∨ k = 2 ∨ k = 3 ∨ k = 4:=by unfold NumK at hk; omega
  unfold Ref7.one
  simp only [letkE,eqW,hL,q0,q1,q2,q4,q5,q6,q7,q8,q9,q10,q11,show decide (([45]:List UInt8) = [43]) = false from rfl,show decide (([45]:List UInt8) = [42]) = false from rfl,show decide (([45]:List UInt8) = [61,61]) = false from rfl,show decide (([45]:List UInt8) = [47,61]) = false from rfl,show decide (([45]:List UInt8) = [60]) = false from rfl,show decide (([45]:List UInt8) = [60,61]) = false from rfl,show decide (([45]:List UInt8) = [62]) = false from rfl,show decide (([45]:List UInt8) = [62,61]) = false from rfl,show decide (([45]:List UInt8) = [46,97,110,100,46]) = false from rfl,show decide (([45]:List UInt8) = [46,111,114,46]) = false from rfl,decide_true,condT,condF,ht,b1]
  rw [show Ref7.brought k ⟨a.Kind,a.N⟩ = _ from ra,show Ref7.brought k ⟨b.Kind,b.N⟩ = _ from rb,bindS,bindS]
  dsimp only
  rw [rCompared_eq hk4 ix iy vx vy,bindS,rBytes_eq,bindS]
  unfold NumK at hk
  unfold arV
  by_cases h1:k = 1
  · rw [if_pos h1]
    subst h1
    rw [if1,show decide ((0:Int) > 0) = false from rfl,condF]
    rw [rWhole_eq,bindS]; rfl
  · have h34:k = 3 ∨ k = 4:=by omega
    rw [if_neg h1,decide_eq_true (if3 k h34),condT,bytes_of h34,rSub_eq (kindS_of h34) (by decide) ix iy (val_float vx h34) (val_float vy h34),bindS]
    rfl
theorem aOne_st (hL:L op = [42]) (h:PairA a b k x y):Arr.one op a b = some (arV 2 k x y):=by
  obtain ⟨ht,hk,aa,ab,ix,iy,vx,vy⟩:=h
  unfold topK at ht
  unfold Arr.one Arr.one.j1 Arr.reckon
  simp only [letkE,eqW,hL,q0,q1,q2,q3,q10,q11,show decide (([42]:List UInt8) = [43]) = false from rfl,show decide (([42]:List UInt8) = [45]) = false from rfl,show decide (([42]:List UInt8) = [47]) = false from rfl,show decide (([42]:List UInt8) = [46,97,110,100,46]) = false from rfl,show decide (([42]:List UInt8) = [46,111,114,46]) = false from rfl,decide_true,condT,condF,ht,b1]
  rw [show Arr.to k ⟨a.Kind,a.N⟩ = _ from aa,show Arr.to k ⟨b.Kind,b.N⟩ = _ from ab,bindS,bindS]
  dsimp only
  unfold NumK at hk
  unfold arV
  by_cases h1:k = 1
  · rw [decide_eq_true h1,condT,if_pos h1]
    rw [aInteger_eq,bindS]; rfl
  · have h34:k = 3 ∨ k = 4:=by omega
    rw [decide_eq_false h1,condF,if_neg h1,aBytes_eq,bindS,bytes_of h34,Mul_eq (kindS_of h34) (by decide) (val_float vx h34) (val_float vy h34),bindS,bindS]
    rfl
theorem rOne_st (hL:L op = [42]) (h:Pair a b k x y):Ref7.one op a b = some (arV 2 k x y):=by
  obtain ⟨⟨ht,hk,aa,ab,ix,iy,vx,vy⟩,ra,rb⟩:=h
  unfold topK at ht
  have hk4:k = 1 ∨ k = 2 ∨ k = 3 ∨ k = 4:=by unfold NumK at hk; omega
  unfold Ref7.one
  simp only [letkE,eqW,hL,q0,q1,q2,q4,q5,q6,q7,q8,q9,q10,q11,show decide (([42]:List UInt8) = [43]) = false from rfl,show decide (([42]:List UInt8) = [45]) = false from rfl,show decide (([42]:List UInt8) = [61,61]) = false from rfl,show decide (([42]:List UInt8) = [47,61]) = false from rfl,show decide (([42]:List UInt8) = [60]) = false from rfl,show decide (([42]:List UInt8) = [60,61]) = false from rfl,show decide (([42]:List UInt8) = [62]) = false from rfl,show decide (([42]:List UInt8) = [62,61]) = false from rfl,show decide (([42]:List UInt8) = [46,97,110,100,46]) = false from rfl,show decide (([42]:List UInt8) = [46,111,114,46]) = false from rfl,decide_true,condT,condF,ht,b1]
  rw [show Ref7.brought k ⟨a.Kind,a.N⟩ = _ from ra,show Ref7.brought k ⟨b.Kind,b.N⟩ = _ from rb,bindS,bindS]
  dsimp only
  rw [rCompared_eq hk4 ix iy vx vy,bindS,rBytes_eq,bindS]
  unfold NumK at hk
  unfold arV
  by_cases h1:k = 1
  · rw [if_pos h1]
    subst h1
    rw [if1,show decide ((0:Int) > 0) = false from rfl,condF]
    rw [rWhole_eq,bindS]; rfl
  · have h34:k = 3 ∨ k = 4:=by omega
    rw [if_neg h1,decide_eq_true (if3 k h34),condT,bytes_of h34,rMul_eq (kindS_of h34) (by decide) ix iy (val_float vx h34) (val_float vy h34),bindS]
    rfl
theorem aOne_sl (hL:L op = [47]) (h:PairA a b k x y):Arr.one op a b = some (arV 3 k x y):=by
  obtain ⟨ht,hk,aa,ab,ix,iy,vx,vy⟩:=h
  unfold topK at ht
  unfold Arr.one Arr.one.j1 Arr.reckon
  simp only [letkE,eqW,hL,q0,q1,q2,q3,q10,q11,show decide (([47]:List UInt8) = [43]) = false from rfl,show decide (([47]:List UInt8) = [45]) = false from rfl,show decide (([47]:List UInt8) = [42]) = false from rfl,show decide (([47]:List UInt8) = [46,97,110,100,46]) = false from rfl,show decide (([47]:List UInt8) = [46,111,114,46]) = false from rfl,decide_true,condT,condF,ht,b1]
  rw [show Arr.to k ⟨a.Kind,a.N⟩ = _ from aa,show Arr.to k ⟨b.Kind,b.N⟩ = _ from ab,bindS,bindS]
  dsimp only
  unfold NumK at hk
  unfold arV
  by_cases h1:k = 1
  · rw [decide_eq_true h1,condT,if_pos h1]
    by_cases h0:y = 0
    · rw [decide_eq_true h0,condT,if_neg (by decide),if_neg (by decide),if_neg (by decide),if_pos h0]; rfl
    · rw [decide_eq_false h0,condF,chk_pos h0,aInteger_eq,bindS,if_neg (by decide),if_neg (by decide),if_neg (by decide),if_neg h0]; rfl
  · have h34:k = 3 ∨ k = 4:=by omega
    rw [decide_eq_false h1,condF,if_neg h1,aBytes_eq,bindS,bytes_of h34,Div_eq (kindS_of h34) (by decide) (val_float vx h34) (val_float vy h34),bindS,bindS]
    rfl
theorem rOne_sl (hL:L op = [47]) (h:Pair a b k x y):Ref7.one op a b = some (arV 3 k x y):=by
  obtain ⟨⟨ht,hk,aa,ab,ix,iy,vx,vy⟩,ra,rb⟩:=h
  unfold topK at ht
  have hk4:k = 1 ∨ k = 2 ∨ k = 3 ∨ k = 4:=by unfold NumK at hk; omega
  unfold Ref7.one
  simp only [letkE,eqW,hL,q0,q1,q2,q4,q5,q6,q7,q8,q9,q10,q11,show decide (([47]:List UInt8) = [43]) = false from rfl,show decide (([47]:List UInt8) = [45]) = false from rfl,show decide (([47]:List UInt8) = [42]) = false from rfl,show decide (([47]:List UInt8) = [61,61]) = false from rfl,show decide (([47]:List UInt8) = [47,61]) = false from rfl,show decide (([47]:List UInt8) = [60]) = false from rfl,show decide (([47]:List UInt8) = [60,61]) = false from rfl,show decide (([47]:List UInt8) = [62]) = false from rfl,show decide (([47]:List UInt8) = [62,61]) = false from rfl,show decide (([47]:List UInt8) = [46,97,110,100,46]) = false from rfl,show decide (([47]:List UInt8) = [46,111,114,46]) = false from rfl,condF,ht,b1]
  rw [show Ref7.brought k ⟨a.Kind,a.N⟩ = _ from ra,show Ref7.brought k ⟨b.Kind,b.N⟩ = _ from rb,bindS,bindS]
  dsimp only
  rw [rCompared_eq hk4 ix iy vx vy,bindS,rBytes_eq,bindS]
  unfold NumK at hk
  unfold arV
  by_cases h1:k = 1
  · rw [if_pos h1]
    subst h1
    rw [if1,show decide ((0:Int) > 0) = false from rfl,condF]
    by_cases h0:y = 0
    · rw [decide_eq_true h0,condT,if_neg (by decide),if_neg (by decide),if_neg (by decide),if_pos h0]
    · rw [decide_eq_false h0,condF,chk_pos h0,rWhole_eq,bindS,if_neg (by decide),if_neg (by decide),if_neg (by decide),if_neg h0]
  · have h34:k = 3 ∨ k = 4:=by omega
    rw [if_neg h1,decide_eq_true (if3 k h34),condT,bytes_of h34,rDiv_eq (kindS_of h34) (by decide) ix iy (val_float vx h34) (val_float vy h34),bindS]
    rfl
theorem aOne_eq (hL:L op = [61,61]) (h:PairA a b k x y) (ha:a.Kind ≠ 2):Arr.one op a b = some (lgV (coV 0 (cmpV k x y)),0):=by
  unfold Arr.one Arr.one.j1 Arr.one.j0 Arr.holds
  simp only [letkE,eqW,hL,q0,q1,q2,q3,q4,q5,q6,q7,q8,q10,q11,show decide (([61,61]:List UInt8) = [43]) = false from rfl,show decide (([61,61]:List UInt8) = [45]) = false from rfl,show decide (([61,61]:List UInt8) = [42]) = false from rfl,show decide (([61,61]:List UInt8) = [47]) = false from rfl,show decide (([61,61]:List UInt8) = [47,61]) = false from rfl,show decide (([61,61]:List UInt8) = [60]) = false from rfl,show decide (([61,61]:List UInt8) = [60,61]) = false from rfl,show decide (([61,61]:List UInt8) = [62]) = false from rfl,show decide (([61,61]:List UInt8) = [46,97,110,100,46]) = false from rfl,show decide (([61,61]:List UInt8) = [46,111,114,46]) = false from rfl,decide_true,condT,condF,b1,nb1,decide_eq_false ha]
  rw [show Arr.compared ⟨a.Kind,a.N⟩ ⟨b.Kind,b.N⟩ = _ from aCompared_eq h,bindS]
  generalize cmpV k x y = c
  rw [bindS,aLogical_eq,bindS]; rfl
theorem rOne_eq (hL:L op = [61,61]) (h:Pair a b k x y):Ref7.one op a b = some (lgV (coV 0 (cmpV k x y)),0):=by
  obtain ⟨⟨ht,hk,aa,ab,ix,iy,vx,vy⟩,ra,rb⟩:=h
  unfold topK at ht
  have hk4:k = 1 ∨ k = 2 ∨ k = 3 ∨ k = 4:=by unfold NumK at hk; omega
  unfold Ref7.one
  simp only [letkE,eqW,hL,q0,q1,q2,q4,q5,q6,q7,q8,q9,q10,q11,show decide (([61,61]:List UInt8) = [43]) = false from rfl,show decide (([61,61]:List UInt8) = [45]) = false from rfl,show decide (([61,61]:List UInt8) = [42]) = false from rfl,show decide (([61,61]:List UInt8) = [47,61]) = false from rfl,show decide (([61,61]:List UInt8) = [60]) = false from rfl,show decide (([61,61]:List UInt8) = [60,61]) = false from rfl,show decide (([61,61]:List UInt8) = [62]) = false from rfl,show decide (([61,61]:List UInt8) = [62,61]) = false from rfl,show decide (([61,61]:List UInt8) = [46,97,110,100,46]) = false from rfl,show decide (([61,61]:List UInt8) = [46,111,114,46]) = false from rfl,decide_true,condT,condF,ht,b1,nb1,rTruth_eq]
  rw [show Ref7.brought k ⟨a.Kind,a.N⟩ = _ from ra,show Ref7.brought k ⟨b.Kind,b.N⟩ = _ from rb,bindS,bindS]
  dsimp only
  rw [rCompared_eq hk4 ix iy vx vy,bindS]
  generalize cmpV k x y = c
  rw [bindS]; rfl
theorem aOne_ne (hL:L op = [47,61]) (h:PairA a b k x y) (ha:a.Kind ≠ 2):Arr.one op a b = some (lgV (coV 1 (cmpV k x y)),0):=by
  unfold Arr.one Arr.one.j1 Arr.one.j0 Arr.holds
  simp only [letkE,eqW,hL,q0,q1,q2,q3,q4,q5,q6,q7,q8,q10,q11,show decide (([47,61]:List UInt8) = [43]) = false from rfl,show decide (([47,61]:List UInt8) = [45]) = false from rfl,show decide (([47,61]:List UInt8) = [42]) = false from rfl,show decide (([47,61]:List UInt8) = [47]) = false from rfl,show decide (([47,61]:List UInt8) = [61,61]) = false from rfl,show decide (([47,61]:List UInt8) = [60]) = false from rfl,show decide (([47,61]:List UInt8) = [60,61]) = false from rfl,show decide (([47,61]:List UInt8) = [62]) = false from rfl,show decide (([47,61]:List UInt8) = [46,97,110,100,46]) = false from rfl,show decide (([47,61]:List UInt8) = [46,111,114,46]) = false from rfl,decide_true,condT,condF,b1,nb1,decide_eq_false ha]
  rw [show Arr.compared ⟨a.Kind,a.N⟩ ⟨b.Kind,b.N⟩ = _ from aCompared_eq h,bindS]
  generalize cmpV k x y = c
  rw [bindS,aLogical_eq,bindS]; rfl
theorem rOne_ne (hL:L op = [47,61]) (h:Pair a b k x y):Ref7.one op a b = some (lgV (coV 1 (cmpV k x y)),0):=by
  obtain ⟨⟨ht,hk,aa,ab,ix,iy,vx,vy⟩,ra,rb⟩:=h
  unfold topK at ht
  have hk4:k = 1 ∨ k = 2 ∨ k = 3 ∨ k = 4:=by unfold NumK at hk; omega
  unfold Ref7.one
  simp only [letkE,eqW,hL,q0,q1,q2,q4,q5,q6,q7,q8,q9,q10,q11,show decide (([47,61]:List UInt8) = [43]) = false from rfl,show decide (([47,61]:List UInt8) = [45]) = false from rfl,show decide (([47,61]:List UInt8) = [42]) = false from rfl,show decide (([47,61]:List UInt8) = [61,61]) = false from rfl,show decide (([47,61]:List UInt8) = [60]) = false from rfl,show decide (([47,61]:List UInt8) = [60,61]) = false from rfl,show decide (([47,61]:List UInt8) = [62]) = false from rfl,show decide (([47,61]:List UInt8) = [62,61]) = false from rfl,show decide (([47,61]:List UInt8) = [46,97,110,100,46]) = false from rfl,show decide (([47,61]:List UInt8) = [46,111,114,46]) = false from rfl,decide_true,condT,condF,ht,b1,nb1,rTruth_eq]
  rw [show Ref7.brought k ⟨a.Kind,a.N⟩ = _ from ra,show Ref7.brought k ⟨b.Kind,b.N⟩ = _ from rb,bindS,bindS]
  dsimp only
  rw [rCompared_eq hk4 ix iy vx vy,bindS]
  generalize cmpV k x y = c
  rw [bindS]; rfl
theorem aOne_lt (hL:L op = [60]) (h:PairA a b k x y) (ha:a.Kind ≠ 2):Arr.one op a b = some (lgV (coV 2 (cmpV k x y)),0):=by
  unfold Arr.one Arr.one.j1 Arr.one.j0 Arr.holds
  simp only [letkE,eqW,hL,q0,q1,q2,q3,q4,q5,q6,q7,q8,q10,q11,show decide (([60]:List UInt8) = [43]) = false from rfl,show decide (([60]:List UInt8) = [45]) = false from rfl,show decide (([60]:List UInt8) = [42]) = false from rfl,show decide (([60]:List UInt8) = [47]) = false from rfl,show decide (([60]:List UInt8) = [61,61]) = false from rfl,show decide (([60]:List UInt8) = [47,61]) = false from rfl,show decide (([60]:List UInt8) = [60,61]) = false from rfl,show decide (([60]:List UInt8) = [62]) = false from rfl,show decide (([60]:List UInt8) = [46,97,110,100,46]) = false from rfl,show decide (([60]:List UInt8) = [46,111,114,46]) = false from rfl,decide_true,condT,condF,b1,nb1,decide_eq_false ha]
  rw [show Arr.compared ⟨a.Kind,a.N⟩ ⟨b.Kind,b.N⟩ = _ from aCompared_eq h,bindS]
  generalize cmpV k x y = c
  rw [bindS,aLogical_eq,bindS]; rfl
theorem rOne_lt (hL:L op = [60]) (h:Pair a b k x y):Ref7.one op a b = some (lgV (coV 2 (cmpV k x y)),0):=by
  obtain ⟨⟨ht,hk,aa,ab,ix,iy,vx,vy⟩,ra,rb⟩:=h
  unfold topK at ht
  have hk4:k = 1 ∨ k = 2 ∨ k = 3 ∨ k = 4:=by unfold NumK at hk; omega
  unfold Ref7.one
  simp only [letkE,eqW,hL,q0,q1,q2,q4,q5,q6,q7,q8,q9,q10,q11,show decide (([60]:List UInt8) = [43]) = false from rfl,show decide (([60]:List UInt8) = [45]) = false from rfl,show decide (([60]:List UInt8) = [42]) = false from rfl,show decide (([60]:List UInt8) = [61,61]) = false from rfl,show decide (([60]:List UInt8) = [47,61]) = false from rfl,show decide (([60]:List UInt8) = [60,61]) = false from rfl,show decide (([60]:List UInt8) = [62]) = false from rfl,show decide (([60]:List UInt8) = [62,61]) = false from rfl,show decide (([60]:List UInt8) = [46,97,110,100,46]) = false from rfl,show decide (([60]:List UInt8) = [46,111,114,46]) = false from rfl,decide_true,condT,condF,ht,b1,nb1,rTruth_eq]
  rw [show Ref7.brought k ⟨a.Kind,a.N⟩ = _ from ra,show Ref7.brought k ⟨b.Kind,b.N⟩ = _ from rb,bindS,bindS]
  dsimp only
  rw [rCompared_eq hk4 ix iy vx vy,bindS]
  generalize cmpV k x y = c
  rw [bindS]; rfl
theorem aOne_le (hL:L op = [60,61]) (h:PairA a b k x y) (ha:a.Kind ≠ 2):Arr.one op a b = some (lgV (coV 3 (cmpV k x y)),0):=by
  unfold Arr.one Arr.one.j1 Arr.one.j0 Arr.holds
  simp only [letkE,eqW,hL,q0,q1,q2,q3,q4,q5,q6,q7,q8,q10,q11,show decide (([60,61]:List UInt8) = [43]) = false from rfl,show decide (([60,61]:List UInt8) = [45]) = false from rfl,show decide (([60,61]:List UInt8) = [42]) = false from rfl,show decide (([60,61]:List UInt8) = [47]) = false from rfl,show decide (([60,61]:List UInt8) = [61,61]) = false from rfl,show decide (([60,61]:List UInt8) = [47,61]) = false from rfl,show decide (([60,61]:List UInt8) = [60]) = false from rfl,show decide (([60,61]:List UInt8) = [62]) = false from rfl,show decide (([60,61]:List UInt8) = [46,97,110,100,46]) = false from rfl,show decide (([60,61]:List UInt8) = [46,111,114,46]) = false from rfl,decide_true,condT,condF,b1,nb1,decide_eq_false ha]
  rw [show Arr.compared ⟨a.Kind,a.N⟩ ⟨b.Kind,b.N⟩ = _ from aCompared_eq h,bindS]
  generalize cmpV k x y = c
  cases h1:decide (c = -1)
  · rw [condF,bindS,aLogical_eq,bindS]; unfold coV; simp only [h1]; rfl
  · rw [condT,bindS,aLogical_eq,bindS]; unfold coV; simp only [h1]; rfl
theorem rOne_le (hL:L op = [60,61]) (h:Pair a b k x y):Ref7.one op a b = some (lgV (coV 3 (cmpV k x y)),0):=by
  obtain ⟨⟨ht,hk,aa,ab,ix,iy,vx,vy⟩,ra,rb⟩:=h
  unfold topK at ht
  have hk4:k = 1 ∨ k = 2 ∨ k = 3 ∨ k = 4:=by unfold NumK at hk; omega
  unfold Ref7.one
  simp only [letkE,eqW,hL,q0,q1,q2,q4,q5,q6,q7,q8,q9,q10,q11,show decide (([60,61]:List UInt8) = [43]) = false from rfl,show decide (([60,61]:List UInt8) = [45]) = false from rfl,show decide (([60,61]:List UInt8) = [42]) = false from rfl,show decide (([60,61]:List UInt8) = [61,61]) = false from rfl,show decide (([60,61]:List UInt8) = [47,61]) = false from rfl,show decide (([60,61]:List UInt8) = [60]) = false from rfl,show decide (([60,61]:List UInt8) = [62]) = false from rfl,show decide (([60,61]:List UInt8) = [62,61]) = false from rfl,show decide (([60,61]:List UInt8) = [46,97,110,100,46]) = false from rfl,show decide (([60,61]:List UInt8) = [46,111,114,46]) = false from rfl,decide_true,condT,condF,ht,b1,nb1,rTruth_eq]
  rw [show Ref7.brought k ⟨a.Kind,a.N⟩ = _ from ra,show Ref7.brought k ⟨b.Kind,b.N⟩ = _ from rb,bindS,bindS]
  dsimp only
  rw [rCompared_eq hk4 ix iy vx vy,bindS]
  generalize cmpV k x y = c
  cases h1:decide (c = -1)
  · rw [condF,bindS]; unfold coV; simp only [h1]; rfl
  · rw [condT,bindS]; unfold coV; simp only [h1]; rfl
theorem aOne_gt (hL:L op = [62]) (h:PairA a b k x y) (ha:a.Kind ≠ 2):Arr.one op a b = some (lgV (coV 4 (cmpV k x y)),0):=by
  unfold Arr.one Arr.one.j1 Arr.one.j0 Arr.holds
  simp only [letkE,eqW,hL,q0,q1,q2,q3,q4,q5,q6,q7,q8,q10,q11,show decide (([62]:List UInt8) = [43]) = false from rfl,show decide (([62]:List UInt8) = [45]) = false from rfl,show decide (([62]:List UInt8) = [42]) = false from rfl,show decide (([62]:List UInt8) = [47]) = false from rfl,show decide (([62]:List UInt8) = [61,61]) = false from rfl,show decide (([62]:List UInt8) = [47,61]) = false from rfl,show decide (([62]:List UInt8) = [60]) = false from rfl,show decide (([62]:List UInt8) = [60,61]) = false from rfl,show decide (([62]:List UInt8) = [46,97,110,100,46]) = false from rfl,show decide (([62]:List UInt8) = [46,111,114,46]) = false from rfl,decide_true,condT,condF,b1,nb1,decide_eq_false ha]
  rw [show Arr.compared ⟨a.Kind,a.N⟩ ⟨b.Kind,b.N⟩ = _ from aCompared_eq h,bindS]
  generalize cmpV k x y = c
  rw [bindS,aLogical_eq,bindS]; rfl
theorem rOne_gt (hL:L op = [62]) (h:Pair a b k x y):Ref7.one op a b = some (lgV (coV 4 (cmpV k x y)),0):=by
  obtain ⟨⟨ht,hk,aa,ab,ix,iy,vx,vy⟩,ra,rb⟩:=h
  unfold topK at ht
  have hk4:k = 1 ∨ k = 2 ∨ k = 3 ∨ k = 4:=by unfold NumK at hk; omega
  unfold Ref7.one
  simp only [letkE,eqW,hL,q0,q1,q2,q4,q5,q6,q7,q8,q9,q10,q11,show decide (([62]:List UInt8) = [43]) = false from rfl,show decide (([62]:List UInt8) = [45]) = false from rfl,show decide (([62]:List UInt8) = [42]) = false from rfl,show decide (([62]:List UInt8) = [61,61]) = false from rfl,show decide (([62]:List UInt8) = [47,61]) = false from rfl,show decide (([62]:List UInt8) = [60]) = false from rfl,show decide (([62]:List UInt8) = [60,61]) = false from rfl,show decide (([62]:List UInt8) = [62,61]) = false from rfl,show decide (([62]:List UInt8) = [46,97,110,100,46]) = false from rfl,show decide (([62]:List UInt8) = [46,111,114,46]) = false from rfl,decide_true,condT,condF,ht,b1,nb1,rTruth_eq]
  rw [show Ref7.brought k ⟨a.Kind,a.N⟩ = _ from ra,show Ref7.brought k ⟨b.Kind,b.N⟩ = _ from rb,bindS,bindS]
  dsimp only
  rw [rCompared_eq hk4 ix iy vx vy,bindS]
  generalize cmpV k x y = c
  rw [bindS]; rfl
theorem aOne_ge (hL:L op = [62,61]) (h:PairA a b k x y) (ha:a.Kind ≠ 2):Arr.one op a b = some (lgV (coV 5 (cmpV k x y)),0):=by
  unfold Arr.one Arr.one.j1 Arr.one.j0 Arr.holds
  simp only [letkE,eqW,hL,q0,q1,q2,q3,q4,q5,q6,q7,q8,q10,q11,show decide (([62,61]:List UInt8) = [43]) = false from rfl,show decide (([62,61]:List UInt8) = [45]) = false from rfl,show decide (([62,61]:List UInt8) = [42]) = false from rfl,show decide (([62,61]:List UInt8) = [47]) = false from rfl,show decide (([62,61]:List UInt8) = [61,61]) = false from rfl,show decide (([62,61]:List UInt8) = [47,61]) = false from rfl,show decide (([62,61]:List UInt8) = [60]) = false from rfl,show decide (([62,61]:List UInt8) = [60,61]) = false from rfl,show decide (([62,61]:List UInt8) = [62]) = false from rfl,show decide (([62,61]:List UInt8) = [46,97,110,100,46]) = false from rfl,show decide (([62,61]:List UInt8) = [46,111,114,46]) = false from rfl,condT,condF,b1,nb1,decide_eq_false ha]
  rw [show Arr.compared ⟨a.Kind,a.N⟩ ⟨b.Kind,b.N⟩ = _ from aCompared_eq h,bindS]
  generalize cmpV k x y = c
  cases h1:decide (c = 0)
  · rw [condF,bindS,aLogical_eq,bindS]; unfold coV; simp only [h1,Bool.or_false]; rfl
  · rw [condT,bindS,aLogical_eq,bindS]; unfold coV; simp only [h1,Bool.or_true]; rfl
theorem rOne_ge (hL:L op = [62,61]) (h:Pair a b k x y):Ref7.one op a b = some (lgV (coV 5 (cmpV k x y)),0):=by
  obtain ⟨⟨ht,hk,aa,ab,ix,iy,vx,vy⟩,ra,rb⟩:=h
  unfold topK at ht
  have hk4:k = 1 ∨ k = 2 ∨ k = 3 ∨ k = 4:=by unfold NumK at hk; omega
  unfold Ref7.one
  simp only [letkE,eqW,hL,q0,q1,q2,q4,q5,q6,q7,q8,q9,q10,q11,show decide (([62,61]:List UInt8) = [43]) = false from rfl,show decide (([62,61]:List UInt8) = [45]) = false from rfl,show decide (([62,61]:List UInt8) = [42]) = false from rfl,show decide (([62,61]:List UInt8) = [61,61]) = false from rfl,show decide (([62,61]:List UInt8) = [47,61]) = false from rfl,show decide (([62,61]:List UInt8) = [60]) = false from rfl,show decide (([62,61]:List UInt8) = [60,61]) = false from rfl,show decide (([62,61]:List UInt8) = [62]) = false from rfl,show decide (([62,61]:List UInt8) = [46,97,110,100,46]) = false from rfl,show decide (([62,61]:List UInt8) = [46,111,114,46]) = false from rfl,decide_true,condT,condF,ht,b1,nb1,rTruth_eq]
  rw [show Ref7.brought k ⟨a.Kind,a.N⟩ = _ from ra,show Ref7.brought k ⟨b.Kind,b.N⟩ = _ from rb,bindS,bindS]
  dsimp only
  rw [rCompared_eq hk4 ix iy vx vy,bindS]
  generalize cmpV k x y = c
  cases h1:decide (c = 1)
  · rw [condF,bindS]; unfold coV; simp only [h1]; rfl
  · rw [condT,bindS]; unfold coV; simp only [h1]; rfl
end
end Go.Q
