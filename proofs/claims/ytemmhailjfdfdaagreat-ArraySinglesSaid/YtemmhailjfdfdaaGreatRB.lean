import Derived.Test.YtemmhailjfdfdaaGreatRA
namespace Go.Q
open Go
set_option maxRecDepth 100000
set_option maxHeartbeats 4000000
def classN (c:Int):ByteArray:=if c = 0 then ⟨#[122,101,114,111]⟩ else if c = 1 then ⟨#[102,105,110,105,116,101]⟩ else if c = 2 then ⟨#[105,110,102,105,110,105,116,101]⟩ else ⟨#[110,111,110,101]⟩
noncomputable def takS (x:float.number):quadratref01.float:=⟨classN x.class_,if x.class_ = 3 then 0 else x.sign,dg x.m.toNat,x.e⟩
structure NumZ (p w:Nat) (x:float.number):Prop extends NumOk p w x where
  nil:x.class_ ≠ 1 → x.m = 0 ∧ x.e = 0
theorem numS_z {p w:Nat} (h:OkS p w) (a:Int):NumZ p w (numS p w a):=by
  refine ⟨numS_ok h a,?_⟩
  unfold numS readS
  repeat' split
  all_goals first
    | exact fun _=>⟨rfl,rfl⟩
    | exact fun q=>absurd rfl q
theorem t_none:(⟨#[110,111,110,101]⟩:ByteArray).toList = [110,111,110,101]:=by rw [Lib.toList_data]
theorem t_inf:(⟨#[105,110,102,105,110,105,116,101]⟩:ByteArray).toList = [105,110,102,105,110,105,116,101]:=by rw [Lib.toList_data]
theorem t_zero:(⟨#[122,101,114,111]⟩:ByteArray).toList = [122,101,114,111]:=by rw [Lib.toList_data]
theorem t_fin:(⟨#[102,105,110,105,116,101]⟩:ByteArray).toList = [102,105,110,105,116,101]:=by rw [Lib.toList_data]
section
variable {c:Int} (hc:c = 0 ∨ c = 1 ∨ c = 2 ∨ c = 3)
include hc
theorem what_none:((classN c).toList == (⟨#[110,111,110,101]⟩:ByteArray).toList) = decide (c = 3):=by
  unfold classN
  rcases hc with rfl | rfl | rfl | rfl <;> simp only [t_none,t_inf,t_zero,t_fin,if_true,if_false,show ¬ ((1:Int) = 0) by decide,show ¬ ((2:Int) = 0) by decide,show ¬ ((3:Int) = 0) by decide,show ¬ ((2:Int) = 1) by decide,show ¬ ((3:Int) = 1) by decide,show ¬ ((3:Int) = 2) by decide] <;> rfl
theorem what_inf:((classN c).toList == (⟨#[105,110,102,105,110,105,116,101]⟩:ByteArray).toList) = decide (c = 2):=by
  unfold classN
  rcases hc with rfl | rfl | rfl | rfl <;> simp only [t_none,t_inf,t_zero,t_fin,if_true,if_false,show ¬ ((1:Int) = 0) by decide,show ¬ ((2:Int) = 0) by decide,show ¬ ((3:Int) = 0) by decide,show ¬ ((2:Int) = 1) by decide,show ¬ ((3:Int) = 1) by decide,show ¬ ((3:Int) = 2) by decide] <;> rfl
theorem what_zero:((classN c).toList == (⟨#[122,101,114,111]⟩:ByteArray).toList) = decide (c = 0):=by
  unfold classN
  rcases hc with rfl | rfl | rfl | rfl <;> simp only [t_none,t_inf,t_zero,t_fin,if_true,if_false,show ¬ ((1:Int) = 0) by decide,show ¬ ((2:Int) = 0) by decide,show ¬ ((3:Int) = 0) by decide,show ¬ ((2:Int) = 1) by decide,show ¬ ((3:Int) = 1) by decide,show ¬ ((3:Int) = 2) by decide] <;> rfl
end
def I64 (a:Int):Prop:=-9223372036854775808 ≤ a ∧ a < 9223372036854775808
theorem rValid_eq {kind:Int} {p w:Nat} (h:kindS kind p w) {a:Int} (ha:I64 a):Ref1.Valid kind a = some (@decide (bitsOk p w a) (Classical.propDecidable _)):=by
  unfold I64 at ha
  unfold Ref1.Valid bitsOk
  simp only [letkE]
  rcases h with ⟨rfl,rfl,rfl⟩ | ⟨rfl,rfl,rfl⟩ | ⟨rfl,rfl,rfl⟩
  · rw [show ((2:Int) == 2) = true from rfl,cond_true]
    by_cases h0:0 ≤ a
    · rw [decide_eq_true (show a ≥ 0 from h0),cond_true]
      congr 1
      rw [decide_eq_decide]
      have:(2:Nat) ^ (11 + 5) = 65536:=by decide
      omega
    · rw [decide_eq_false (show ¬ a ≥ 0 from h0),cond_false]
      congr 1
      symm
      rw [decide_eq_false_iff_not]
      have:(2:Nat) ^ (11 + 5) = 65536:=by decide
      omega
  · rw [show ((4:Int) == 2) = false from rfl,cond_false,show ((4:Int) == 4) = true from rfl,cond_true]
    by_cases h0:0 ≤ a
    · rw [decide_eq_true (show a ≥ 0 from h0),cond_true]
      congr 1
      rw [decide_eq_decide]
      have:(2:Nat) ^ (24 + 8) = 4294967296:=by decide
      omega
    · rw [decide_eq_false (show ¬ a ≥ 0 from h0),cond_false]
      congr 1
      symm
      rw [decide_eq_false_iff_not]
      have:(2:Nat) ^ (24 + 8) = 4294967296:=by decide
      omega
  · rw [show ((8:Int) == 2) = false from rfl,cond_false,show ((8:Int) == 4) = false from rfl,cond_false]
    congr 1
    rw [show ((8:Int) == 8) = true from rfl]
    symm
    exact @decide_eq_true _ (_) (by omega)
theorem asked_ok {kind mode:Int} {p w:Nat} (h:kindS kind p w) (hm:0 ≤ mode ∧ mode < 4) {a b:Int} (ha:I64 a) (hb:I64 b) (ka:bitsOk p w a) (kb:bitsOk p w b):Ref1.asked kind mode a b = some true:=by
  unfold Ref1.asked Ref1.IsMode
  rw [rValid_eq h ha,rValid_eq h hb,@decide_eq_true _ (_) ka,@decide_eq_true _ (_) kb]
  simp only [letkE]
  rw [decide_eq_true (show mode ≥ 0 from hm.1),decide_eq_true (show mode ≤ 3 by omega)]; rfl
theorem taken_eq {kind:Int} {p w:Nat} (h:kindS kind p w) {a:Int} (hb:bitsOk p w a):Ref1.taken kind a = some (takS (numS p w a)):=by
  obtain ⟨h1,h2,h3,h4,h5,h6⟩:=h.ok.facts
  obtain ⟨e1,e2⟩:=wrap_toNat a
  unfold numS
  generalize hu:(a % 18446744073709551616).toNat = u at *
  have hpw:u < 2 ^ (p + w):=by
    unfold bitsOk at hb
    rw [hu] at hb
    by_cases q:p + w < 64
    · by_cases q2:2 ^ (p + w) ≤ u
      · exact absurd ⟨q,q2⟩ hb
      · omega
    · rw [show p + w = 64 by omega,pow64]; exact e2
  have hE:expS p w u < 2 ^ w:=Nat.mod_lt _ (Nat.two_pow_pos w)
  have hF:frcS p u < 2 ^ (p - 1):=Nat.mod_lt _ (Nat.two_pow_pos _)
  have hS:sgnS p w u < 2:=Nat.mod_lt _ (by decide)
  have hp53:2 ^ p ≤ 2 ^ 53:=Nat.pow_le_pow_right (by decide) h4
  have hp53':(2:Nat) ^ 53 = 9007199254740992:=by decide
  have hpp:2 ^ p = 2 ^ (p - 1) * 2:=by rw [← Nat.pow_succ]; congr 1; omega
  have hw11:2 ^ w ≤ 2 ^ 11:=Nat.pow_le_pow_right (by decide) h5
  have hw11':(2:Nat) ^ 11 = 2048:=by decide
  have hp0:=Nat.two_pow_pos (p - 1)
  have hw0:=Nat.two_pow_pos w
  have hbb:0 ≤ biasS w ∧ biasS w < 2000:=by rcases h.ok with ⟨rfl,rfl⟩ | ⟨rfl,rfl⟩ | ⟨rfl,rfl⟩ <;> decide
  unfold Ref1.taken
  rw [Digits_eq h,h.eight,Option.bind_some]
  simp only [letkE,Option.bind_some]
  rw [wi (x:=((p + w:Nat):Int)) (by omega) (by omega),show ((p + w:Nat):Int) - (p:Int) = (w:Int) by omega,wi (x:=(w:Int)) (by omega) (by omega),wi (x:=(p:Int) - 1) (by omega) (by omega),wi (x:=((p + w:Nat):Int) - 1) (by omega) (by omega),e1]
  rw [chk_pos (by omega),chk_pos (by omega),chk_pos (by omega),chk_pos (by omega),chk_pos (by omega)]
  have hpm:2 ^ (p - 1) % 18446744073709551616 = 2 ^ (p - 1):=Nat.mod_eq_of_lt (by omega)
  have hwm:2 ^ w % 18446744073709551616 = 2 ^ w:=Nat.mod_eq_of_lt (by omega)
  rw [u_shl' (a:=1) (k:=p - 1) (x:=1) (y:=(p:Int) - 1) rfl (by omega),Nat.one_mul,hpm,u_shl' (a:=1) (k:=w) (x:=1) (y:=(w:Int)) rfl rfl,Nat.one_mul,hwm]
  rw [show ((2 ^ (p - 1):Nat):Int) - 1 = ((2 ^ (p - 1) - 1:Nat):Int) by omega,show ((2 ^ w:Nat):Int) - 1 = ((2 ^ w - 1:Nat):Int) by omega]
  rw [wnat (n:=2 ^ (p - 1) - 1) (by omega),wnat (n:=2 ^ w - 1) (by omega)]
  rw [u_shr' (a:=u) (k:=p - 1) (y:=(p:Int) - 1) rfl (by omega) e2,u_shr' (a:=u) (k:=p + w - 1) (y:=((p + w:Nat):Int) - 1) rfl (by omega) e2]
  have d1:u / 2 ^ (p - 1) < 18446744073709551616:=Nat.lt_of_le_of_lt (Nat.div_le_self _ _) e2
  have d2:u / 2 ^ (p + w - 1) < 18446744073709551616:=Nat.lt_of_le_of_lt (Nat.div_le_self _ _) e2
  rw [u_and' (a:=u) (b:=2 ^ (p - 1) - 1) rfl rfl e2 (by omega),Nat.and_two_pow_sub_one_eq_mod,u_and' (a:=u / 2 ^ (p - 1)) (b:=2 ^ w - 1) rfl rfl d1 (by omega),Nat.and_two_pow_sub_one_eq_mod,u_and' (a:=u / 2 ^ (p + w - 1)) (b:=1) (y:=1) rfl rfl d2 (by decide),Nat.and_one_is_mod]
  rw [show u % 2 ^ (p - 1) = frcS p u from rfl,show u / 2 ^ (p - 1) % 2 ^ w = expS p w u from rfl,show u / 2 ^ (p + w - 1) % 2 = sgnS p w u from rfl]
  rw [wi (x:=((frcS p u:Nat):Int)) (by omega) (by omega),wi (x:=((expS p w u:Nat):Int)) (by omega) (by omega),wi (x:=((sgnS p w u:Nat):Int)) (by omega) (by omega)]
  have hone:∀ k:Nat,k ≤ 53 → ∀ K:Int,K = k → IntKind.i64.wrap ((1:Int) * 2 ^ (min K.toNat IntKind.i64.bits)) = ((2 ^ k:Nat):Int):=by
    intro k hk K hK
    subst hK
    have h2k:2 ^ k ≤ 2 ^ 53:=Nat.pow_le_pow_right (by decide) hk
    have:((1:Int) * 2 ^ (min ((k:Int)).toNat IntKind.i64.bits)) = ((2 ^ k:Nat):Int):=by
      rw [Int.toNat_natCast,show min k IntKind.i64.bits = k from Nat.min_eq_left (by show k ≤ 64; omega)]
      rw [Int.one_mul,Int.natCast_pow]; rfl
    rw [this]
    clear this
    generalize 2 ^ k = z at *
    rw [wi (x:=(z:Int)) (by omega) (by omega)]
  rw [hone w (by omega) _ (by omega),wi (x:=((2 ^ w:Nat):Int) - 1) (by omega) (by omega)]
  have j2:∀ l:List Int,Ref1.taken.j2 kind p (frcS p u:Nat) (expS p w u:Nat) (sgnS p w u:Nat) l false = if expS p w u = 0 then some ⟨⟨#[102,105,110,105,116,101]⟩,(sgnS p w u:Nat),dg (frcS p u),lstS p w⟩ else some ⟨⟨#[102,105,110,105,116,101]⟩,(sgnS p w u:Nat),dg (frcS p u + 2 ^ (p - 1)),(expS p w u:Int) - biasS w - p + 1⟩:=by
    intro l
    unfold Ref1.taken.j2
    rw [cond_false]
    simp only [letkE]
    by_cases hz:expS p w u = 0
    · rw [if_pos hz,show (((expS p w u:Nat):Int) == 0) = true from by rw [hz]; rfl,cond_true,Of_eq (N:=frcS p u) (by omega) (wnat (by omega)),Option.bind_some,rleast_eq h]; rfl
    · rw [if_neg hz,show (((expS p w u:Nat):Int) == 0) = false from by rw [beq_eq_false_iff_ne]; omega,cond_false]
      unfold Ref1.taken.j0
      simp only [letkE]
      rw [wi (x:=(p:Int) - 1) (by omega) (by omega),chk_pos (by omega),hone (p - 1) (by omega) _ (by omega),wi (x:=((2 ^ (p - 1):Nat):Int) + ((frcS p u:Nat):Int)) (by omega) (by omega)]
      rw [show ((2 ^ (p - 1):Nat):Int) + ((frcS p u:Nat):Int) = ((frcS p u + 2 ^ (p - 1):Nat):Int) by omega,Of_eq (N:=frcS p u + 2 ^ (p - 1)) (by omega) (wnat (by omega)),Option.bind_some,Bias_eq h,Option.bind_some]
      rw [wi (x:=((expS p w u:Nat):Int) - biasS w) (by omega) (by omega),wi (x:=((expS p w u:Nat):Int) - biasS w - p) (by omega) (by omega),wi (x:=((expS p w u:Nat):Int) - biasS w - p + 1) (by omega) (by omega)]
  by_cases ht:expS p w u = 2 ^ w - 1
  · have hne:¬ expS p w u = 0:=by
      have:2 ^ 5 ≤ 2 ^ w:=Nat.pow_le_pow_right (by decide) h2
      have:(2:Nat) ^ 5 = 32:=by decide
      omega
    rw [show (((expS p w u:Nat):Int) == ((2 ^ w:Nat):Int) - 1) = true from by rw [beq_iff_eq]; omega,cond_true]
    by_cases hf:frcS p u = 0
    · have hR:readS p w u = ⟨2,sgnS p w u,0,0⟩:=by unfold readS; rw [if_pos ⟨ht,hf⟩]
      rw [show (((frcS p u:Nat):Int) == 0) = true from by rw [hf]; rfl,hR]
      rfl
    · have hR:readS p w u = ⟨3,sgnS p w u,0,0⟩:=by unfold readS; rw [if_neg (fun q=>hf q.2),if_pos ht]
      rw [show (((frcS p u:Nat):Int) == 0) = false from by rw [beq_eq_false_iff_ne]; omega,hR]
      unfold Ref1.taken.j1
      rw [cond_false]
      simp only [letkE]
      rw [chk_pos (by omega),hone w (by omega) _ (by omega),wi (x:=((2 ^ w:Nat):Int) - 1) (by omega) (by omega)]
      rw [show (((expS p w u:Nat):Int) == ((2 ^ w:Nat):Int) - 1) = true from by rw [beq_iff_eq]; omega,cond_true]; rfl
  · rw [show (((expS p w u:Nat):Int) == ((2 ^ w:Nat):Int) - 1) = false from by rw [beq_eq_false_iff_ne]; omega,cond_false]
    unfold Ref1.taken.j1
    rw [cond_false]
    simp only [letkE]
    rw [chk_pos (by omega),hone w (by omega) _ (by omega),wi (x:=((2 ^ w:Nat):Int) - 1) (by omega) (by omega)]
    rw [show (((expS p w u:Nat):Int) == ((2 ^ w:Nat):Int) - 1) = false from by rw [beq_eq_false_iff_ne]; omega,cond_false]
    by_cases hz:expS p w u = 0
    · rw [show (((expS p w u:Nat):Int) == 0) = true from by rw [hz]; rfl,cond_true]
      by_cases hf:frcS p u = 0
      · have hR:readS p w u = ⟨0,sgnS p w u,0,0⟩:=by unfold readS; rw [if_neg (fun q=>ht q.1),if_neg ht,if_pos ⟨hz,hf⟩]
        rw [show (((frcS p u:Nat):Int) == 0) = true from by rw [hf]; rfl,hR]; rfl
      · have hR:readS p w u = ⟨1,sgnS p w u,frcS p u,lstS p w⟩:=by unfold readS; rw [if_neg (fun q=>ht q.1),if_neg ht,if_neg (fun q=>hf q.2),if_pos hz]
        rw [show (((frcS p u:Nat):Int) == 0) = false from by rw [beq_eq_false_iff_ne]; omega,j2,if_pos hz,hR]; rfl
    · have hR:readS p w u = ⟨1,sgnS p w u,((frcS p u + 2 ^ (p - 1):Nat):Int),(expS p w u:Int) - biasS w - p + 1⟩:=by unfold readS; rw [if_neg (fun q=>ht q.1),if_neg ht,if_neg (fun q=>hz q.1),if_neg hz]
      rw [show (((expS p w u:Nat):Int) == 0) = false from by rw [beq_eq_false_iff_ne]; omega,cond_false,j2,if_neg hz,hR]; rfl
end Go.Q
namespace Go.Q
open Go
set_option maxRecDepth 100000
set_option maxHeartbeats 4000000
theorem fin_bounds {p w:Nat} (h:OkS p w) {x:float.number} (hx:NumZ p w x):(∃ m:Nat,x.m = m ∧ m < 2 ^ p) ∧ -2000 ≤ x.e ∧ x.e < 1024:=by
  have hb:0 ≤ biasS w ∧ biasS w < 1100:=by rcases h with ⟨rfl,rfl⟩ | ⟨rfl,rfl⟩ | ⟨rfl,rfl⟩ <;> decide
  obtain ⟨h1,h2,h3,h4,h5,h6⟩:=h.facts
  have hlst:lstS p w = 2 - biasS w - p:=rfl
  by_cases c:x.class_ = 1
  · obtain ⟨m,em,m0,m1,e0,e1,_⟩:=hx.mag c
    exact ⟨⟨m,em,m1⟩,by omega,by omega⟩
  · obtain ⟨a,b⟩:=hx.nil c
    exact ⟨⟨0,a,Nat.two_pow_pos p⟩,by omega,by omega⟩
theorem bl53 {p w m:Nat} (h:OkS p w) (hm:m < 2 ^ p):bl m ≤ 53:=by
  have:=bl_le_iff.2 hm
  have:=h.facts
  omega
end Go.Q
namespace Go.Q
open Go
set_option maxRecDepth 100000
set_option maxHeartbeats 4000000
section
variable {kind mode:Int} {p w:Nat} (h:kindS kind p w) (hm:0 ≤ mode ∧ mode < 4)
include h hm
end
end Go.Q
namespace Go.Q
open Go
set_option maxRecDepth 100000
set_option maxHeartbeats 4000000
section
variable {kind mode:Int} {p w:Nat} (h:kindS kind p w)
include h
theorem rFromInt_eq (hm:0 ≤ mode ∧ mode < 4) {n:Int} (hn:I64 n):Ref1.FromInt kind mode n = some ((fromS p w mode n).1,(fromS p w mode n).2,0):=by
  unfold I64 at hn
  have hp:=h.ok.facts
  unfold Ref1.FromInt Ref1.IsMode
  rw [Digits_eq h,bindS]
  simp only [letkE]
  rw [show ((p:Int) == 0) = false from by rw [beq_eq_false_iff_ne]; omega,condF,decide_eq_true (show mode ≥ 0 from hm.1),condT,decide_eq_true (show mode ≤ 3 by omega),bindS,Bool.not_true,condF]
  unfold Ref1.FromInt.j0 fromS
  simp only [letkE]
  by_cases c0:n = 0
  · subst c0
    rw [show ((0:Int) == 0) = true from rfl,condT,Zero_eq h (.inl rfl),if_pos rfl,bindS]
  · rw [show (n == 0) = false from beq_eq_false_iff_ne.2 c0,condF,if_neg c0]
    have hb:bl n.natAbs ≤ 64:=bl_le_iff.2 (by rw [pow64]; omega)
    by_cases c1:n < 0
    · rw [decide_eq_true c1,condT,if_pos c1]
      have e:IntKind.u64.wrap (IntKind.i64.wrap (0 - n)) = ((n.natAbs:Nat):Int):=by
        by_cases c2:n = -9223372036854775808
        · subst c2; rfl
        · rw [wi (x:=0 - n) (by omega) (by omega),wu (x:=0 - n) (by omega) (by omega)]; omega
      rw [Of_eq (N:=n.natAbs) (by omega) e,bindS,Rounded_eq h hm (.inr rfl) (by omega) (by omega) (by omega) (fun q=>by cases q),bindS]
    · rw [decide_eq_false c1,condF,if_neg c1]
      rw [Of_eq (N:=n.natAbs) (by omega) (by rw [wu (x:=n) (by omega) (by omega)]; omega),bindS,Rounded_eq h hm (.inl rfl) (by omega) (by omega) (by omega) (fun q=>by cases q),bindS]
theorem rConvert_eq {k2:Int} {p2 w2:Nat} (h':kindS k2 p2 w2) (hm:0 ≤ mode ∧ mode < 4) {a:Int} (ha:I64 a) (ka:bitsOk p w a) :
    Ref1.Convert kind k2 mode a = some ((convS p2 w2 mode (numS p w a)).1,(convS p2 w2 mode (numS p w a)).2,0):=by
  have hp:=h'.ok.facts
  unfold Ref1.Convert
  rw [asked_ok h hm ha ha ka ka,bindS,Digits_eq h']
  simp only [letkE,Bool.not_true,condF,bindS]
  rw [show ((p2:Int) == 0) = false from by rw [beq_eq_false_iff_ne]; omega,condF]
  unfold Ref1.Convert.j0
  rw [taken_eq h ka,bindS]
  have hx:=numS_z h.ok a
  generalize numS p w a = x at *
  have cx:=hx.cls
  have sx:=hx.sgn
  obtain ⟨⟨m,em,m1⟩,ex0,ex1⟩:=fin_bounds h.ok hx
  have hbm:=bl53 h.ok m1
  have eQ:=Quiet_eq h'
  have eI:∀ s:Int,(s = 0 ∨ s = 1) → Ref1.Infinite k2 s = some (infS p2 w2 s):=fun s hs=>Infinite_eq h' hs
  have eZ:∀ s:Int,(s = 0 ∨ s = 1) → Ref1.Zero k2 s = some (zeroS p2 w2 s):=fun s hs=>Zero_eq h' hs
  have px:x.class_ = 1 → 0 < m:=fun c=>by obtain ⟨m,em,m0,_⟩:=hx.mag c; omega
  unfold convS takS
  simp only [letkE,what_inf cx,what_zero cx,what_none cx]
  rcases cx with cx | cx | cx | cx <;> rw [cx] <;> simp only [condT,condF,decide_true,decide_false,show ((0:Int) = 2) = False by simp,show ((0:Int) = 3) = False by simp,show ((1:Int) = 0) = False by simp,show ((1:Int) = 2) = False by simp,show ((1:Int) = 3) = False by simp,show ((2:Int) = 0) = False by simp,show ((2:Int) = 3) = False by simp,show ((3:Int) = 0) = False by simp,show ((3:Int) = 2) = False by simp,if_true,if_false,eQ,eI _ sx,eZ _ sx,bindS]
  rw [em,Int.toNat_natCast,Rounded_eq h' hm sx (px cx) (by omega) (by omega) (fun q=>by cases q),bindS]
end
end Go.Q
namespace Go.Q
open Go
set_option maxRecDepth 100000
set_option maxHeartbeats 4000000
theorem numS_sign {p w:Nat} (a:Int):(numS p w a).sign = sgnS p w (a % 18446744073709551616).toNat:=by
  unfold numS readS
  repeat' split
  all_goals rfl
theorem cmpN_four (a b:Nat):cmpN (4 * a) (4 * b) = cmpN a b:=by
  unfold cmpN
  by_cases h1:a < b
  · rw [if_pos h1,if_pos (by omega)]
  · rw [if_neg h1,if_neg (by omega)]
    by_cases h2:b < a
    · rw [if_pos h2,if_pos (by omega)]
    · rw [if_neg h2,if_neg (by omega)]
theorem rToInt_j1 {sign:Int} {W:Nat} {flags:Int} (hs:sign = 0 ∨ sign = 1) (hW:bl W ≤ 2000) (a:ByteArray) (b:List Int) (c:Int) :
    Ref1.ToInt.j1 a sign b c (dg W) flags = some (if 9223372036854775808 < W ∨ (W = 9223372036854775808 ∧ sign = 0) then (0,0,10) else (if sign = 1 then -(W:Int) else W,flags,0)):=by
  unfold Ref1.ToInt.j1
  have e63:(1:Nat) * 2 ^ 63 = 9223372036854775808:=by decide
  rw [Of_eq (N:=1) (by decide) (x:=1) rfl,bindS,Up_eq (n:=1) (k:=63) (K:=63) rfl (by decide) (by decide),bindS,e63,Cmp_eq (by omega) (by have:bl 9223372036854775808 ≤ 64:=bl_le_iff.2 (by decide); omega),bindS]
  simp only [letkE]
  have j2:W ≤ 9223372036854775808 → (W = 9223372036854775808 → sign = 1) → Ref1.ToInt.j2 (dg W) flags a sign b c = some (if sign = 1 then -(W:Int) else W,flags,0):=by
    intro q1 q2
    unfold Ref1.ToInt.j2
    rw [Int_eq,bindS,Nat.mod_eq_of_lt (by omega)]
    simp only [letkE]
    rcases hs with rfl | rfl
    · rw [show ((0:Int) == 1) = false from rfl,condF,if_neg (by decide),wi (x:=(W:Int)) (by omega) (by have:=q2; omega)]
    · rw [show ((1:Int) == 1) = true from rfl,condT,if_pos rfl]
      have e:IntKind.i64.wrap (0 - IntKind.i64.wrap (W:Int)) = -(W:Int):=by
        by_cases q3:W = 9223372036854775808
        · subst q3; rfl
        · rw [wi (x:=(W:Int)) (by omega) (by omega),wi (by omega) (by omega)]; omega
      rw [e]
  unfold cmpN
  by_cases h1:W < 9223372036854775808
  · rw [if_pos h1,show decide ((-1:Int) > 0) = false from rfl,condF,show ((-1:Int) == 0) = false from rfl,condF,if_neg (show ¬ (9223372036854775808 < W ∨ (W = 9223372036854775808 ∧ sign = 0)) by omega),j2 (by omega) (by omega)]
  · rw [if_neg h1]
    by_cases h2:9223372036854775808 < W
    · rw [if_pos h2,show decide ((1:Int) > 0) = true from rfl,condT,if_pos (.inl h2)]
    · rw [if_neg h2,show decide ((0:Int) > 0) = false from rfl,condF,show ((0:Int) == 0) = true from rfl,condT]
      rcases hs with rfl | rfl
      · rw [show ((0:Int) == 0) = true from rfl,condT,if_pos (.inr ⟨by omega,rfl⟩)]
      · rw [show ((1:Int) == 0) = false from rfl,condF,if_neg (show ¬ (9223372036854775808 < W ∨ (W = 9223372036854775808 ∧ (1:Int) = 0)) by omega),j2 (by omega) (fun _=>rfl)]
section
variable {kind mode:Int} {p w:Nat} (h:kindS kind p w)
include h
theorem rToInt_eq (hm:0 ≤ mode ∧ mode < 4) {a:Int} (ha:I64 a) (ka:bitsOk p w a):Ref1.ToInt kind mode a = some (toS mode (numS p w a)):=by
  unfold Ref1.ToInt
  rw [asked_ok h hm ha ha ka ka,bindS,taken_eq h ka]
  have hx:=numS_z h.ok a
  generalize numS p w a = x at *
  have cx:=hx.cls
  obtain ⟨⟨m,em,m1⟩,ex0,ex1⟩:=fin_bounds h.ok hx
  have hbm:=bl53 h.ok m1
  simp only [letkE,Bool.not_true,condF,bindS]
  rw [show (takS x).what = classN x.class_ from rfl,what_none cx,what_inf cx]
  unfold Ref1.ToInt.j3
  simp only [letkE]
  rw [show (takS x).what = classN x.class_ from rfl,what_zero cx]
  unfold toS
  rcases cx with cx | cx | cx | cx
  · rw [cx]; rfl
  · obtain ⟨m',em',m0,_⟩:=hx.mag cx
    have sx:=hx.sgn
    have hm0:0 < m:=by omega
    have esg:(takS x).sign = x.sign:=by unfold takS; simp only; rw [if_neg (by rw [cx]; decide)]
    rw [cx]
    simp only [show decide ((1:Int) = 3) = false from rfl,show decide ((1:Int) = 2) = false from rfl,condF,decide_false,show ¬ ((1:Int) = 3 ∨ (1:Int) = 2) by decide,show ¬ ((1:Int) = 0) by decide,if_false]
    unfold Ref1.ToInt.j0
    simp only [letkE]
    rw [show (takS x).m = dg x.m.toNat from rfl,show (takS x).e = x.e from rfl,esg,em,Int.toNat_natCast]
    have e0:(if 0 > x.e then 0 else x.e) = (((max x.e 0).toNat:Nat):Int):=by split <;> omega
    rw [e0,Up_eq rfl (by omega) (by omega),bindS]
    by_cases he:0 ≤ x.e
    · have hw:wholeS m x.e = m * 2 ^ x.e.toNat:=by unfold wholeS; rw [if_pos he]
      have hr:wrestS m x.e = 0:=by unfold wrestS; rw [if_pos he]
      have hu:wupS mode x.sign m x.e = wholeS m x.e:=by unfold wupS; rw [hr,awayS_zero,if_neg (by decide)]
      rw [decide_eq_false (show ¬ x.e < 0 by omega),condF,show (max x.e 0).toNat = x.e.toNat by omega]
      rw [rToInt_j1 sx (by rw [bl_shift hm0]; omega),hu,hw,hr]
      try rfl
    · obtain ⟨n,hn⟩:=Int.eq_ofNat_of_zero_le (show 0 ≤ 0 - x.e by omega)
      have hnt:(-x.e).toNat = n:=by omega
      have hw:wholeS m x.e = m / 2 ^ n:=by unfold wholeS; rw [if_neg he,hnt]
      have hr:wrestS m x.e = restC m n false:=by unfold wrestS; rw [if_neg he,hnt]
      have hbd:bl (m / 2 ^ n) ≤ 53:=by have:=bl_mono (Nat.div_le_self m (2 ^ n)); omega
      have hdm:m - m / 2 ^ n * 2 ^ n = m % 2 ^ n:=by
        have:=Nat.div_add_mod m (2 ^ n)
        rw [Nat.mul_comm] at this
        omega
      have hbr:bl (m % 2 ^ n) ≤ 53:=by have:=bl_mono (Nat.mod_le m (2 ^ n)); omega
      rw [decide_eq_true (show x.e < 0 by omega),condT,wi (x:=0 - x.e) (by omega) (by omega),hn,Down_eq rfl (by omega),bindS,Up_eq rfl (by omega) (by omega),bindS,Minus_eq (Nat.div_mul_le_self _ _) (by omega),bindS,hdm,dg_len]
      have hz:=restC_zero_iff (N:=m) (n:=n) (by omega) false
      have hb0:=bl_zero_iff (n:=m % 2 ^ n)
      by_cases h0:m % 2 ^ n = 0
      · have hr0:restC m n false = 0:=hz.2 ⟨h0,rfl⟩
        have hu:wupS mode x.sign m x.e = wholeS m x.e:=by unfold wupS; rw [hr,hr0,awayS_zero,if_neg (by decide)]
        rw [decide_eq_false (show ¬ ((bl (m % 2 ^ n):Nat):Int) > 0 by omega),condF,rToInt_j1 sx (by omega),hu,hw,hr,hr0]
        try rfl
      · have hr0:0 < restC m n false:=by
          rcases Nat.eq_zero_or_pos (restC m n false) with q | q
          · exact absurd (hz.1 q).1 h0
          · exact q
        have hcm:=half_rest (N:=m) (n:=n) (by omega) hr0
        rw [if_neg (fun q=>by cases q.2),show n + 1 = (n - 1) + 2 by omega,Nat.pow_add,Nat.mul_comm (2 ^ (n - 1)),show (2:Nat) ^ 2 = 4 from rfl,cmpN_four] at hcm
        have hb2:bl (1 * 2 ^ (n - 1)) ≤ 3000:=by rw [bl_shift (by decide)]; have:bl 1 = 1:=rfl; omega
        rw [decide_eq_true (show ((bl (m % 2 ^ n):Nat):Int) > 0 by omega),condT,Of_eq (N:=1) (by decide) (x:=1) rfl,bindS,wi (x:=(n:Int) - 1) (by omega) (by omega),Up_eq (n:=1) (k:=n - 1) (by omega) (by omega) (by decide),bindS,Cmp_eq (by omega) (by omega),bindS]
        rw [show Ref1.digit (dg (m / 2 ^ n)) 0 = some ((bd (m / 2 ^ n) 0:Nat):Int) from digit_dg _ 0,bindS]
        have eb:bd (m / 2 ^ n) 0 = m / 2 ^ n % 2:=by unfold bd; rw [Nat.pow_zero,Nat.div_one]
        rw [eb,show (((m / 2 ^ n % 2:Nat):Int) == 1) = decide (m / 2 ^ n % 2 = 1) from beq_nat _ 1,Nat.one_mul,hcm,goesUp_eq hr0 (restC_le _ _ _),bindS]
        have hb3:bl (m / 2 ^ n + 1) ≤ 1000:=by
          have:bl (m / 2 ^ n + 1) ≤ 54:=by
            rw [bl_le_iff]
            have:=bl_le_iff.1 hbd
            rw [Nat.pow_succ]; omega
          omega
        have hu:wupS mode x.sign m x.e = if awayS mode x.sign (decide (m / 2 ^ n % 2 = 1)) (restC m n false) = true then m / 2 ^ n + 1 else m / 2 ^ n:=by unfold wupS; rw [hr,hw]
        by_cases haw:awayS mode x.sign (decide (m / 2 ^ n % 2 = 1)) (restC m n false) = true
        · rw [if_pos haw] at hu
          rw [haw,condT,bindS,Plus_eq (by omega),bindS,rToInt_j1 sx (by omega),hu,hr,if_pos hr0]
        · rw [if_neg haw] at hu
          simp only [Bool.not_eq_true] at haw
          rw [haw,condF,rToInt_j1 sx (by omega),hu,hr,if_pos hr0]
  · rw [cx]; rfl
  · rw [cx]; rfl
end
end Go.Q
namespace Go.Q
open Go
set_option maxRecDepth 100000
set_option maxHeartbeats 4000000
theorem xor_top {k s r:Nat} (hs:s ≤ 1) (hr:r < 2 ^ k):(s * 2 ^ k + r) ^^^ 2 ^ k = (1 - s) * 2 ^ k + r:=by
  apply Nat.eq_of_testBit_eq
  intro j
  rw [Nat.testBit_xor,Nat.mul_comm s,Nat.mul_comm (1 - s),Nat.testBit_two_pow_mul_add _ hr,Nat.testBit_two_pow_mul_add _ hr,Nat.testBit_two_pow]
  by_cases h1:j < k
  · rw [if_pos h1,if_pos h1,decide_eq_false (by omega)]; simp
  · rw [if_neg h1,if_neg h1]
    by_cases h2:k = j
    · subst h2
      rw [decide_eq_true rfl,Nat.sub_self]
      rcases (by omega:s = 0 ∨ s = 1) with rfl | rfl <;> rfl
    · rw [decide_eq_false h2]
      have e:∀ t,t ≤ 1 → t.testBit (j - k) = false:=fun t ht=>Nat.testBit_lt_two_pow (Nat.lt_of_le_of_lt ht (Nat.one_lt_two_pow (by omega)))
      rw [e s hs,e (1 - s) (by omega)]; rfl
theorem xor_u (a b:Nat) (ha:a < 18446744073709551616) (hb:b < 18446744073709551616):IntKind.u64.wrap (((BitVec.ofInt IntKind.u64.bits (a:Int) ^^^ BitVec.ofInt IntKind.u64.bits (b:Int)).toNat:Nat):Int) = ((a ^^^ b:Nat):Int):=by
  rw [BitVec.toNat_xor,bv_nat a ha,bv_nat b hb,wuN]
  have:a ^^^ b < 2 ^ 64:=Nat.xor_lt_two_pow ha hb
  rw [Nat.mod_eq_of_lt this]
theorem wrap_mod {v:Nat} (hv:v < 18446744073709551616):IntKind.i64.wrap (v:Int) % 18446744073709551616 = v ∧ I64 (IntKind.i64.wrap (v:Int)):=by
  unfold I64
  rcases Nat.lt_or_ge v 9223372036854775808 with q | q
  · rw [wi (by omega) (by omega)]; omega
  · rw [wi_neg (by omega) (by omega)]; omega
section
variable {kind mode:Int} {p w:Nat} (h:kindS kind p w)
include h
theorem bits_split {a:Int} (hb:bitsOk p w a):(a % 18446744073709551616).toNat = sgnS p w (a % 18446744073709551616).toNat * 2 ^ (p + w - 1) + sizeS p w a ∧ sgnS p w (a % 18446744073709551616).toNat ≤ 1 ∧ sizeS p w a < 2 ^ (p + w - 1):=by
  obtain ⟨h1,h2,h3,h4,h5,h6⟩:=h.ok.facts
  unfold bitsOk at hb
  unfold sizeS sgnS
  generalize hu:(a % 18446744073709551616).toNat = u at *
  have hlt:u < 18446744073709551616:=by omega
  have hpw:u < 2 ^ (p + w):=by
    by_cases q:p + w < 64
    · by_cases q2:2 ^ (p + w) ≤ u
      · exact absurd ⟨q,q2⟩ hb
      · omega
    · rw [show p + w = 64 by omega,pow64]; exact hlt
  have e3:u / 2 ^ (p + w - 1) < 2:=by
    rw [Nat.div_lt_iff_lt_mul (Nat.two_pow_pos _),Nat.mul_comm,← Nat.pow_succ,show (p + w - 1).succ = p + w by omega]
    exact hpw
  have:=Nat.div_add_mod u (2 ^ (p + w - 1))
  rw [Nat.mul_comm] at this
  rw [Nat.mod_eq_of_lt e3]
  exact ⟨this.symm,by omega,Nat.mod_lt _ (Nat.two_pow_pos _)⟩
theorem fields_of {t r:Nat} (ht:t ≤ 1) (hr:r < 2 ^ (p + w - 1)):expS p w (t * 2 ^ (p + w - 1) + r) = r / 2 ^ (p - 1) ∧ frcS p (t * 2 ^ (p + w - 1) + r) = r % 2 ^ (p - 1) ∧ sgnS p w (t * 2 ^ (p + w - 1) + r) = t:=by
  obtain ⟨h1,h2,h3,h4,h5,h6⟩:=h.ok.facts
  have e:t * 2 ^ (p + w - 1) + r = 2 ^ (p - 1) * (t * 2 ^ w) + r:=by
    rw [Nat.mul_left_comm,← Nat.pow_add,show p - 1 + w = p + w - 1 by omega]
  have hrw:r / 2 ^ (p - 1) < 2 ^ w:=by
    rw [Nat.div_lt_iff_lt_mul (Nat.two_pow_pos _),← Nat.pow_add,show w + (p - 1) = p + w - 1 by omega]
    exact hr
  refine ⟨?_,?_,?_⟩
  · unfold expS
    rw [e,Nat.mul_add_div (Nat.two_pow_pos _),Nat.mul_comm t,Nat.mul_add_mod,Nat.mod_eq_of_lt hrw]
  · unfold frcS
    rw [e,Nat.mul_add_mod]
  · unfold sgnS
    rw [Nat.mul_comm t,Nat.mul_add_div (Nat.two_pow_pos _),Nat.div_eq_of_lt hr,Nat.add_zero,Nat.mod_eq_of_lt (by omega)]
theorem readS_sign {s t r:Nat} (hs:s ≤ 1) (ht:t ≤ 1) (hr:r < 2 ^ (p + w - 1)):readS p w (t * 2 ^ (p + w - 1) + r) = ⟨(readS p w (s * 2 ^ (p + w - 1) + r)).class_,t,(readS p w (s * 2 ^ (p + w - 1) + r)).m,(readS p w (s * 2 ^ (p + w - 1) + r)).e⟩:=by
  obtain ⟨a1,a2,a3⟩:=fields_of h hs hr
  obtain ⟨b1,b2,b3⟩:=fields_of h ht hr
  unfold readS
  rw [a1,a2,a3,b1,b2,b3]
  repeat' split
  all_goals rfl
noncomputable def negS (p w:Nat) (a:Int):Int:=signS p w (fun s=>1 - s) a (numS p w a)
theorem neg_bits {a:Int} (hb:bitsOk p w a) (c:(numS p w a).class_ ≠ 3):negS p w a = IntKind.i64.wrap (((1 - sgnS p w (a % 18446744073709551616).toNat) * 2 ^ (p + w - 1) + sizeS p w a:Nat):Int) ∧ (1 - sgnS p w (a % 18446744073709551616).toNat) * 2 ^ (p + w - 1) + sizeS p w a < 2 ^ (p + w):=by
  obtain ⟨h1,h2,h3,h4,h5,h6⟩:=h.ok.facts
  obtain ⟨e1,e2,e3⟩:=bits_split h hb
  unfold negS signS
  rw [if_neg c,numS_sign]
  refine ⟨?_,?_⟩
  · rw [show ((1:Int) - ((sgnS p w (a % 18446744073709551616).toNat:Nat):Int)).toNat = 1 - sgnS p w (a % 18446744073709551616).toNat by omega]
  · have:(1 - sgnS p w (a % 18446744073709551616).toNat) * 2 ^ (p + w - 1) ≤ 1 * 2 ^ (p + w - 1):=Nat.mul_le_mul_right _ (by omega)
    have e:2 ^ (p + w) = 2 ^ (p + w - 1) * 2:=by rw [← Nat.pow_succ]; congr 1; omega
    omega
theorem neg_ok {a:Int} (hb:bitsOk p w a):I64 (negS p w a) ∧ bitsOk p w (negS p w a) ∧ ((numS p w a).class_ = 3 → (numS p w (negS p w a)).class_ = 3) ∧ ((numS p w a).class_ ≠ 3 → numS p w (negS p w a) = negN (numS p w a)):=by
  obtain ⟨h1,h2,h3,h4,h5,h6⟩:=h.ok.facts
  by_cases c:(numS p w a).class_ = 3
  · have e:negS p w a = quietS p w:=by unfold negS signS; rw [if_pos c]
    rw [e]
    refine ⟨?_,?_,fun _=>?_,fun q=>absurd c q⟩
    · rcases h with ⟨rfl,rfl,rfl⟩ | ⟨rfl,rfl,rfl⟩ | ⟨rfl,rfl,rfl⟩ <;> exact ⟨by decide,by decide⟩
    · unfold bitsOk
      rcases h with ⟨rfl,rfl,rfl⟩ | ⟨rfl,rfl,rfl⟩ | ⟨rfl,rfl,rfl⟩ <;> decide
    · unfold numS
      rcases h with ⟨rfl,rfl,rfl⟩ | ⟨rfl,rfl,rfl⟩ | ⟨rfl,rfl,rfl⟩ <;> decide
  · obtain ⟨e1,e2⟩:=neg_bits h hb c
    obtain ⟨e3,e4,e5⟩:=bits_split h hb
    rw [e1]
    have hs:=numS_sign (p:=p) (w:=w) a
    generalize hs':sgnS p w (a % 18446744073709551616).toNat = s at *
    generalize sizeS p w a = r at *
    have hv:(1 - s) * 2 ^ (p + w - 1) + r < 18446744073709551616:=by
      have:2 ^ (p + w) ≤ 2 ^ 64:=Nat.pow_le_pow_right (by decide) h3
      rw [pow64] at this
      omega
    obtain ⟨w1,w2⟩:=wrap_mod hv
    refine ⟨w2,?_,fun q=>absurd q c,fun _=>?_⟩
    · unfold bitsOk
      rw [w1,Int.toNat_natCast]
      omega
    · unfold numS at *
      rw [w1,Int.toNat_natCast,readS_sign h e4 (by omega) e5,← e3]
      unfold negN
      congr 1
      rw [hs]
      omega
theorem rnegative_eq {a:Int} (hb:bitsOk p w a):Ref1.negative kind a = some (negS p w a):=by
  obtain ⟨h1,h2,h3,h4,h5,h6⟩:=h.ok.facts
  have hx:=numS_z h.ok a
  unfold Ref1.negative
  rw [taken_eq h hb,bindS]
  simp only [letkE]
  rw [show (takS (numS p w a)).what = classN (numS p w a).class_ from rfl,what_none hx.cls]
  by_cases c:(numS p w a).class_ = 3
  · rw [decide_eq_true c,condT,Quiet_eq h,bindS]
    unfold negS signS
    rw [if_pos c]
  · rw [decide_eq_false c,condF]
    obtain ⟨e1,e2⟩:=neg_bits h hb c
    obtain ⟨e3,e4,e5⟩:=bits_split h hb
    obtain ⟨u1,u2⟩:=wrap_toNat a
    have hp:2 ^ (p + w - 1) < 18446744073709551616:=pw_lt (Nat.le_refl _) (by omega)
    rw [h.eight,wi (x:=((p + w:Nat):Int)) (by omega) (by omega),wi (x:=((p + w:Nat):Int) - 1) (by omega) (by omega),chk_pos (by omega),u_shl' (a:=1) (k:=p + w - 1) (x:=1) (y:=((p + w:Nat):Int) - 1) rfl (by omega),Nat.one_mul,Nat.mod_eq_of_lt hp,u1,xor_u _ _ u2 hp]
    rw [e1]
    congr 3
    conv=>lhs; rw [e3]
    exact xor_top e4 e5
theorem rNeg_eq {a:Int} (ha:I64 a) (hb:bitsOk p w a):Ref1.Neg kind a = some (negS p w a,0):=by
  unfold Ref1.Neg
  rw [rValid_eq h ha,@decide_eq_true _ (_) hb,bindS]
  simp only [letkE,Bool.not_true,condF]
  rw [rnegative_eq h hb,bindS]
end
end Go.Q
