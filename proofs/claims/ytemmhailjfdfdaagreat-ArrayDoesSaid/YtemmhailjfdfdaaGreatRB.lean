import Derived.Test.YtemmhailjfdfdaaGreatRA
namespace Go.Q
open Go
set_option maxRecDepth 100000
set_option maxHeartbeats 4000000
def classN (c:Int):ByteArray:=if c = 0 then ⟨#[122,101,114,111]⟩ else if c = 1 then ⟨#[102,105,110,105,116,101]⟩ else if c = 2 then ⟨#[105,110,102,105,110,105,116,101]⟩ else ⟨#[110,111,110,101]⟩
noncomputable def takS (x:float.number):quadratref01.float:=⟨classN x.class_,if x.class_ = 3 then 0 else x.sign,dg x.m.toNat,x.e⟩
structure NumZ (p w:Nat) (x:float.number):Prop extends NumOk p w x where
  nil:x.class_ ≠ 1 → x.m = 0 ∧ x.e = 0
theorem numS_z {p w:Nat} (h:OkS p w) (a:Int):NumZ p w (numS p w a):=by
  refine ⟨numS_ok h a,?_⟩
  unfold numS readS
  repeat' split
  all_goals first
    | exact fun _=>⟨rfl,rfl⟩
    | exact fun q=>absurd rfl q
theorem t_none:(⟨#[110,111,110,101]⟩:ByteArray).toList = [110,111,110,101]:=by rw [Lib.toList_data]
theorem t_inf:(⟨#[105,110,102,105,110,105,116,101]⟩:ByteArray).toList = [105,110,102,105,110,105,116,101]:=by rw [Lib.toList_data]
theorem t_zero:(⟨#[122,101,114,111]⟩:ByteArray).toList = [122,101,114,111]:=by rw [Lib.toList_data]
theorem t_fin:(⟨#[102,105,110,105,116,101]⟩:ByteArray).toList = [102,105,110,105,116,101]:=by rw [Lib.toList_data]
section
variable {c:Int} (hc:c = 0 ∨ c = 1 ∨ c = 2 ∨ c = 3)
include hc
theorem what_none:((classN c).toList == (⟨#[110,111,110,101]⟩:ByteArray).toList) = decide (c = 3):=by
  unfold classN
  rcases hc with rfl | rfl | rfl | rfl <;> simp only [t_none,t_inf,t_zero,t_fin,if_true,if_false,show ¬ ((1:Int) = 0) by decide,show ¬ ((2:Int) = 0) by decide,show ¬ ((3:Int) = 0) by decide,show ¬ ((2:Int) = 1) by decide,show ¬ ((3:Int) = 1) by decide,show ¬ ((3:Int) = 2) by decide] <;> rfl
theorem what_inf:((classN c).toList == (⟨#[105,110,102,105,110,105,116,101]⟩:ByteArray).toList) = decide (c = 2):=by
  unfold classN
  rcases hc with rfl | rfl | rfl | rfl <;> simp only [t_none,t_inf,t_zero,t_fin,if_true,if_false,show ¬ ((1:Int) = 0) by decide,show ¬ ((2:Int) = 0) by decide,show ¬ ((3:Int) = 0) by decide,show ¬ ((2:Int) = 1) by decide,show ¬ ((3:Int) = 1) by decide,show ¬ ((3:Int) = 2) by decide] <;> rfl
theorem what_zero:((classN c).toList == (⟨#[122,101,114,111]⟩:ByteArray).toList) = decide (c = 0):=by
  unfold classN
  rcases hc with rfl | rfl | rfl | rfl <;> simp only [t_none,t_inf,t_zero,t_fin,if_true,if_false,show ¬ ((1:Int) = 0) by decide,show ¬ ((2:Int) = 0) by decide,show ¬ ((3:Int) = 0) by decide,show ¬ ((2:Int) = 1) by decide,show ¬ ((3:Int) = 1) by decide,show ¬ ((3:Int) = 2) by decide] <;> rfl
end
def I64 (a:Int):Prop:=-9223372036854775808 ≤ a ∧ a < 9223372036854775808
theorem rValid_eq {kind:Int} {p w:Nat} (h:kindS kind p w) {a:Int} (ha:I64 a):Ref1.Valid kind a = some (@decide (bitsOk p w a) (Classical.propDecidable _)):=by
  unfold I64 at ha
  unfold Ref1.Valid bitsOk
  simp only [letkE]
  rcases h with ⟨rfl,rfl,rfl⟩ | ⟨rfl,rfl,rfl⟩ | ⟨rfl,rfl,rfl⟩
  · rw [show ((2:Int) == 2) = true from rfl,cond_true]
    by_cases h0:0 ≤ a
    · rw [decide_eq_true (show a ≥ 0 from h0),cond_true]
      congr 1
      rw [decide_eq_decide]
      have:(2:Nat) ^ (11 + 5) = 65536:=by decide
      omega
    · rw [decide_eq_false (show ¬ a ≥ 0 from h0),cond_false]
      congr 1
      symm
      rw [decide_eq_false_iff_not]
      have:(2:Nat) ^ (11 + 5) = 65536:=by decide
      omega
  · rw [show ((4:Int) == 2) = false from rfl,cond_false,show ((4:Int) == 4) = true from rfl,cond_true]
    by_cases h0:0 ≤ a
    · rw [decide_eq_true (show a ≥ 0 from h0),cond_true]
      congr 1
      rw [decide_eq_decide]
      have:(2:Nat) ^ (24 + 8) = 4294967296:=by decide
      omega
    · rw [decide_eq_false (show ¬ a ≥ 0 from h0),cond_false]
      congr 1
      symm
      rw [decide_eq_false_iff_not]
      have:(2:Nat) ^ (24 + 8) = 4294967296:=by decide
      omega
  · rw [show ((8:Int) == 2) = false from rfl,cond_false,show ((8:Int) == 4) = false from rfl,cond_false]
    congr 1
    rw [show ((8:Int) == 8) = true from rfl]
    symm
    exact @decide_eq_true _ (_) (by omega)
theorem asked_ok {kind mode:Int} {p w:Nat} (h:kindS kind p w) (hm:0 ≤ mode ∧ mode < 4) {a b:Int} (ha:I64 a) (hb:I64 b) (ka:bitsOk p w a) (kb:bitsOk p w b):Ref1.asked kind mode a b = some true:=by
  unfold Ref1.asked Ref1.IsMode
  rw [rValid_eq h ha,rValid_eq h hb,@decide_eq_true _ (_) ka,@decide_eq_true _ (_) kb]
  simp only [letkE]
  rw [decide_eq_true (show mode ≥ 0 from hm.1),decide_eq_true (show mode ≤ 3 by omega)]; rfl
theorem taken_eq {kind:Int} {p w:Nat} (h:kindS kind p w) {a:Int} (hb:bitsOk p w a):Ref1.taken kind a = some (takS (numS p w a)):=by
  obtain ⟨h1,h2,h3,h4,h5,h6⟩:=h.ok.facts
  obtain ⟨e1,e2⟩:=wrap_toNat a
  unfold numS
  generalize hu:(a % 18446744073709551616).toNat = u at *
  have hpw:u < 2 ^ (p + w):=by
    unfold bitsOk at hb
    rw [hu] at hb
    by_cases q:p + w < 64
    · by_cases q2:2 ^ (p + w) ≤ u
      · exact absurd ⟨q,q2⟩ hb
      · omega
    · rw [show p + w = 64 by omega,pow64]; exact e2
  have hE:expS p w u < 2 ^ w:=Nat.mod_lt _ (Nat.two_pow_pos w)
  have hF:frcS p u < 2 ^ (p - 1):=Nat.mod_lt _ (Nat.two_pow_pos _)
  have hS:sgnS p w u < 2:=Nat.mod_lt _ (by decide)
  have hp53:2 ^ p ≤ 2 ^ 53:=Nat.pow_le_pow_right (by decide) h4
  have hp53':(2:Nat) ^ 53 = 9007199254740992:=by decide
  have hpp:2 ^ p = 2 ^ (p - 1) * 2:=by rw [← Nat.pow_succ]; congr 1; omega
  have hw11:2 ^ w ≤ 2 ^ 11:=Nat.pow_le_pow_right (by decide) h5
  have hw11':(2:Nat) ^ 11 = 2048:=by decide
  have hp0:=Nat.two_pow_pos (p - 1)
  have hw0:=Nat.two_pow_pos w
  have hbb:0 ≤ biasS w ∧ biasS w < 2000:=by rcases h.ok with ⟨rfl,rfl⟩ | ⟨rfl,rfl⟩ | ⟨rfl,rfl⟩ <;> decide
  unfold Ref1.taken
  rw [Digits_eq h,h.eight,Option.bind_some]
  simp only [letkE,Option.bind_some]
  rw [wi (x:=((p + w:Nat):Int)) (by omega) (by omega),show ((p + w:Nat):Int) - (p:Int) = (w:Int) by omega,wi (x:=(w:Int)) (by omega) (by omega),wi (x:=(p:Int) - 1) (by omega) (by omega),wi (x:=((p + w:Nat):Int) - 1) (by omega) (by omega),e1]
  rw [chk_pos (by omega),chk_pos (by omega),chk_pos (by omega),chk_pos (by omega),chk_pos (by omega)]
  have hpm:2 ^ (p - 1) % 18446744073709551616 = 2 ^ (p - 1):=Nat.mod_eq_of_lt (by omega)
  have hwm:2 ^ w % 18446744073709551616 = 2 ^ w:=Nat.mod_eq_of_lt (by omega)
  rw [u_shl' (a:=1) (k:=p - 1) (x:=1) (y:=(p:Int) - 1) rfl (by omega),Nat.one_mul,hpm,u_shl' (a:=1) (k:=w) (x:=1) (y:=(w:Int)) rfl rfl,Nat.one_mul,hwm]
  rw [show ((2 ^ (p - 1):Nat):Int) - 1 = ((2 ^ (p - 1) - 1:Nat):Int) by omega,show ((2 ^ w:Nat):Int) - 1 = ((2 ^ w - 1:Nat):Int) by omega]
  rw [wnat (n:=2 ^ (p - 1) - 1) (by omega),wnat (n:=2 ^ w - 1) (by omega)]
  rw [u_shr' (a:=u) (k:=p - 1) (y:=(p:Int) - 1) rfl (by omega) e2,u_shr' (a:=u) (k:=p + w - 1) (y:=((p + w:Nat):Int) - 1) rfl (by omega) e2]
  have d1:u / 2 ^ (p - 1) < 18446744073709551616:=Nat.lt_of_le_of_lt (Nat.div_le_self _ _) e2
  have d2:u / 2 ^ (p + w - 1) < 18446744073709551616:=Nat.lt_of_le_of_lt (Nat.div_le_self _ _) e2
  rw [u_and' (a:=u) (b:=2 ^ (p - 1) - 1) rfl rfl e2 (by omega),Nat.and_two_pow_sub_one_eq_mod,u_and' (a:=u / 2 ^ (p - 1)) (b:=2 ^ w - 1) rfl rfl d1 (by omega),Nat.and_two_pow_sub_one_eq_mod,u_and' (a:=u / 2 ^ (p + w - 1)) (b:=1) (y:=1) rfl rfl d2 (by decide),Nat.and_one_is_mod]
  rw [show u % 2 ^ (p - 1) = frcS p u from rfl,show u / 2 ^ (p - 1) % 2 ^ w = expS p w u from rfl,show u / 2 ^ (p + w - 1) % 2 = sgnS p w u from rfl]
  rw [wi (x:=((frcS p u:Nat):Int)) (by omega) (by omega),wi (x:=((expS p w u:Nat):Int)) (by omega) (by omega),wi (x:=((sgnS p w u:Nat):Int)) (by omega) (by omega)]
  have hone:∀ k:Nat,k ≤ 53 → ∀ K:Int,K = k → IntKind.i64.wrap ((1:Int) * 2 ^ (min K.toNat IntKind.i64.bits)) = ((2 ^ k:Nat):Int):=by
    intro k hk K hK
    subst hK
    have h2k:2 ^ k ≤ 2 ^ 53:=Nat.pow_le_pow_right (by decide) hk
    have:((1:Int) * 2 ^ (min ((k:Int)).toNat IntKind.i64.bits)) = ((2 ^ k:Nat):Int):=by
      rw [Int.toNat_natCast,show min k IntKind.i64.bits = k from Nat.min_eq_left (by show k ≤ 64; omega)]
      rw [Int.one_mul,Int.natCast_pow]; rfl
    rw [this]
    clear this
    generalize 2 ^ k = z at *
    rw [wi (x:=(z:Int)) (by omega) (by omega)]
  rw [hone w (by omega) _ (by omega),wi (x:=((2 ^ w:Nat):Int) - 1) (by omega) (by omega)]
  have j2:∀ l:List Int,Ref1.taken.j2 kind p (frcS p u:Nat) (expS p w u:Nat) (sgnS p w u:Nat) l false = if expS p w u = 0 then some ⟨⟨#[102,105,110,105,116,101]⟩,(sgnS p w u:Nat),dg (frcS p u),lstS p w⟩ else some ⟨⟨#[102,105,110,105,116,101]⟩,(sgnS p w u:Nat),dg (frcS p u + 2 ^ (p - 1)),(expS p w u:Int) - biasS w - p + 1⟩:=by
    intro l
    unfold Ref1.taken.j2
    rw [cond_false]
    simp only [letkE]
    by_cases hz:expS p w u = 0
    · rw [if_pos hz,show (((expS p w u:Nat):Int) == 0) = true from by rw [hz]; rfl,cond_true,Of_eq (N:=frcS p u) (by omega) (wnat (by omega)),Option.bind_some,rleast_eq h]; rfl
    · rw [if_neg hz,show (((expS p w u:Nat):Int) == 0) = false from by rw [beq_eq_false_iff_ne]; omega,cond_false]
      unfold Ref1.taken.j0
      simp only [letkE]
      rw [wi (x:=(p:Int) - 1) (by omega) (by omega),chk_pos (by omega),hone (p - 1) (by omega) _ (by omega),wi (x:=((2 ^ (p - 1):Nat):Int) + ((frcS p u:Nat):Int)) (by omega) (by omega)]
      rw [show ((2 ^ (p - 1):Nat):Int) + ((frcS p u:Nat):Int) = ((frcS p u + 2 ^ (p - 1):Nat):Int) by omega,Of_eq (N:=frcS p u + 2 ^ (p - 1)) (by omega) (wnat (by omega)),Option.bind_some,Bias_eq h,Option.bind_some]
      rw [wi (x:=((expS p w u:Nat):Int) - biasS w) (by omega) (by omega),wi (x:=((expS p w u:Nat):Int) - biasS w - p) (by omega) (by omega),wi (x:=((expS p w u:Nat):Int) - biasS w - p + 1) (by omega) (by omega)]
  by_cases ht:expS p w u = 2 ^ w - 1
  · have hne:¬ expS p w u = 0:=by
      have:2 ^ 5 ≤ 2 ^ w:=Nat.pow_le_pow_right (by decide) h2
      have:(2:Nat) ^ 5 = 32:=by decide
      omega
    rw [show (((expS p w u:Nat):Int) == ((2 ^ w:Nat):Int) - 1) = true from by rw [beq_iff_eq]; omega,cond_true]
    by_cases hf:frcS p u = 0
    · have hR:readS p w u = ⟨2,sgnS p w u,0,0⟩:=by unfold readS; rw [if_pos ⟨ht,hf⟩]
      rw [show (((frcS p u:Nat):Int) == 0) = true from by rw [hf]; rfl,hR]
      rfl
    · have hR:readS p w u = ⟨3,sgnS p w u,0,0⟩:=by unfold readS; rw [if_neg (fun q=>hf q.2),if_pos ht]
      rw [show (((frcS p u:Nat):Int) == 0) = false from by rw [beq_eq_false_iff_ne]; omega,hR]
      unfold Ref1.taken.j1
      rw [cond_false]
      simp only [letkE]
      rw [chk_pos (by omega),hone w (by omega) _ (by omega),wi (x:=((2 ^ w:Nat):Int) - 1) (by omega) (by omega)]
      rw [show (((expS p w u:Nat):Int) == ((2 ^ w:Nat):Int) - 1) = true from by rw [beq_iff_eq]; omega,cond_true]; rfl
  · rw [show (((expS p w u:Nat):Int) == ((2 ^ w:Nat):Int) - 1) = false from by rw [beq_eq_false_iff_ne]; omega,cond_false]
    unfold Ref1.taken.j1
    rw [cond_false]
    simp only [letkE]
    rw [chk_pos (by omega),hone w (by omega) _ (by omega),wi (x:=((2 ^ w:Nat):Int) - 1) (by omega) (by omega)]
    rw [show (((expS p w u:Nat):Int) == ((2 ^ w:Nat):Int) - 1) = false from by rw [beq_eq_false_iff_ne]; omega,cond_false]
    by_cases hz:expS p w u = 0
    · rw [show (((expS p w u:Nat):Int) == 0) = true from by rw [hz]; rfl,cond_true]
      by_cases hf:frcS p u = 0
      · have hR:readS p w u = ⟨0,sgnS p w u,0,0⟩:=by unfold readS; rw [if_neg (fun q=>ht q.1),if_neg ht,if_pos ⟨hz,hf⟩]
        rw [show (((frcS p u:Nat):Int) == 0) = true from by rw [hf]; rfl,hR]; rfl
      · have hR:readS p w u = ⟨1,sgnS p w u,frcS p u,lstS p w⟩:=by unfold readS; rw [if_neg (fun q=>ht q.1),if_neg ht,if_neg (fun q=>hf q.2),if_pos hz]
        rw [show (((frcS p u:Nat):Int) == 0) = false from by rw [beq_eq_false_iff_ne]; omega,j2,if_pos hz,hR]; rfl
    · have hR:readS p w u = ⟨1,sgnS p w u,((frcS p u + 2 ^ (p - 1):Nat):Int),(expS p w u:Int) - biasS w - p + 1⟩:=by unfold readS; rw [if_neg (fun q=>ht q.1),if_neg ht,if_neg (fun q=>hz q.1),if_neg hz]
      rw [show (((expS p w u:Nat):Int) == 0) = false from by rw [beq_eq_false_iff_ne]; omega,cond_false,j2,if_neg hz,hR]; rfl
end Go.Q
namespace Go.Q
open Go
theorem bl_add_le {m n k:Nat} (hm:bl m ≤ k) (hn:bl n ≤ k):bl (m + n) ≤ k + 1:=by
  rw [bl_le_iff,Nat.pow_succ]
  have a1:=bl_le_iff.1 hm
  have a2:=bl_le_iff.1 hn
  omega
set_option maxRecDepth 100000
set_option maxHeartbeats 4000000
theorem fin_bounds {p w:Nat} (h:OkS p w) {x:float.number} (hx:NumZ p w x):(∃ m:Nat,x.m = m ∧ m < 2 ^ p) ∧ -2000 ≤ x.e ∧ x.e < 1024:=by
  have hb:0 ≤ biasS w ∧ biasS w < 1100:=by rcases h with ⟨rfl,rfl⟩ | ⟨rfl,rfl⟩ | ⟨rfl,rfl⟩ <;> decide
  obtain ⟨h1,h2,h3,h4,h5,h6⟩:=h.facts
  have hlst:lstS p w = 2 - biasS w - p:=rfl
  by_cases c:x.class_ = 1
  · obtain ⟨m,em,m0,m1,e0,e1,_⟩:=hx.mag c
    exact ⟨⟨m,em,m1⟩,by omega,by omega⟩
  · obtain ⟨a,b⟩:=hx.nil c
    exact ⟨⟨0,a,Nat.two_pow_pos p⟩,by omega,by omega⟩
theorem zero_bits {p w:Nat} (h:OkS p w) {a:Int} (ha:I64 a) (hb:bitsOk p w a) (c:(numS p w a).class_ = 0):zeroS p w (numS p w a).sign = a:=by
  obtain ⟨h1,h2,h3,h4,h5,h6⟩:=h.facts
  unfold I64 at ha
  unfold numS at *
  generalize hu:(a % 18446744073709551616).toNat = u at *
  have hu2:(u:Int) = a % 18446744073709551616:=by omega
  have hlt:u < 18446744073709551616:=by omega
  unfold bitsOk at hb
  rw [hu] at hb
  have hz:expS p w u = 0 ∧ frcS p u = 0 ∧ (readS p w u).sign = sgnS p w u:=by
    unfold readS at *
    by_cases q1:expS p w u = 2 ^ w - 1 ∧ frcS p u = 0
    · rw [if_pos q1] at c; cases c
    · rw [if_neg q1] at c ⊢
      by_cases q2:expS p w u = 2 ^ w - 1
      · rw [if_pos q2] at c; cases c
      · rw [if_neg q2] at c ⊢
        by_cases q3:expS p w u = 0 ∧ frcS p u = 0
        · rw [if_pos q3]; exact ⟨q3.1,q3.2,rfl⟩
        · rw [if_neg q3] at c
          by_cases q4:expS p w u = 0
          · rw [if_pos q4] at c; cases c
          · rw [if_neg q4] at c; cases c
  obtain ⟨z1,z2,z3⟩:=hz
  rw [z3]
  have hpw:u < 2 ^ (p + w):=by
    by_cases q:p + w < 64
    · by_cases q2:2 ^ (p + w) ≤ u
      · exact absurd ⟨q,q2⟩ hb
      · omega
    · rw [show p + w = 64 by omega,pow64]; exact hlt
  have hs:sgnS p w u * 2 ^ (p + w - 1) = u:=by
    have e1:=Nat.div_add_mod u (2 ^ (p - 1))
    have e2:=Nat.div_add_mod (u / 2 ^ (p - 1)) (2 ^ w)
    rw [show u % 2 ^ (p - 1) = 0 from z2,Nat.add_zero] at e1
    rw [show u / 2 ^ (p - 1) % 2 ^ w = 0 from z1,Nat.add_zero,Nat.div_div_eq_div_mul,← Nat.pow_add,show p - 1 + w = p + w - 1 by omega] at e2
    rw [← e2,← Nat.mul_assoc,← Nat.pow_add,show p - 1 + w = p + w - 1 by omega] at e1
    unfold sgnS
    have e3:u / 2 ^ (p + w - 1) < 2:=by
      rw [Nat.div_lt_iff_lt_mul (Nat.two_pow_pos _),Nat.mul_comm,← Nat.pow_succ,show (p + w - 1).succ = p + w by omega]
      exact hpw
    rw [Nat.mod_eq_of_lt e3,Nat.mul_comm]
    exact e1
  unfold zeroS packS
  rw [Int.toNat_natCast,hs,Nat.zero_mul]
  simp only [Nat.add_zero]
  rcases Int.lt_or_le a 0 with q | q
  · rw [wi_neg (by omega) (by omega)]; omega
  · rw [wi (by omega) (by omega)]; omega
theorem bl53 {p w m:Nat} (h:OkS p w) (hm:m < 2 ^ p):bl m ≤ 53:=by
  have:=bl_le_iff.2 hm
  have:=h.facts
  omega
theorem rsum_j0 {kind mode:Int} {p w:Nat} (h:kindS kind p w) (hm:0 ≤ mode ∧ mode < 4) {x y:float.number} (hx:NumZ p w x) (hy:NumZ p w y) {s t:Int} (hs:s = x.sign) (ht:t = y.sign) (k l:ByteArray) (hne:x.sign = y.sign → 0 < x.m.toNat + y.m.toNat) :
    Ref1.Add.j0 kind mode k s (dg x.m.toNat) x.e l t (dg y.m.toNat) y.e = some ((sumS p w mode x y).1,(sumS p w mode x y).2,0):=by
  obtain ⟨⟨m,em,m1⟩,ex0,ex1⟩:=fin_bounds h.ok hx
  obtain ⟨⟨n,en,n1⟩,ey0,ey1⟩:=fin_bounds h.ok hy
  have hbm:=bl53 h.ok m1
  have hbn:=bl53 h.ok n1
  subst hs ht
  have sx:=hx.sgn
  have sy:=hy.sgn
  rw [em,en,Int.toNat_natCast,Int.toNat_natCast]
  unfold sumS
  rw [em,en,Int.toNat_natCast,Int.toNat_natCast]
  have el:(if y.e < x.e then y.e else x.e) = min x.e y.e:=by split <;> omega
  generalize hlow:min x.e y.e = low at *
  have hl1:-2000 ≤ low ∧ low < 1024 ∧ low ≤ x.e ∧ low ≤ y.e:=by omega
  have fin:∀ (sg:Int) (S:Nat),(sg = 0 ∨ sg = 1) → bl S ≤ 30000 → Ref1.Add.j1 kind mode low sg (dg S) = some ((if S = 0 then (packS p w (if mode = 2 then 1 else 0) 0 0,0) else rndS p w mode sg S low false).1,(if S = 0 then (packS p w (if mode = 2 then 1 else 0) 0 0,0) else rndS p w mode sg S low false).2,0):=by
    intro sg S hsg hS
    unfold Ref1.Add.j1
    simp only [letkE,dg_len]
    by_cases h0:S = 0
    · subst h0
      rw [show (((bl 0:Nat):Int) == 0) = true from rfl,cond_true,if_pos rfl]
      by_cases h2:mode = 2
      · subst h2
        rw [show ((2:Int) == 2) = true from rfl,cond_true,Zero_eq h (.inr rfl)]; rfl
      · rw [show (mode == 2) = false from beq_eq_false_iff_ne.2 h2,cond_false,Zero_eq h (.inl rfl),if_neg h2]; rfl
    · have hb0:bl S ≠ 0:=fun q=>h0 (bl_zero_iff.1 q)
      rw [show (((bl S:Nat):Int) == 0) = false from by rw [beq_eq_false_iff_ne]; omega,cond_false,if_neg h0]
      rw [Rounded_eq h hm hsg (by omega) (by omega) (by omega) (fun q=>by cases q),Option.bind_some]
  unfold Ref1.Add.j0
  simp only [letkE,el]
  rw [wi (x:=x.e - low) (by omega) (by omega),wi (x:=y.e - low) (by omega) (by omega)]
  rw [Up_eq (n:=m) (k:=(x.e - low).toNat) (by omega) (by omega) (by omega),Option.bind_some,Up_eq (n:=n) (k:=(y.e - low).toNat) (by omega) (by omega) (by omega),Option.bind_some]
  have hM:bl (m * 2 ^ (x.e - low).toNat) ≤ 4000:=by
    have:=bl_mul m (2 ^ (x.e - low).toNat)
    have h2:bl (2 ^ (x.e - low).toNat) ≤ (x.e - low).toNat + 1:=by rw [bl_le_iff]; exact Nat.pow_lt_pow_right (by decide) (by omega)
    omega
  have hN:bl (n * 2 ^ (y.e - low).toNat) ≤ 4000:=by
    have:=bl_mul n (2 ^ (y.e - low).toNat)
    have h2:bl (2 ^ (y.e - low).toNat) ≤ (y.e - low).toNat + 1:=by rw [bl_le_iff]; exact Nat.pow_lt_pow_right (by decide) (by omega)
    omega
  generalize hMe:m * 2 ^ (x.e - low).toNat = M at *
  generalize hNe:n * 2 ^ (y.e - low).toNat = N at *
  have hMN:bl (M + N) ≤ 4001:=by
    exact bl_add_le (k:=4000) hM hN
  rw [Plus_eq (by omega),Option.bind_some]
  by_cases hs:x.sign = y.sign
  · rw [if_pos hs,show (x.sign != y.sign) = false from by rw [hs]; exact bne_self_eq_false _,cond_false,fin _ _ sx (by omega)]
    rw [if_neg]
    intro h0
    have:=hne hs
    rw [em,en,Int.toNat_natCast,Int.toNat_natCast] at this
    rcases Nat.eq_zero_or_pos m with q | q
    · have:0 < n * 2 ^ (y.e - low).toNat:=Nat.mul_pos (by omega) (Nat.two_pow_pos _)
      omega
    · have:0 < m * 2 ^ (x.e - low).toNat:=Nat.mul_pos q (Nat.two_pow_pos _)
      omega
  · rw [if_neg hs,show (x.sign != y.sign) = true from by rw [bne_iff_ne]; exact hs,cond_true,Cmp_eq (by omega) (by omega),Option.bind_some,cmpN_ge]
    by_cases hc:N ≤ M
    · rw [decide_eq_true hc,cond_true,Minus_eq hc (by omega),Option.bind_some,fin _ _ sx (by have:=bl_mono (Nat.sub_le M N); omega)]
      by_cases h0:M = N
      · rw [if_pos h0,if_pos (by omega)]
      · rw [if_neg h0,if_neg (by omega),if_pos (by omega)]
    · rw [decide_eq_false hc,cond_false,Minus_eq (by omega) (by omega),Option.bind_some,fin _ _ sy (by have:=bl_mono (Nat.sub_le N M); omega)]
      rw [if_neg (by omega),if_neg (show ¬ M = N by omega),if_neg (show ¬ N < M by omega)]
end Go.Q
namespace Go.Q
open Go
set_option maxRecDepth 100000
set_option maxHeartbeats 4000000
theorem sumS_zero {p w:Nat} {mode:Int} {x y:float.number} (hx:x.m = 0) (hy:0 < y.m.toNat):sumS p w mode x y = rndS p w mode y.sign y.m.toNat y.e false:=by
  unfold sumS
  rw [hx]
  simp only [show (0:Int).toNat = 0 from rfl,Nat.zero_mul,Nat.zero_add,Nat.not_lt_zero,if_false]
  have hpos:0 < y.m.toNat * 2 ^ (y.e - min x.e y.e).toNat:=Nat.mul_pos hy (Nat.two_pow_pos _)
  have e:rndS p w mode y.sign (y.m.toNat * 2 ^ (y.e - min x.e y.e).toNat) (min x.e y.e) false = rndS p w mode y.sign y.m.toNat y.e false:=by
    have:=rndS_shift (p:=p) (w:=w) (k:=(y.e - min x.e y.e).toNat) (mode:=mode) (sign:=y.sign) (e:=y.e) hy
    rw [show y.e - (((y.e - min x.e y.e).toNat:Nat):Int) = min x.e y.e by omega] at this
    exact this
  by_cases hs:x.sign = y.sign
  · rw [if_pos hs,hs,e]
  · rw [if_neg hs,if_neg (show ¬ 0 = y.m.toNat * 2 ^ (y.e - min x.e y.e).toNat by omega),Nat.sub_zero,e]
section
variable {kind mode:Int} {p w:Nat} (h:kindS kind p w) (hm:0 ≤ mode ∧ mode < 4)
include h hm
theorem rAdd_of {x y:float.number} (hx:NumZ p w x) (hy:NumZ p w y) {a:Int} (hz:x.class_ = 0 → zeroS p w x.sign = a) (t:Bool) (ht:t = (decide (x.class_ = 3) || decide (y.class_ = 3))) :
    Ref1.Add.j2 kind mode a (takS x) (takS y) t = some ((addS p w mode x y).1,(addS p w mode x y).2,0):=by
  have cx:=hx.cls
  have cy:=hy.cls
  have j0:∀ k l,(x.sign = y.sign → 0 < x.m.toNat + y.m.toNat) → Ref1.Add.j0 kind mode k x.sign (dg x.m.toNat) x.e l y.sign (dg y.m.toNat) y.e = some ((sumS p w mode x y).1,(sumS p w mode x y).2,0):=fun k l q=>rsum_j0 h hm hx hy rfl rfl k l q
  subst ht
  have sx:=hx.sgn
  have sy:=hy.sgn
  have px:x.class_ = 1 → 0 < x.m.toNat:=fun c=>by obtain ⟨m,em,m0,_⟩:=hx.mag c; omega
  have py:y.class_ = 1 → 0 < y.m.toNat:=fun c=>by obtain ⟨m,em,m0,_⟩:=hy.mag c; omega
  have eQ:=Quiet_eq h
  have eI:∀ s:Int,(s = 0 ∨ s = 1) → Ref1.Infinite kind s = some (infS p w s):=fun s hs=>Infinite_eq h hs
  unfold Ref1.Add.j2 Ref1.Add.j3 addS takS
  simp only [letkE,what_inf cx,what_zero cx,what_inf cy,what_zero cy]
  rcases cx with cx | cx | cx | cx <;> rcases cy with cy | cy | cy | cy <;> rw [cx,cy] <;> simp only [Bool.or_false,Bool.or_true,condT,condF,decide_true,decide_false,show ((0:Int) = 2) = False by simp,show ((0:Int) = 3) = False by simp,show ((1:Int) = 0) = False by simp,show ((1:Int) = 2) = False by simp,show ((1:Int) = 3) = False by simp,show ((2:Int) = 0) = False by simp,show ((2:Int) = 3) = False by simp,show ((3:Int) = 0) = False by simp,show ((3:Int) = 2) = False by simp,ne_eq,or_self,and_self,and_true,true_and,and_false,false_and,or_true,or_false,if_true,if_false,eQ,eI _ sx,eI _ sy,bindS]
  · have:=hz cx
    by_cases hs:x.sign = y.sign
    · rw [if_pos hs,show (x.sign == y.sign) = true from by rw [beq_iff_eq]; exact hs,cond_true,this]
    · rw [if_neg hs,show (x.sign == y.sign) = false from beq_eq_false_iff_ne.2 hs,cond_false]
      rw [j0 _ _ (fun q=>absurd q hs)]
      have a1:=hx.nil (by rw [cx]; decide)
      have a2:=hy.nil (by rw [cy]; decide)
      unfold sumS
      rw [if_neg hs,a1.1,a2.1]
      simp only [show (0:Int).toNat = 0 from rfl,Nat.zero_mul,if_true]
      rfl
  · rw [j0 _ _ (fun _=>by have:=py cy; omega),sumS_zero (hx.nil (by rw [cx]; decide)).1 (py cy)]
  · rw [j0 _ _ (fun _=>by have:=px cx; omega),sumS_comm,sumS_zero (hy.nil (by rw [cy]; decide)).1 (px cx)]
  · rw [j0 _ _ (fun _=>by have:=px cx; omega)]
  · by_cases hs:x.sign = y.sign
    · rw [show (x.sign != y.sign) = false from by rw [hs]; exact bne_self_eq_false _,cond_false,if_neg (fun q=>q hs)]
    · rw [show (x.sign != y.sign) = true from by rw [bne_iff_ne]; exact hs,cond_true,if_pos hs]
theorem rAdd_eq {a b:Int} (ha:I64 a) (hb:I64 b) (ka:bitsOk p w a) (kb:bitsOk p w b) :
    Ref1.Add kind mode a b = some ((addS p w mode (numS p w a) (numS p w b)).1,(addS p w mode (numS p w a) (numS p w b)).2,0):=by
  unfold Ref1.Add
  rw [asked_ok h hm ha hb ka kb,Option.bind_some,taken_eq h ka,taken_eq h kb]
  have hx:=numS_z h.ok a
  have hy:=numS_z h.ok b
  have hz:=zero_bits h.ok ha ka
  generalize numS p w a = x at *
  generalize numS p w b = y at *
  have key:=fun t ht=>rAdd_of h hm hx hy hz t ht
  simp only [letkE,Bool.not_true,cond_false,Option.bind_some]
  rw [show (takS x).what = classN x.class_ from rfl,show (takS y).what = classN y.class_ from rfl,what_none hx.cls,what_none hy.cls]
  by_cases c:x.class_ = 3
  · rw [decide_eq_true c,cond_true]
    exact key true (by rw [decide_eq_true c]; rfl)
  · rw [decide_eq_false c,cond_false]
    exact key _ (by rw [decide_eq_false c]; rfl)
end
end Go.Q
namespace Go.Q
open Go
set_option maxRecDepth 100000
set_option maxHeartbeats 4000000
theorem sgn_mod {a b:Int} (ha:a = 0 ∨ a = 1) (hb:b = 0 ∨ b = 1):(IntKind.i64.wrap (a + b)).tmod 2 = sgnX a b:=by
  rcases ha with rfl | rfl <;> rcases hb with rfl | rfl <;> decide
theorem takS_sign {p w:Nat} {x:float.number} (hx:NumZ p w x):(takS x).sign = 0 ∨ (takS x).sign = 1:=by
  unfold takS
  simp only
  split
  · exact .inl rfl
  · exact hx.sgn
section
variable {kind mode:Int} {p w:Nat} (h:kindS kind p w)
include h
theorem prod_bits {x y:float.number} (hx:NumZ p w x) (hy:NumZ p w y):bl (x.m.toNat * y.m.toNat) ≤ 200 ∧ bl x.m.toNat ≤ 53 ∧ bl y.m.toNat ≤ 53 ∧ -2000 ≤ x.e ∧ x.e < 1024 ∧ -2000 ≤ y.e ∧ y.e < 1024:=by
  obtain ⟨⟨m,em,m1⟩,ex0,ex1⟩:=fin_bounds h.ok hx
  obtain ⟨⟨n,en,n1⟩,ey0,ey1⟩:=fin_bounds h.ok hy
  have hbm:=bl53 h.ok m1
  have hbn:=bl53 h.ok n1
  rw [em,en,Int.toNat_natCast,Int.toNat_natCast]
  have:=bl_mul m n
  omega
theorem rMul_of (hm:0 ≤ mode ∧ mode < 4) {x y:float.number} (hx:NumZ p w x) (hy:NumZ p w y) {s:Int} (hs:x.class_ ≠ 3 → y.class_ ≠ 3 → s = sgnX x.sign y.sign) (sg:s = 0 ∨ s = 1) (t:Bool) (ht:t = (decide (x.class_ = 3) || decide (y.class_ = 3))) :
    Ref1.Mul.j1 kind mode (takS x) (takS y) s t = some ((mulS p w mode x y).1,(mulS p w mode x y).2,0):=by
  have cx:=hx.cls
  have cy:=hy.cls
  obtain ⟨b1,b2,b3,b4,b5,b6,b7⟩:=prod_bits h hx hy
  have px:x.class_ = 1 → 0 < x.m.toNat:=fun c=>by obtain ⟨m,em,m0,_⟩:=hx.mag c; omega
  have py:y.class_ = 1 → 0 < y.m.toNat:=fun c=>by obtain ⟨m,em,m0,_⟩:=hy.mag c; omega
  have j0:∀ k l u v,x.class_ = 1 → y.class_ = 1 → Ref1.Mul.j0 kind mode s k u (dg x.m.toNat) x.e l v (dg y.m.toNat) y.e = some ((rndS p w mode s (x.m.toNat * y.m.toNat) (x.e + y.e) false).1,(rndS p w mode s (x.m.toNat * y.m.toNat) (x.e + y.e) false).2,0):=by
    intro k l u v c d
    unfold Ref1.Mul.j0
    rw [Times_eq (by omega),bindS]
    simp only [letkE]
    rw [wi (x:=x.e + y.e) (by omega) (by omega),Rounded_eq h hm sg (Nat.mul_pos (px c) (py d)) (by omega) (by omega) (fun q=>by cases q),bindS]
  subst ht
  have eQ:=Quiet_eq h
  have eI:∀ s:Int,(s = 0 ∨ s = 1) → Ref1.Infinite kind s = some (infS p w s):=fun s hs=>Infinite_eq h hs
  have eZ:∀ s:Int,(s = 0 ∨ s = 1) → Ref1.Zero kind s = some (zeroS p w s):=fun s hs=>Zero_eq h hs
  unfold Ref1.Mul.j1 Ref1.Mul.j2 Ref1.Mul.j3 mulS takS
  simp only [letkE,what_inf cx,what_zero cx,what_inf cy,what_zero cy]
  rcases cx with cx | cx | cx | cx <;> rcases cy with cy | cy | cy | cy <;>
    (try have hs:=hs (by rw [cx]; decide) (by rw [cy]; decide)) <;> rw [cx,cy] <;> simp only [Bool.or_false,Bool.or_true,condT,condF,decide_true,decide_false,show ((0:Int) = 2) = False by simp,show ((0:Int) = 3) = False by simp,show ((1:Int) = 0) = False by simp,show ((1:Int) = 2) = False by simp,show ((1:Int) = 3) = False by simp,show ((2:Int) = 0) = False by simp,show ((2:Int) = 3) = False by simp,show ((3:Int) = 0) = False by simp,show ((3:Int) = 2) = False by simp,or_self,and_self,and_true,and_false,or_true,or_false,if_true,if_false,eQ,eI _ sg,eZ _ sg,bindS] <;> (try rw [← hs])
  rw [j0 _ _ _ _ cx cy]
theorem rMul_eq (hm:0 ≤ mode ∧ mode < 4) {a b:Int} (ha:I64 a) (hb:I64 b) (ka:bitsOk p w a) (kb:bitsOk p w b) :
    Ref1.Mul kind mode a b = some ((mulS p w mode (numS p w a) (numS p w b)).1,(mulS p w mode (numS p w a) (numS p w b)).2,0):=by
  unfold Ref1.Mul
  rw [asked_ok h hm ha hb ka kb,bindS,taken_eq h ka,taken_eq h kb]
  have hx:=numS_z h.ok a
  have hy:=numS_z h.ok b
  generalize numS p w a = x at *
  generalize numS p w b = y at *
  have sgx:=takS_sign hx
  have sgy:=takS_sign hy
  have key:=fun s a b t ht=>rMul_of h hm hx hy (s:=s) a b t ht
  simp only [letkE,Bool.not_true,condF,bindS]
  rw [chk_pos (by decide),sgn_mod sgx sgy]
  have hsg:x.class_ ≠ 3 → y.class_ ≠ 3 → sgnX (takS x).sign (takS y).sign = sgnX x.sign y.sign:=by
    intro a b
    unfold takS
    simp only
    rw [if_neg a,if_neg b]
  rw [show (takS x).what = classN x.class_ from rfl,show (takS y).what = classN y.class_ from rfl,what_none hx.cls,what_none hy.cls]
  by_cases c:x.class_ = 3
  · rw [decide_eq_true c,condT]
    exact key _ hsg (sgnX_ok _ _) true (by rw [decide_eq_true c]; rfl)
  · rw [decide_eq_false c,condF]
    exact key _ hsg (sgnX_ok _ _) _ (by rw [decide_eq_false c]; rfl)
theorem rDiv_of (hm:0 ≤ mode ∧ mode < 4) {x y:float.number} (hx:NumZ p w x) (hy:NumZ p w y) {s:Int} (hs:x.class_ ≠ 3 → y.class_ ≠ 3 → s = sgnX x.sign y.sign) (sg:s = 0 ∨ s = 1) (t:Bool) (ht:t = (decide (x.class_ = 3) || decide (y.class_ = 3))) :
    Ref1.Div.j1 kind mode (takS x) (takS y) s t = some ((divS p w mode x y).1,(divS p w mode x y).2,0):=by
  obtain ⟨h1,h2,h3,h4,h5,h6⟩:=h.ok.facts
  have cx:=hx.cls
  have cy:=hy.cls
  obtain ⟨b1,b2,b3,b4,b5,b6,b7⟩:=prod_bits h hx hy
  have px:x.class_ = 1 → 0 < x.m.toNat:=fun c=>by obtain ⟨m,em,m0,_⟩:=hx.mag c; omega
  have py:y.class_ = 1 → 0 < y.m.toNat:=fun c=>by obtain ⟨m,em,m0,_⟩:=hy.mag c; omega
  have py2:y.class_ = 1 → y.m.toNat < 2 ^ p:=fun c=>by obtain ⟨m,em,m0,m1,_⟩:=hy.mag c; omega
  have j0:∀ k l u v,x.class_ = 1 → y.class_ = 1 → Ref1.Div.j0 kind mode s k u (dg x.m.toNat) x.e l v (dg y.m.toNat) y.e =
      some ((quoS p w mode s (x.m.toNat * 2 ^ (2 * p + 4)) y.m.toNat (x.e - y.e - ((2 * p + 4:Nat):Int))).1,(quoS p w mode s (x.m.toNat * 2 ^ (2 * p + 4)) y.m.toNat (x.e - y.e - ((2 * p + 4:Nat):Int))).2,0):=by
    intro k l u v c d
    have pxx:=px c
    have pyy:=py d
    have pyy2:=py2 d
    unfold Ref1.Div.j0
    rw [Digits_eq h,bindS]
    simp only [letkE,bindS]
    rw [wi (x:=2 * (p:Int)) (by omega) (by omega),wi (x:=2 * (p:Int) + 4) (by omega) (by omega),Up_eq (n:=x.m.toNat) (k:=2 * p + 4) (by omega) (by omega) (by omega),bindS]
    have hup:bl (x.m.toNat * 2 ^ (2 * p + 4)) = bl x.m.toNat + (2 * p + 4):=bl_shift pxx
    rw [Divide_eq pyy (by omega) (by omega),bindS]
    dsimp only
    rw [wi (x:=x.e - y.e) (by omega) (by omega),wi (x:=x.e - y.e - 2 * (p:Int)) (by omega) (by omega),wi (x:=x.e - y.e - 2 * (p:Int) - 4) (by omega) (by omega),dg_len]
    have q1:2 ^ p ≤ x.m.toNat * 2 ^ (2 * p + 4) / y.m.toNat:=by
      rw [Nat.le_div_iff_mul_le pyy]
      have i1:2 ^ p * y.m.toNat ≤ 2 ^ p * 2 ^ p:=Nat.mul_le_mul_left _ (by omega)
      rw [← Nat.pow_add] at i1
      have i2:2 ^ (p + p) ≤ 1 * 2 ^ (2 * p + 4):=by rw [Nat.one_mul]; exact Nat.pow_le_pow_right (by decide) (by omega)
      have i3:1 * 2 ^ (2 * p + 4) ≤ x.m.toNat * 2 ^ (2 * p + 4):=Nat.mul_le_mul_right _ pxx
      omega
    have hq0:0 < x.m.toNat * 2 ^ (2 * p + 4) / y.m.toNat:=Nat.lt_of_lt_of_le (Nat.two_pow_pos p) q1
    have hbq:bl (x.m.toNat * 2 ^ (2 * p + 4) / y.m.toNat) ≤ 300:=by
      have:=bl_mono (Nat.div_le_self (x.m.toNat * 2 ^ (2 * p + 4)) y.m.toNat)
      omega
    have emore:decide (((bl (x.m.toNat * 2 ^ (2 * p + 4) % y.m.toNat):Nat):Int) > 0) = decide (x.m.toNat * 2 ^ (2 * p + 4) % y.m.toNat ≠ 0):=by
      rw [decide_eq_decide]
      have:=bl_zero_iff (n:=x.m.toNat * 2 ^ (2 * p + 4) % y.m.toNat)
      omega
    rw [emore,Rounded_eq h hm sg hq0 (by omega) (by omega) (fun _=>last_gt q1),bindS]
    rw [show x.e - y.e - 2 * (p:Int) - 4 = x.e - y.e - ((2 * p + 4:Nat):Int) by omega]
    rfl
  subst ht
  have eQ:=Quiet_eq h
  have eI:∀ s:Int,(s = 0 ∨ s = 1) → Ref1.Infinite kind s = some (infS p w s):=fun s hs=>Infinite_eq h hs
  have eZ:∀ s:Int,(s = 0 ∨ s = 1) → Ref1.Zero kind s = some (zeroS p w s):=fun s hs=>Zero_eq h hs
  unfold Ref1.Div.j1 Ref1.Div.j2 divS takS
  simp only [letkE,what_inf cx,what_zero cx,what_inf cy,what_zero cy]
  rcases cx with cx | cx | cx | cx <;> rcases cy with cy | cy | cy | cy <;>
    (try have hs:=hs (by rw [cx]; decide) (by rw [cy]; decide)) <;> rw [cx,cy] <;> simp only [Bool.or_false,Bool.or_true,condT,condF,decide_true,decide_false,show ((0:Int) = 1) = False by simp,show ((0:Int) = 2) = False by simp,show ((0:Int) = 3) = False by simp,show ((1:Int) = 0) = False by simp,show ((1:Int) = 2) = False by simp,show ((1:Int) = 3) = False by simp,show ((2:Int) = 0) = False by simp,show ((2:Int) = 1) = False by simp,show ((2:Int) = 3) = False by simp,show ((3:Int) = 0) = False by simp,show ((3:Int) = 1) = False by simp,show ((3:Int) = 2) = False by simp,ne_eq,not_true_eq_false,not_false_eq_true,or_self,and_self,and_true,and_false,or_true,or_false,if_true,if_false,eQ,eI _ sg,eZ _ sg,bindS] <;> (try rw [← hs])
  rw [j0 _ _ _ _ cx cy]
theorem rDiv_eq (hm:0 ≤ mode ∧ mode < 4) {a b:Int} (ha:I64 a) (hb:I64 b) (ka:bitsOk p w a) (kb:bitsOk p w b) :
    Ref1.Div kind mode a b = some ((divS p w mode (numS p w a) (numS p w b)).1,(divS p w mode (numS p w a) (numS p w b)).2,0):=by
  unfold Ref1.Div
  rw [asked_ok h hm ha hb ka kb,bindS,taken_eq h ka,taken_eq h kb]
  have hx:=numS_z h.ok a
  have hy:=numS_z h.ok b
  generalize numS p w a = x at *
  generalize numS p w b = y at *
  have sgx:=takS_sign hx
  have sgy:=takS_sign hy
  have key:=fun s a b t ht=>rDiv_of h hm hx hy (s:=s) a b t ht
  simp only [letkE,Bool.not_true,condF,bindS]
  rw [chk_pos (by decide),sgn_mod sgx sgy]
  have hsg:x.class_ ≠ 3 → y.class_ ≠ 3 → sgnX (takS x).sign (takS y).sign = sgnX x.sign y.sign:=by
    intro a b
    unfold takS
    simp only
    rw [if_neg a,if_neg b]
  rw [show (takS x).what = classN x.class_ from rfl,show (takS y).what = classN y.class_ from rfl,what_none hx.cls,what_none hy.cls]
  by_cases c:x.class_ = 3
  · rw [decide_eq_true c,condT]
    exact key _ hsg (sgnX_ok _ _) true (by rw [decide_eq_true c]; rfl)
  · rw [decide_eq_false c,condF]
    exact key _ hsg (sgnX_ok _ _) _ (by rw [decide_eq_false c]; rfl)
theorem rFromInt_eq (hm:0 ≤ mode ∧ mode < 4) {n:Int} (hn:I64 n):Ref1.FromInt kind mode n = some ((fromS p w mode n).1,(fromS p w mode n).2,0):=by
  unfold I64 at hn
  have hp:=h.ok.facts
  unfold Ref1.FromInt Ref1.IsMode
  rw [Digits_eq h,bindS]
  simp only [letkE]
  rw [show ((p:Int) == 0) = false from by rw [beq_eq_false_iff_ne]; omega,condF,decide_eq_true (show mode ≥ 0 from hm.1),condT,decide_eq_true (show mode ≤ 3 by omega),bindS,Bool.not_true,condF]
  unfold Ref1.FromInt.j0 fromS
  simp only [letkE]
  by_cases c0:n = 0
  · subst c0
    rw [show ((0:Int) == 0) = true from rfl,condT,Zero_eq h (.inl rfl),if_pos rfl,bindS]
  · rw [show (n == 0) = false from beq_eq_false_iff_ne.2 c0,condF,if_neg c0]
    have hb:bl n.natAbs ≤ 64:=bl_le_iff.2 (by rw [pow64]; omega)
    by_cases c1:n < 0
    · rw [decide_eq_true c1,condT,if_pos c1]
      have e:IntKind.u64.wrap (IntKind.i64.wrap (0 - n)) = ((n.natAbs:Nat):Int):=by
        by_cases c2:n = -9223372036854775808
        · subst c2; rfl
        · rw [wi (x:=0 - n) (by omega) (by omega),wu (x:=0 - n) (by omega) (by omega)]; omega
      rw [Of_eq (N:=n.natAbs) (by omega) e,bindS,Rounded_eq h hm (.inr rfl) (by omega) (by omega) (by omega) (fun q=>by cases q),bindS]
    · rw [decide_eq_false c1,condF,if_neg c1]
      rw [Of_eq (N:=n.natAbs) (by omega) (by rw [wu (x:=n) (by omega) (by omega)]; omega),bindS,Rounded_eq h hm (.inl rfl) (by omega) (by omega) (by omega) (fun q=>by cases q),bindS]
theorem rConvert_eq {k2:Int} {p2 w2:Nat} (h':kindS k2 p2 w2) (hm:0 ≤ mode ∧ mode < 4) {a:Int} (ha:I64 a) (ka:bitsOk p w a) :
    Ref1.Convert kind k2 mode a = some ((convS p2 w2 mode (numS p w a)).1,(convS p2 w2 mode (numS p w a)).2,0):=by
  have hp:=h'.ok.facts
  unfold Ref1.Convert
  rw [asked_ok h hm ha ha ka ka,bindS,Digits_eq h']
  simp only [letkE,Bool.not_true,condF,bindS]
  rw [show ((p2:Int) == 0) = false from by rw [beq_eq_false_iff_ne]; omega,condF]
  unfold Ref1.Convert.j0
  rw [taken_eq h ka,bindS]
  have hx:=numS_z h.ok a
  generalize numS p w a = x at *
  have cx:=hx.cls
  have sx:=hx.sgn
  obtain ⟨⟨m,em,m1⟩,ex0,ex1⟩:=fin_bounds h.ok hx
  have hbm:=bl53 h.ok m1
  have eQ:=Quiet_eq h'
  have eI:∀ s:Int,(s = 0 ∨ s = 1) → Ref1.Infinite k2 s = some (infS p2 w2 s):=fun s hs=>Infinite_eq h' hs
  have eZ:∀ s:Int,(s = 0 ∨ s = 1) → Ref1.Zero k2 s = some (zeroS p2 w2 s):=fun s hs=>Zero_eq h' hs
  have px:x.class_ = 1 → 0 < m:=fun c=>by obtain ⟨m,em,m0,_⟩:=hx.mag c; omega
  unfold convS takS
  simp only [letkE,what_inf cx,what_zero cx,what_none cx]
  rcases cx with cx | cx | cx | cx <;> rw [cx] <;> simp only [condT,condF,decide_true,decide_false,show ((0:Int) = 2) = False by simp,show ((0:Int) = 3) = False by simp,show ((1:Int) = 0) = False by simp,show ((1:Int) = 2) = False by simp,show ((1:Int) = 3) = False by simp,show ((2:Int) = 0) = False by simp,show ((2:Int) = 3) = False by simp,show ((3:Int) = 0) = False by simp,show ((3:Int) = 2) = False by simp,if_true,if_false,eQ,eI _ sx,eZ _ sx,bindS]
  rw [em,Int.toNat_natCast,Rounded_eq h' hm sx (px cx) (by omega) (by omega) (fun q=>by cases q),bindS]
end
end Go.Q
namespace Go.Q
open Go
set_option maxRecDepth 100000
set_option maxHeartbeats 4000000
theorem numS_sign {p w:Nat} (a:Int):(numS p w a).sign = sgnS p w (a % 18446744073709551616).toNat:=by
  unfold numS readS
  repeat' split
  all_goals rfl
theorem cmpN_four (a b:Nat):cmpN (4 * a) (4 * b) = cmpN a b:=by
  unfold cmpN
  by_cases h1:a < b
  · rw [if_pos h1,if_pos (by omega)]
  · rw [if_neg h1,if_neg (by omega)]
    by_cases h2:b < a
    · rw [if_pos h2,if_pos (by omega)]
    · rw [if_neg h2,if_neg (by omega)]
theorem rToInt_j1 {sign:Int} {W:Nat} {flags:Int} (hs:sign = 0 ∨ sign = 1) (hW:bl W ≤ 2000) (a:ByteArray) (b:List Int) (c:Int) :
    Ref1.ToInt.j1 a sign b c (dg W) flags = some (if 9223372036854775808 < W ∨ (W = 9223372036854775808 ∧ sign = 0) then (0,0,10) else (if sign = 1 then -(W:Int) else W,flags,0)):=by
  unfold Ref1.ToInt.j1
  have e63:(1:Nat) * 2 ^ 63 = 9223372036854775808:=by decide
  rw [Of_eq (N:=1) (by decide) (x:=1) rfl,bindS,Up_eq (n:=1) (k:=63) (K:=63) rfl (by decide) (by decide),bindS,e63,Cmp_eq (by omega) (by have:bl 9223372036854775808 ≤ 64:=bl_le_iff.2 (by decide); omega),bindS]
  simp only [letkE]
  have j2:W ≤ 9223372036854775808 → (W = 9223372036854775808 → sign = 1) → Ref1.ToInt.j2 (dg W) flags a sign b c = some (if sign = 1 then -(W:Int) else W,flags,0):=by
    intro q1 q2
    unfold Ref1.ToInt.j2
    rw [Int_eq,bindS,Nat.mod_eq_of_lt (by omega)]
    simp only [letkE]
    rcases hs with rfl | rfl
    · rw [show ((0:Int) == 1) = false from rfl,condF,if_neg (by decide),wi (x:=(W:Int)) (by omega) (by have:=q2; omega)]
    · rw [show ((1:Int) == 1) = true from rfl,condT,if_pos rfl]
      have e:IntKind.i64.wrap (0 - IntKind.i64.wrap (W:Int)) = -(W:Int):=by
        by_cases q3:W = 9223372036854775808
        · subst q3; rfl
        · rw [wi (x:=(W:Int)) (by omega) (by omega),wi (by omega) (by omega)]; omega
      rw [e]
  unfold cmpN
  by_cases h1:W < 9223372036854775808
  · rw [if_pos h1,show decide ((-1:Int) > 0) = false from rfl,condF,show ((-1:Int) == 0) = false from rfl,condF,if_neg (show ¬ (9223372036854775808 < W ∨ (W = 9223372036854775808 ∧ sign = 0)) by omega),j2 (by omega) (by omega)]
  · rw [if_neg h1]
    by_cases h2:9223372036854775808 < W
    · rw [if_pos h2,show decide ((1:Int) > 0) = true from rfl,condT,if_pos (.inl h2)]
    · rw [if_neg h2,show decide ((0:Int) > 0) = false from rfl,condF,show ((0:Int) == 0) = true from rfl,condT]
      rcases hs with rfl | rfl
      · rw [show ((0:Int) == 0) = true from rfl,condT,if_pos (.inr ⟨by omega,rfl⟩)]
      · rw [show ((1:Int) == 0) = false from rfl,condF,if_neg (show ¬ (9223372036854775808 < W ∨ (W = 9223372036854775808 ∧ (1:Int) = 0)) by omega),j2 (by omega) (fun _=>rfl)]
section
variable {kind mode:Int} {p w:Nat} (h:kindS kind p w)
include h
theorem rToInt_eq (hm:0 ≤ mode ∧ mode < 4) {a:Int} (ha:I64 a) (ka:bitsOk p w a):Ref1.ToInt kind mode a = some (toS mode (numS p w a)):=by
  unfold Ref1.ToInt
  rw [asked_ok h hm ha ha ka ka,bindS,taken_eq h ka]
  have hx:=numS_z h.ok a
  generalize numS p w a = x at *
  have cx:=hx.cls
  obtain ⟨⟨m,em,m1⟩,ex0,ex1⟩:=fin_bounds h.ok hx
  have hbm:=bl53 h.ok m1
  simp only [letkE,Bool.not_true,condF,bindS]
  rw [show (takS x).what = classN x.class_ from rfl,what_none cx,what_inf cx]
  unfold Ref1.ToInt.j3
  simp only [letkE]
  rw [show (takS x).what = classN x.class_ from rfl,what_zero cx]
  unfold toS
  rcases cx with cx | cx | cx | cx
  · rw [cx]; rfl
  · obtain ⟨m',em',m0,_⟩:=hx.mag cx
    have sx:=hx.sgn
    have hm0:0 < m:=by omega
    have esg:(takS x).sign = x.sign:=by unfold takS; simp only; rw [if_neg (by rw [cx]; decide)]
    rw [cx]
    simp only [show decide ((1:Int) = 3) = false from rfl,show decide ((1:Int) = 2) = false from rfl,condF,decide_false,show ¬ ((1:Int) = 3 ∨ (1:Int) = 2) by decide,show ¬ ((1:Int) = 0) by decide,if_false]
    unfold Ref1.ToInt.j0
    simp only [letkE]
    rw [show (takS x).m = dg x.m.toNat from rfl,show (takS x).e = x.e from rfl,esg,em,Int.toNat_natCast]
    have e0:(if 0 > x.e then 0 else x.e) = (((max x.e 0).toNat:Nat):Int):=by split <;> omega
    rw [e0,Up_eq rfl (by omega) (by omega),bindS]
    by_cases he:0 ≤ x.e
    · have hw:wholeS m x.e = m * 2 ^ x.e.toNat:=by unfold wholeS; rw [if_pos he]
      have hr:wrestS m x.e = 0:=by unfold wrestS; rw [if_pos he]
      have hu:wupS mode x.sign m x.e = wholeS m x.e:=by unfold wupS; rw [hr,awayS_zero,if_neg (by decide)]
      rw [decide_eq_false (show ¬ x.e < 0 by omega),condF,show (max x.e 0).toNat = x.e.toNat by omega]
      rw [rToInt_j1 sx (by rw [bl_shift hm0]; omega),hu,hw,hr]
      try rfl
    · obtain ⟨n,hn⟩:=Int.eq_ofNat_of_zero_le (show 0 ≤ 0 - x.e by omega)
      have hnt:(-x.e).toNat = n:=by omega
      have hw:wholeS m x.e = m / 2 ^ n:=by unfold wholeS; rw [if_neg he,hnt]
      have hr:wrestS m x.e = restC m n false:=by unfold wrestS; rw [if_neg he,hnt]
      have hbd:bl (m / 2 ^ n) ≤ 53:=by have:=bl_mono (Nat.div_le_self m (2 ^ n)); omega
      have hdm:m - m / 2 ^ n * 2 ^ n = m % 2 ^ n:=by
        have:=Nat.div_add_mod m (2 ^ n)
        rw [Nat.mul_comm] at this
        omega
      have hbr:bl (m % 2 ^ n) ≤ 53:=by have:=bl_mono (Nat.mod_le m (2 ^ n)); omega
      rw [decide_eq_true (show x.e < 0 by omega),condT,wi (x:=0 - x.e) (by omega) (by omega),hn,Down_eq rfl (by omega),bindS,Up_eq rfl (by omega) (by omega),bindS,Minus_eq (Nat.div_mul_le_self _ _) (by omega),bindS,hdm,dg_len]
      have hz:=restC_zero_iff (N:=m) (n:=n) (by omega) false
      have hb0:=bl_zero_iff (n:=m % 2 ^ n)
      by_cases h0:m % 2 ^ n = 0
      · have hr0:restC m n false = 0:=hz.2 ⟨h0,rfl⟩
        have hu:wupS mode x.sign m x.e = wholeS m x.e:=by unfold wupS; rw [hr,hr0,awayS_zero,if_neg (by decide)]
        rw [decide_eq_false (show ¬ ((bl (m % 2 ^ n):Nat):Int) > 0 by omega),condF,rToInt_j1 sx (by omega),hu,hw,hr,hr0]
        try rfl
      · have hr0:0 < restC m n false:=by
          rcases Nat.eq_zero_or_pos (restC m n false) with q | q
          · exact absurd (hz.1 q).1 h0
          · exact q
        have hcm:=half_rest (N:=m) (n:=n) (by omega) hr0
        rw [if_neg (fun q=>by cases q.2),show n + 1 = (n - 1) + 2 by omega,Nat.pow_add,Nat.mul_comm (2 ^ (n - 1)),show (2:Nat) ^ 2 = 4 from rfl,cmpN_four] at hcm
        have hb2:bl (1 * 2 ^ (n - 1)) ≤ 3000:=by rw [bl_shift (by decide)]; have:bl 1 = 1:=rfl; omega
        rw [decide_eq_true (show ((bl (m % 2 ^ n):Nat):Int) > 0 by omega),condT,Of_eq (N:=1) (by decide) (x:=1) rfl,bindS,wi (x:=(n:Int) - 1) (by omega) (by omega),Up_eq (n:=1) (k:=n - 1) (by omega) (by omega) (by decide),bindS,Cmp_eq (by omega) (by omega),bindS]
        rw [show Ref1.digit (dg (m / 2 ^ n)) 0 = some ((bd (m / 2 ^ n) 0:Nat):Int) from digit_dg _ 0,bindS]
        have eb:bd (m / 2 ^ n) 0 = m / 2 ^ n % 2:=by unfold bd; rw [Nat.pow_zero,Nat.div_one]
        rw [eb,show (((m / 2 ^ n % 2:Nat):Int) == 1) = decide (m / 2 ^ n % 2 = 1) from beq_nat _ 1,Nat.one_mul,hcm,goesUp_eq hr0 (restC_le _ _ _),bindS]
        have hb3:bl (m / 2 ^ n + 1) ≤ 1000:=by
          have:bl (m / 2 ^ n + 1) ≤ 54:=by
            rw [bl_le_iff]
            have:=bl_le_iff.1 hbd
            rw [Nat.pow_succ]; omega
          omega
        have hu:wupS mode x.sign m x.e = if awayS mode x.sign (decide (m / 2 ^ n % 2 = 1)) (restC m n false) = true then m / 2 ^ n + 1 else m / 2 ^ n:=by unfold wupS; rw [hr,hw]
        by_cases haw:awayS mode x.sign (decide (m / 2 ^ n % 2 = 1)) (restC m n false) = true
        · rw [if_pos haw] at hu
          rw [haw,condT,bindS,Plus_eq (by omega),bindS,rToInt_j1 sx (by omega),hu,hr,if_pos hr0]
        · rw [if_neg haw] at hu
          simp only [Bool.not_eq_true] at haw
          rw [haw,condF,rToInt_j1 sx (by omega),hu,hr,if_pos hr0]
  · rw [cx]; rfl
  · rw [cx]; rfl
theorem rsize_eq {a:Int}:Ref1.size kind a = some (sizeS p w a:Int):=by
  obtain ⟨h1,h2,h3,h4,h5,h6⟩:=h.ok.facts
  have hs:=size_lt h.ok a
  have hk:=mask_eq h.ok a
  unfold Ref1.size
  rw [h.eight]
  simp only [letkE]
  rw [wi (x:=((p + w:Nat):Int)) (by omega) (by omega),wi (x:=((p + w:Nat):Int) - 1) (by omega) (by omega),chk_pos (by omega)]
  rw [show (((p + w:Nat):Int) - 1) = ((p:Int) + w - 1) by omega,hk,wi (x:=(sizeS p w a:Int)) (by omega) (by omega)]
theorem size_zero {a:Int} (c:(numS p w a).class_ = 0):sizeS p w a = 0:=by
  obtain ⟨h1,h2,h3,h4,h5,h6⟩:=h.ok.facts
  unfold numS readS at c
  generalize hu:(a % 18446744073709551616).toNat = u at *
  have hz:expS p w u = 0 ∧ frcS p u = 0:=by
    by_cases q1:expS p w u = 2 ^ w - 1 ∧ frcS p u = 0
    · rw [if_pos q1] at c; cases c
    · rw [if_neg q1] at c
      by_cases q2:expS p w u = 2 ^ w - 1
      · rw [if_pos q2] at c; cases c
      · rw [if_neg q2] at c
        by_cases q3:expS p w u = 0 ∧ frcS p u = 0
        · exact q3
        · rw [if_neg q3] at c
          by_cases q4:expS p w u = 0
          · rw [if_pos q4] at c; cases c
          · rw [if_neg q4] at c; cases c
  unfold sizeS
  rw [hu,show p + w - 1 = (p - 1) + w by omega,Nat.pow_add,Nat.mod_mul]
  rw [show u % 2 ^ (p - 1) = 0 from hz.2,show u / 2 ^ (p - 1) % 2 ^ w = 0 from hz.1,Nat.mul_zero]
theorem rCompare_eq {a b:Int} (ha:I64 a) (hb:I64 b) (ka:bitsOk p w a) (kb:bitsOk p w b):Ref1.Compare kind a b = some (cmpS p w a b (numS p w a) (numS p w b),0):=by
  have sa:=size_lt h.ok a
  have sb:=size_lt h.ok b
  have hx:=numS_z h.ok a
  have hy:=numS_z h.ok b
  unfold Ref1.Compare
  rw [asked_ok h (by decide) ha hb ka kb,bindS,taken_eq h ka,taken_eq h kb]
  simp only [letkE,Bool.not_true,condF,bindS]
  rw [show (takS (numS p w a)).what = classN (numS p w a).class_ from rfl,show (takS (numS p w b)).what = classN (numS p w b).class_ from rfl,what_none hx.cls,what_none hy.cls]
  unfold cmpS
  by_cases cx:(numS p w a).class_ = 3
  · rw [decide_eq_true cx,condT,if_pos (.inl cx)]
  · rw [decide_eq_false cx,condF]
    by_cases cy:(numS p w b).class_ = 3
    · rw [decide_eq_true cy,condT,if_pos (.inr cy)]
    · rw [decide_eq_false cy,condF,if_neg (by rintro (q | q); exact cx q; exact cy q)]
      unfold Ref1.Compare.j0
      rw [rsize_eq h,bindS,rsize_eq h,bindS]
      simp only [letkE]
      have e1:(takS (numS p w a)).sign = sgnS p w (a % 18446744073709551616).toNat:=by unfold takS; simp only; rw [if_neg cx,numS_sign]
      have e2:(takS (numS p w b)).sign = sgnS p w (b % 18446744073709551616).toNat:=by unfold takS; simp only; rw [if_neg cy,numS_sign]
      have j2:Ref1.Compare.j2 (placeS p w a) (placeS p w b) = some (if (numS p w a).class_ = 0 ∧ (numS p w b).class_ = 0 then 0 else if placeS p w a < placeS p w b then -1 else if placeS p w b < placeS p w a then 1 else 0,0):=by
        unfold Ref1.Compare.j2
        simp only [letkE]
        by_cases cz:(numS p w a).class_ = 0 ∧ (numS p w b).class_ = 0
        · rw [if_pos cz]
          have z1:=size_zero h cz.1
          have z2:=size_zero h cz.2
          have p1:placeS p w a = 0:=by unfold placeS; rw [z1]; split <;> rfl
          have p2:placeS p w b = 0:=by unfold placeS; rw [z2]; split <;> rfl
          rw [p1,p2]; rfl
        · rw [if_neg cz]
          by_cases c1:placeS p w a < placeS p w b
          · rw [decide_eq_true c1,condT,if_pos c1]
          · rw [decide_eq_false c1,condF,if_neg c1]
            by_cases c2:placeS p w b < placeS p w a
            · rw [decide_eq_true (show placeS p w a > placeS p w b from c2),condT,if_pos c2]
            · rw [decide_eq_false (show ¬ placeS p w a > placeS p w b from c2),condF,if_neg c2]
      have pa:∀ q:Nat,q = sgnS p w (a % 18446744073709551616).toNat → placeS p w a = if q = 1 then -(sizeS p w a:Int) else sizeS p w a:=by rintro q rfl; rfl
      have pb:∀ q:Nat,q = sgnS p w (b % 18446744073709551616).toNat → placeS p w b = if q = 1 then -(sizeS p w b:Int) else sizeS p w b:=by rintro q rfl; rfl
      have pa:=pa _ rfl
      have pb:=pb _ rfl
      rw [e1]
      unfold Ref1.Compare.j1
      simp only [letkE]
      rw [e2]
      generalize sgnS p w (a % 18446744073709551616).toNat = s at *
      generalize sgnS p w (b % 18446744073709551616).toNat = t at *
      rw [show ((s:Int) == 1) = decide (s = 1) from beq_nat _ 1,show ((t:Int) == 1) = decide (t = 1) from beq_nat _ 1,wi (x:=0 - (sizeS p w a:Int)) (by omega) (by omega),wi (x:=0 - (sizeS p w b:Int)) (by omega) (by omega),Int.zero_sub,Int.zero_sub]
      rw [pa,pb] at j2
      rw [pa,pb]
      by_cases q1:s = 1 <;> by_cases q2:t = 1
      · simp only [decide_eq_true q1,decide_eq_true q2,condT,if_pos q1,if_pos q2] at j2 ⊢; exact j2
      · simp only [decide_eq_true q1,decide_eq_false q2,condT,condF,if_pos q1,if_neg q2] at j2 ⊢; exact j2
      · simp only [decide_eq_false q1,decide_eq_true q2,condT,condF,if_neg q1,if_pos q2] at j2 ⊢; exact j2
      · simp only [decide_eq_false q1,decide_eq_false q2,condF,if_neg q1,if_neg q2] at j2 ⊢; exact j2
end
end Go.Q
namespace Go.Q
open Go
set_option maxRecDepth 100000
set_option maxHeartbeats 4000000
theorem xor_top {k s r:Nat} (hs:s ≤ 1) (hr:r < 2 ^ k):(s * 2 ^ k + r) ^^^ 2 ^ k = (1 - s) * 2 ^ k + r:=by
  apply Nat.eq_of_testBit_eq
  intro j
  rw [Nat.testBit_xor,Nat.mul_comm s,Nat.mul_comm (1 - s),Nat.testBit_two_pow_mul_add _ hr,Nat.testBit_two_pow_mul_add _ hr,Nat.testBit_two_pow]
  by_cases h1:j < k
  · rw [if_pos h1,if_pos h1,decide_eq_false (by omega)]; simp
  · rw [if_neg h1,if_neg h1]
    by_cases h2:k = j
    · subst h2
      rw [decide_eq_true rfl,Nat.sub_self]
      rcases (by omega:s = 0 ∨ s = 1) with rfl | rfl <;> rfl
    · rw [decide_eq_false h2]
      have e:∀ t,t ≤ 1 → t.testBit (j - k) = false:=fun t ht=>Nat.testBit_lt_two_pow (Nat.lt_of_le_of_lt ht (Nat.one_lt_two_pow (by omega)))
      rw [e s hs,e (1 - s) (by omega)]; rfl
theorem xor_u (a b:Nat) (ha:a < 18446744073709551616) (hb:b < 18446744073709551616):IntKind.u64.wrap (((BitVec.ofInt IntKind.u64.bits (a:Int) ^^^ BitVec.ofInt IntKind.u64.bits (b:Int)).toNat:Nat):Int) = ((a ^^^ b:Nat):Int):=by
  rw [BitVec.toNat_xor,bv_nat a ha,bv_nat b hb,wuN]
  have:a ^^^ b < 2 ^ 64:=Nat.xor_lt_two_pow ha hb
  rw [Nat.mod_eq_of_lt this]
theorem wrap_mod {v:Nat} (hv:v < 18446744073709551616):IntKind.i64.wrap (v:Int) % 18446744073709551616 = v ∧ I64 (IntKind.i64.wrap (v:Int)):=by
  unfold I64
  rcases Nat.lt_or_ge v 9223372036854775808 with q | q
  · rw [wi (by omega) (by omega)]; omega
  · rw [wi_neg (by omega) (by omega)]; omega
section
variable {kind mode:Int} {p w:Nat} (h:kindS kind p w)
include h
theorem bits_split {a:Int} (hb:bitsOk p w a):(a % 18446744073709551616).toNat = sgnS p w (a % 18446744073709551616).toNat * 2 ^ (p + w - 1) + sizeS p w a ∧ sgnS p w (a % 18446744073709551616).toNat ≤ 1 ∧ sizeS p w a < 2 ^ (p + w - 1):=by
  obtain ⟨h1,h2,h3,h4,h5,h6⟩:=h.ok.facts
  unfold bitsOk at hb
  unfold sizeS sgnS
  generalize hu:(a % 18446744073709551616).toNat = u at *
  have hlt:u < 18446744073709551616:=by omega
  have hpw:u < 2 ^ (p + w):=by
    by_cases q:p + w < 64
    · by_cases q2:2 ^ (p + w) ≤ u
      · exact absurd ⟨q,q2⟩ hb
      · omega
    · rw [show p + w = 64 by omega,pow64]; exact hlt
  have e3:u / 2 ^ (p + w - 1) < 2:=by
    rw [Nat.div_lt_iff_lt_mul (Nat.two_pow_pos _),Nat.mul_comm,← Nat.pow_succ,show (p + w - 1).succ = p + w by omega]
    exact hpw
  have:=Nat.div_add_mod u (2 ^ (p + w - 1))
  rw [Nat.mul_comm] at this
  rw [Nat.mod_eq_of_lt e3]
  exact ⟨this.symm,by omega,Nat.mod_lt _ (Nat.two_pow_pos _)⟩
theorem fields_of {t r:Nat} (ht:t ≤ 1) (hr:r < 2 ^ (p + w - 1)):expS p w (t * 2 ^ (p + w - 1) + r) = r / 2 ^ (p - 1) ∧ frcS p (t * 2 ^ (p + w - 1) + r) = r % 2 ^ (p - 1) ∧ sgnS p w (t * 2 ^ (p + w - 1) + r) = t:=by
  obtain ⟨h1,h2,h3,h4,h5,h6⟩:=h.ok.facts
  have e:t * 2 ^ (p + w - 1) + r = 2 ^ (p - 1) * (t * 2 ^ w) + r:=by
    rw [Nat.mul_left_comm,← Nat.pow_add,show p - 1 + w = p + w - 1 by omega]
  have hrw:r / 2 ^ (p - 1) < 2 ^ w:=by
    rw [Nat.div_lt_iff_lt_mul (Nat.two_pow_pos _),← Nat.pow_add,show w + (p - 1) = p + w - 1 by omega]
    exact hr
  refine ⟨?_,?_,?_⟩
  · unfold expS
    rw [e,Nat.mul_add_div (Nat.two_pow_pos _),Nat.mul_comm t,Nat.mul_add_mod,Nat.mod_eq_of_lt hrw]
  · unfold frcS
    rw [e,Nat.mul_add_mod]
  · unfold sgnS
    rw [Nat.mul_comm t,Nat.mul_add_div (Nat.two_pow_pos _),Nat.div_eq_of_lt hr,Nat.add_zero,Nat.mod_eq_of_lt (by omega)]
theorem readS_sign {s t r:Nat} (hs:s ≤ 1) (ht:t ≤ 1) (hr:r < 2 ^ (p + w - 1)):readS p w (t * 2 ^ (p + w - 1) + r) = ⟨(readS p w (s * 2 ^ (p + w - 1) + r)).class_,t,(readS p w (s * 2 ^ (p + w - 1) + r)).m,(readS p w (s * 2 ^ (p + w - 1) + r)).e⟩:=by
  obtain ⟨a1,a2,a3⟩:=fields_of h hs hr
  obtain ⟨b1,b2,b3⟩:=fields_of h ht hr
  unfold readS
  rw [a1,a2,a3,b1,b2,b3]
  repeat' split
  all_goals rfl
noncomputable def negS (p w:Nat) (a:Int):Int:=signS p w (fun s=>1 - s) a (numS p w a)
theorem neg_bits {a:Int} (hb:bitsOk p w a) (c:(numS p w a).class_ ≠ 3):negS p w a = IntKind.i64.wrap (((1 - sgnS p w (a % 18446744073709551616).toNat) * 2 ^ (p + w - 1) + sizeS p w a:Nat):Int) ∧ (1 - sgnS p w (a % 18446744073709551616).toNat) * 2 ^ (p + w - 1) + sizeS p w a < 2 ^ (p + w):=by
  obtain ⟨h1,h2,h3,h4,h5,h6⟩:=h.ok.facts
  obtain ⟨e1,e2,e3⟩:=bits_split h hb
  unfold negS signS
  rw [if_neg c,numS_sign]
  refine ⟨?_,?_⟩
  · rw [show ((1:Int) - ((sgnS p w (a % 18446744073709551616).toNat:Nat):Int)).toNat = 1 - sgnS p w (a % 18446744073709551616).toNat by omega]
  · have:(1 - sgnS p w (a % 18446744073709551616).toNat) * 2 ^ (p + w - 1) ≤ 1 * 2 ^ (p + w - 1):=Nat.mul_le_mul_right _ (by omega)
    have e:2 ^ (p + w) = 2 ^ (p + w - 1) * 2:=by rw [← Nat.pow_succ]; congr 1; omega
    omega
theorem neg_ok {a:Int} (hb:bitsOk p w a):I64 (negS p w a) ∧ bitsOk p w (negS p w a) ∧ ((numS p w a).class_ = 3 → (numS p w (negS p w a)).class_ = 3) ∧ ((numS p w a).class_ ≠ 3 → numS p w (negS p w a) = negN (numS p w a)):=by
  obtain ⟨h1,h2,h3,h4,h5,h6⟩:=h.ok.facts
  by_cases c:(numS p w a).class_ = 3
  · have e:negS p w a = quietS p w:=by unfold negS signS; rw [if_pos c]
    rw [e]
    refine ⟨?_,?_,fun _=>?_,fun q=>absurd c q⟩
    · rcases h with ⟨rfl,rfl,rfl⟩ | ⟨rfl,rfl,rfl⟩ | ⟨rfl,rfl,rfl⟩ <;> exact ⟨by decide,by decide⟩
    · unfold bitsOk
      rcases h with ⟨rfl,rfl,rfl⟩ | ⟨rfl,rfl,rfl⟩ | ⟨rfl,rfl,rfl⟩ <;> decide
    · unfold numS
      rcases h with ⟨rfl,rfl,rfl⟩ | ⟨rfl,rfl,rfl⟩ | ⟨rfl,rfl,rfl⟩ <;> decide
  · obtain ⟨e1,e2⟩:=neg_bits h hb c
    obtain ⟨e3,e4,e5⟩:=bits_split h hb
    rw [e1]
    have hs:=numS_sign (p:=p) (w:=w) a
    generalize hs':sgnS p w (a % 18446744073709551616).toNat = s at *
    generalize sizeS p w a = r at *
    have hv:(1 - s) * 2 ^ (p + w - 1) + r < 18446744073709551616:=by
      have:2 ^ (p + w) ≤ 2 ^ 64:=Nat.pow_le_pow_right (by decide) h3
      rw [pow64] at this
      omega
    obtain ⟨w1,w2⟩:=wrap_mod hv
    refine ⟨w2,?_,fun q=>absurd q c,fun _=>?_⟩
    · unfold bitsOk
      rw [w1,Int.toNat_natCast]
      omega
    · unfold numS at *
      rw [w1,Int.toNat_natCast,readS_sign h e4 (by omega) e5,← e3]
      unfold negN
      congr 1
      rw [hs]
      omega
theorem rnegative_eq {a:Int} (hb:bitsOk p w a):Ref1.negative kind a = some (negS p w a):=by
  obtain ⟨h1,h2,h3,h4,h5,h6⟩:=h.ok.facts
  have hx:=numS_z h.ok a
  unfold Ref1.negative
  rw [taken_eq h hb,bindS]
  simp only [letkE]
  rw [show (takS (numS p w a)).what = classN (numS p w a).class_ from rfl,what_none hx.cls]
  by_cases c:(numS p w a).class_ = 3
  · rw [decide_eq_true c,condT,Quiet_eq h,bindS]
    unfold negS signS
    rw [if_pos c]
  · rw [decide_eq_false c,condF]
    obtain ⟨e1,e2⟩:=neg_bits h hb c
    obtain ⟨e3,e4,e5⟩:=bits_split h hb
    obtain ⟨u1,u2⟩:=wrap_toNat a
    have hp:2 ^ (p + w - 1) < 18446744073709551616:=pw_lt (Nat.le_refl _) (by omega)
    rw [h.eight,wi (x:=((p + w:Nat):Int)) (by omega) (by omega),wi (x:=((p + w:Nat):Int) - 1) (by omega) (by omega),chk_pos (by omega),u_shl' (a:=1) (k:=p + w - 1) (x:=1) (y:=((p + w:Nat):Int) - 1) rfl (by omega),Nat.one_mul,Nat.mod_eq_of_lt hp,u1,xor_u _ _ u2 hp]
    rw [e1]
    congr 3
    conv=>lhs; rw [e3]
    exact xor_top e4 e5
theorem rSub_eq (hm:0 ≤ mode ∧ mode < 4) {a b:Int} (ha:I64 a) (hb:I64 b) (ka:bitsOk p w a) (kb:bitsOk p w b) :
    Ref1.Sub kind mode a b = some ((addS p w mode (numS p w a) (negN (numS p w b))).1,(addS p w mode (numS p w a) (negN (numS p w b))).2,0):=by
  obtain ⟨n1,n2,n3,n4⟩:=neg_ok h kb
  unfold Ref1.Sub
  rw [asked_ok h hm ha hb ka kb,bindS]
  simp only [letkE,Bool.not_true,condF]
  rw [rnegative_eq h kb,bindS,rAdd_eq h hm ha n1 ka n2,bindS]
  have e:addS p w mode (numS p w a) (numS p w (negS p w b)) = addS p w mode (numS p w a) (negN (numS p w b)):=by
    by_cases c:(numS p w b).class_ = 3
    · have c2:(negN (numS p w b)).class_ = 3:=c
      unfold addS
      rw [if_pos (.inr (n3 c)),if_pos (.inr c2)]
    · rw [n4 c]
  rw [e]
end
end Go.Q
