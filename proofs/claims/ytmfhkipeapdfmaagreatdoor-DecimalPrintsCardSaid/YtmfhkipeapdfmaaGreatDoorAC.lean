import Derived.Test.YtmfhkipeapdfmaaGreatDoorAB
import Derived.Test.YtmfhkipeapdfmaaGreatDoorDG5
namespace Go.Q
open Go
set_option maxRecDepth 10000
set_option maxHeartbeats 2000000
def OkS (p w:Nat):Prop:=(p = 11 ∧ w = 5) ∨ (p = 24 ∧ w = 8) ∨ (p = 53 ∧ w = 11)
def shp (p w:Nat):float.shape:=⟨(p:Int),(w:Int)⟩
theorem u_or' {a b:Nat} {x y:Int} (hx:x = a) (hy:y = b) (ha:a < 18446744073709551616) (hb:b < 18446744073709551616):IntKind.u64.wrap (((BitVec.ofInt IntKind.u64.bits x ||| BitVec.ofInt IntKind.u64.bits y).toNat:Nat):Int) = ((a ||| b:Nat):Int):=by
  subst hx hy; exact u_or a b ha hb
theorem u_and' {a b:Nat} {x y:Int} (hx:x = a) (hy:y = b) (ha:a < 18446744073709551616) (hb:b < 18446744073709551616):IntKind.u64.wrap (((BitVec.ofInt IntKind.u64.bits x &&& BitVec.ofInt IntKind.u64.bits y).toNat:Nat):Int) = ((a &&& b:Nat):Int):=by
  subst hx hy; exact u_and a b ha hb
theorem u_shl' {a k:Nat} {x y:Int} (hx:x = a) (hy:y = k):IntKind.u64.wrap (x * 2 ^ (min y.toNat IntKind.u64.bits)) = ((a * 2 ^ k % 18446744073709551616:Nat):Int):=by
  subst hx hy; exact u_shl a k
theorem u_shr' {a k:Nat} {x y:Int} (hx:x = a) (hy:y = k) (ha:a < 18446744073709551616):x.fdiv (2 ^ (min y.toNat IntKind.u64.bits)) = ((a / 2 ^ k:Nat):Int):=by
  subst hx hy; exact u_shr a k ha
theorem bias_eq {p w:Nat} (h:OkS p w):Flt.shape.bias (shp p w) = some (biasS w):=by
  rcases h with ⟨rfl,rfl⟩ | ⟨rfl,rfl⟩ | ⟨rfl,rfl⟩ <;>
  · unfold Flt.shape.bias shp
    simp only [letk]
    rw [chk_pos (by decide)]
    decide
theorem least_eq {p w:Nat} (h:OkS p w):Flt.shape.least (shp p w) = some (lstS p w):=by
  unfold Flt.shape.least
  rw [show (⟨(shp p w).p,(shp p w).w⟩:float.shape) = shp p w from rfl,bias_eq h]
  rcases h with ⟨rfl,rfl⟩ | ⟨rfl,rfl⟩ | ⟨rfl,rfl⟩ <;> decide
theorem top_eq {p w:Nat} (h:OkS p w):Flt.shape.top (shp p w) = some (2 ^ w - 1):=by
  rcases h with ⟨rfl,rfl⟩ | ⟨rfl,rfl⟩ | ⟨rfl,rfl⟩ <;>
  · unfold Flt.shape.top shp
    simp only [letk]
    rw [chk_pos (by decide)]
    decide
theorem OkS.facts {p w:Nat} (h:OkS p w):11 ≤ p ∧ 5 ≤ w ∧ p + w ≤ 64 ∧ p ≤ 53 ∧ w ≤ 11 ∧ (p + w = 64 → p = 53):=by
  rcases h with ⟨rfl,rfl⟩ | ⟨rfl,rfl⟩ | ⟨rfl,rfl⟩ <;> decide
theorem or_add {a k b:Nat} (h:b < 2 ^ k):a * 2 ^ k ||| b = a * 2 ^ k + b:=by
  rw [Nat.mul_comm]; exact (Nat.two_pow_add_eq_or_of_lt h a).symm
theorem pow64:(2:Nat) ^ 64 = 18446744073709551616:=by decide
end Go.Q
namespace Go.Q
open Go
set_option maxRecDepth 100000
set_option maxHeartbeats 2000000
end Go.Q
namespace Go.Q
open Go
set_option maxRecDepth 100000
set_option maxHeartbeats 4000000
theorem pw_lt {a b:Nat} (h:a ≤ b) (hb:b ≤ 63):2 ^ a < 18446744073709551616:=by
  rw [← pow64]; exact Nat.pow_lt_pow_right (by decide) (by omega)
end Go.Q
namespace Go.Q
open Go
set_option maxRecDepth 100000
set_option maxHeartbeats 4000000
def expS (p w u:Nat):Nat:=u / 2 ^ (p - 1) % 2 ^ w
def frcS (p u:Nat):Nat:=u % 2 ^ (p - 1)
def sgnS (p w u:Nat):Nat:=u / 2 ^ (p + w - 1) % 2
def readS (p w u:Nat):float.number :=
  if expS p w u = 2 ^ w - 1 ∧ frcS p u = 0 then ⟨2,sgnS p w u,0,0⟩
  else if expS p w u = 2 ^ w - 1 then ⟨3,sgnS p w u,0,0⟩
  else if expS p w u = 0 ∧ frcS p u = 0 then ⟨0,sgnS p w u,0,0⟩
  else if expS p w u = 0 then ⟨1,sgnS p w u,frcS p u,lstS p w⟩
  else ⟨1,sgnS p w u,((frcS p u + 2 ^ (p - 1):Nat):Int),(expS p w u:Int) - biasS w - p + 1⟩
theorem shp_eta (p w:Nat):(⟨(p:Int),(w:Int)⟩:float.shape) = shp p w:=rfl
theorem beq_nat (a b:Nat):((a:Int) == (b:Int)) = decide (a = b):=by
  rw [Bool.eq_iff_iff,beq_iff_eq,decide_eq_true_eq]; omega
theorem read_eq {p w:Nat} (h:OkS p w) {u:Nat} (hu:u < 18446744073709551616) (a:Int) (ha:IntKind.u64.wrap a = u) :
    Flt.shape.read (shp p w) a = some (if p + w < 64 ∧ 2 ^ (p + w) ≤ u then (⟨0,0,0,0⟩,false) else (readS p w u,true)):=by
  obtain ⟨h1,h2,h3,h4,h5,h6⟩:=h.facts
  have hb:0 ≤ biasS w ∧ biasS w < 2000:=by rcases h with ⟨rfl,rfl⟩ | ⟨rfl,rfl⟩ | ⟨rfl,rfl⟩ <;> decide
  have hlst:lstS p w = 2 - biasS w - p:=rfl
  have hw0:=Nat.two_pow_pos w
  have hp0:=Nat.two_pow_pos (p - 1)
  have hw11:2 ^ w ≤ 2048:=by
    have:2 ^ w ≤ 2 ^ 11:=Nat.pow_le_pow_right (by decide) h5
    exact this
  have htw:(2:Int) ^ w - 1 = ((2 ^ w - 1:Nat):Int):=by
    have:((2:Int) ^ w) = ((2 ^ w:Nat):Int):=by push_cast; rfl
    rw [this]; omega
  have hp1:2 ^ (p - 1) < 18446744073709551616:=pw_lt (Nat.le_refl _) (by omega)
  have hE:expS p w u < 2 ^ w:=Nat.mod_lt _ hw0
  have hF:frcS p u < 2 ^ (p - 1):=Nat.mod_lt _ hp0
  have j0:Flt.shape.read.j0 u ((p:Int) + w) p w 0 0 0 0 = some (readS p w u,true):=by
    unfold Flt.shape.read.j0
    simp only [letk,shp_eta,top_eq h,Option.bind_some]
    rw [wi (x:=(p:Int) + w - 1) (by omega) (by omega),wi (x:=(p:Int) - 1) (by omega) (by omega),chk_pos (by omega),chk_pos (by omega),chk_pos (by omega)]
    rw [u_shr' (a:=u) (k:=p + w - 1) (y:=(p:Int) + w - 1) rfl (by omega) hu,u_shr' (a:=u) (k:=p - 1) (y:=(p:Int) - 1) rfl (by omega) hu]
    rw [u_shl' (a:=1) (k:=p - 1) (x:=1) rfl (by omega),Nat.one_mul,Nat.mod_eq_of_lt hp1]
    have hd1:u / 2 ^ (p + w - 1) < 18446744073709551616:=Nat.lt_of_le_of_lt (Nat.div_le_self _ _) hu
    have hd2:u / 2 ^ (p - 1) < 18446744073709551616:=Nat.lt_of_le_of_lt (Nat.div_le_self _ _) hu
    rw [u_and' (a:=u / 2 ^ (p + w - 1)) (b:=1) (y:=1) rfl rfl hd1 (by decide),Nat.and_one_is_mod]
    rw [wu (x:=((2 ^ (p - 1):Nat):Int) - 1) (by omega) (by omega)]
    rw [u_and' (a:=u / 2 ^ (p - 1)) (b:=2 ^ w - 1) (y:=(2:Int) ^ w - 1) rfl htw hd2 (by omega),Nat.and_two_pow_sub_one_eq_mod]
    rw [u_and' (a:=u) (b:=2 ^ (p - 1) - 1) (y:=((2 ^ (p - 1):Nat):Int) - 1) rfl (by omega) hu (by omega),Nat.and_two_pow_sub_one_eq_mod]
    rw [show u / 2 ^ (p - 1) % 2 ^ w = expS p w u from rfl,show u % 2 ^ (p - 1) = frcS p u from rfl,show u / 2 ^ (p + w - 1) % 2 = sgnS p w u from rfl]
    have hS:sgnS p w u < 2:=Nat.mod_lt _ (by decide)
    rw [wi (x:=((sgnS p w u:Nat):Int)) (by omega) (by omega)]
    rw [htw,beq_nat]
    have eE:∀ x:Nat,((x:Int) == (0:Int)) = decide (x = 0):=fun x=>beq_nat x 0
    have j1:Flt.shape.read.j1 (expS p w u) (frcS p u) p w 0 0 0 0 0 (sgnS p w u) 0 0 (decide (expS p w u = 2 ^ w - 1 ∧ frcS p u = 0)) = some (readS p w u,true):=by
      unfold Flt.shape.read.j1 readS
      by_cases c1:expS p w u = 2 ^ w - 1 ∧ frcS p u = 0
      · rw [decide_eq_true c1,if_pos c1]; rfl
      · rw [decide_eq_false c1,if_neg c1]
        simp only [cond,letk,shp_eta,top_eq h,Option.bind_some]
        rw [htw,beq_nat]
        by_cases c2:expS p w u = 2 ^ w - 1
        · rw [decide_eq_true c2,if_pos c2]
        · rw [decide_eq_false c2,if_neg c2]
          simp only
          rw [eE]
          by_cases c3:expS p w u = 0
          · rw [decide_eq_true c3]
            simp only
            rw [eE]
            unfold Flt.shape.read.j2
            by_cases c4:frcS p u = 0
            · rw [decide_eq_true c4,if_pos ⟨c3,c4⟩]; rfl
            · rw [decide_eq_false c4,if_neg (fun q=>c4 q.2),if_pos c3]
              simp only [cond,letk,shp_eta,least_eq h,Option.bind_some]
              rw [eE,decide_eq_true c3]
          · rw [decide_eq_false c3,if_neg (fun q=>c3 q.1),if_neg c3]
            simp only
            unfold Flt.shape.read.j2
            simp only [cond,letk,shp_eta,bias_eq h,Option.bind_some]
            rw [eE,decide_eq_false c3]
            simp only
            rw [wi (x:=(p:Int) - 1) (by omega) (by omega),chk_pos (by omega)]
            rw [u_shl' (a:=1) (k:=p - 1) (x:=1) rfl (by omega),Nat.one_mul,Nat.mod_eq_of_lt hp1]
            rw [u_or' (a:=frcS p u) (b:=2 ^ (p - 1)) rfl rfl (by omega) hp1]
            rw [wi (x:=((expS p w u:Nat):Int)) (by omega) (by omega),wi (x:=((expS p w u:Nat):Int) - biasS w) (by omega) (by omega),wi (x:=((expS p w u:Nat):Int) - biasS w - p) (by omega) (by omega),wi (x:=((expS p w u:Nat):Int) - biasS w - p + 1) (by omega) (by omega)]
            have:frcS p u ||| 2 ^ (p - 1) = frcS p u + 2 ^ (p - 1):=by
              have:=or_add (a:=1) hF
              rw [Nat.one_mul] at this
              rw [Nat.or_comm,this,Nat.add_comm]
            rw [this]
    by_cases c1:expS p w u = 2 ^ w - 1
    · rw [decide_eq_true c1]
      simp only [cond]
      rw [eE]
      rw [show decide (frcS p u = 0) = decide (expS p w u = 2 ^ w - 1 ∧ frcS p u = 0) from by simp [c1]]
      exact j1
    · rw [decide_eq_false c1]
      simp only [cond]
      rw [show false = decide (expS p w u = 2 ^ w - 1 ∧ frcS p u = 0) from by simp [c1]]
      exact j1
  unfold Flt.shape.read
  simp only [letk,ha]
  rw [show (shp p w).p = (p:Int) from rfl,show (shp p w).w = (w:Int) from rfl,wi (x:=(p:Int) + w) (by omega) (by omega)]
  by_cases hc:p + w < 64
  · rw [decide_eq_true (show (p:Int) + w < 64 by omega)]
    simp only [cond]
    rw [chk_pos (by omega),u_shr' (a:=u) (k:=p + w) rfl (by omega) hu]
    have e:(((u / 2 ^ (p + w):Nat):Int) != 0) = decide (2 ^ (p + w) ≤ u):=by
      rw [show (((u / 2 ^ (p + w):Nat):Int) != 0) = !(((u / 2 ^ (p + w):Nat):Int) == ((0:Nat):Int)) from rfl,beq_nat]
      have:=Nat.div_eq_zero_iff (a:=u) (b:=2 ^ (p + w))
      have h0:=Nat.two_pow_pos (p + w)
      by_cases hx:2 ^ (p + w) ≤ u
      · rw [decide_eq_true hx,decide_eq_false (by omega)]; rfl
      · rw [decide_eq_false hx,decide_eq_true (by omega)]; rfl
    rw [e]
    unfold Flt.shape.read.j3
    by_cases hx:2 ^ (p + w) ≤ u
    · rw [decide_eq_true hx,if_pos ⟨hc,hx⟩]; rfl
    · rw [decide_eq_false hx,if_neg (fun q=>hx q.2)]; exact j0
  · rw [decide_eq_false (show ¬ (p:Int) + w < 64 by omega),if_neg (fun q=>hc q.1)]
    exact j0
structure NumOk (p w:Nat) (x:float.number):Prop where
  cls:x.class_ = 0 ∨ x.class_ = 1 ∨ x.class_ = 2 ∨ x.class_ = 3
  sgn:x.sign = 0 ∨ x.sign = 1
  mag:x.class_ = 1 → ∃ m:Nat,x.m = m ∧ 0 < m ∧ m < 2 ^ p ∧ lstS p w ≤ x.e ∧ x.e < 1024 ∧ (x.e = lstS p w ∨ 2 ^ (p - 1) ≤ m)
theorem readS_ok {p w:Nat} (h:OkS p w) (u:Nat):NumOk p w (readS p w u):=by
  obtain ⟨h1,h2,h3,h4,h5,h6⟩:=h.facts
  have hlst:lstS p w = 2 - biasS w - p:=rfl
  have hb:biasS w = 2 ^ (w - 1) - 1:=rfl
  have hS:sgnS p w u < 2:=Nat.mod_lt _ (by decide)
  have hs:((sgnS p w u:Nat):Int) = 0 ∨ ((sgnS p w u:Nat):Int) = 1:=by omega
  have hE:expS p w u < 2 ^ w:=Nat.mod_lt _ (Nat.two_pow_pos w)
  have hF:frcS p u < 2 ^ (p - 1):=Nat.mod_lt _ (Nat.two_pow_pos _)
  have hp0:=Nat.two_pow_pos (p - 1)
  have hpp:2 ^ p = 2 ^ (p - 1) * 2:=by rw [← Nat.pow_succ]; congr 1; omega
  have hbb:0 ≤ biasS w ∧ biasS w ≤ 1023 ∧ ((2 ^ w:Nat):Int) = 2 * biasS w + 2:=by rcases h with ⟨rfl,rfl⟩ | ⟨rfl,rfl⟩ | ⟨rfl,rfl⟩ <;> decide
  unfold readS
  split
  · exact ⟨by simp,hs,by simp⟩
  · split
    · exact ⟨by simp,hs,by simp⟩
    · split
      · exact ⟨by simp,hs,by simp⟩
      · split
        · exact ⟨by simp,hs,fun _=>⟨frcS p u,rfl,by omega,by omega,Int.le_refl _,by simp only; omega,.inl rfl⟩⟩
        · exact ⟨by simp,hs,fun _=>⟨frcS p u + 2 ^ (p - 1),rfl,by omega,by omega,by simp only; omega,by simp only; omega,.inr (by omega)⟩⟩
def kindS (kind:Int) (p w:Nat):Prop:=(kind = 2 ∧ p = 11 ∧ w = 5) ∨ (kind = 4 ∧ p = 24 ∧ w = 8) ∨ (kind = 8 ∧ p = 53 ∧ w = 11)
theorem kindS.ok {kind:Int} {p w:Nat} (h:kindS kind p w):OkS p w:=by
  rcases h with ⟨_,h1,h2⟩ | ⟨_,h1,h2⟩ | ⟨_,h1,h2⟩
  · exact .inl ⟨h1,h2⟩
  · exact .inr (.inl ⟨h1,h2⟩)
  · exact .inr (.inr ⟨h1,h2⟩)
theorem of_eq {kind:Int} {p w:Nat} (h:kindS kind p w):Flt.of kind = some (shp p w,true):=by
  rcases h with ⟨rfl,rfl,rfl⟩ | ⟨rfl,rfl,rfl⟩ | ⟨rfl,rfl,rfl⟩ <;> rfl
def bitsOk (p w:Nat) (a:Int):Prop:=¬ (p + w < 64 ∧ 2 ^ (p + w) ≤ (a % 18446744073709551616).toNat)
noncomputable def numS (p w:Nat) (a:Int):float.number:=readS p w (a % 18446744073709551616).toNat
theorem numS_ok {p w:Nat} (h:OkS p w) (a:Int):NumOk p w (numS p w a):=readS_ok h _
theorem wrap_toNat (a:Int):IntKind.u64.wrap a = (((a % 18446744073709551616).toNat:Nat):Int) ∧ (a % 18446744073709551616).toNat < 18446744073709551616:=by
  constructor
  · show a % 18446744073709551616 = _
    omega
  · omega
theorem read_ok {p w:Nat} (h:OkS p w) (a:Int) (hb:bitsOk p w a):Flt.shape.read (shp p w) a = some (numS p w a,true):=by
  obtain ⟨h1,h2⟩:=wrap_toNat a
  rw [read_eq h h2 a h1,if_neg hb]; rfl
theorem read_no {p w:Nat} (h:OkS p w) (a:Int) (hb:¬ bitsOk p w a):Flt.shape.read (shp p w) a = some (⟨0,0,0,0⟩,false):=by
  obtain ⟨h1,h2⟩:=wrap_toNat a
  unfold bitsOk at hb
  rw [read_eq h h2 a h1,if_pos (by by_cases q:p + w < 64 ∧ 2 ^ (p + w) ≤ (a % 18446744073709551616).toNat; exact q; exact absurd q hb)]
theorem two_eq {kind mode:Int} {p w:Nat} (h:kindS kind p w) (hm:0 ≤ mode ∧ mode < 4) {a b:Int} (ha:bitsOk p w a) (hb:bitsOk p w b) :
    Flt.two kind mode a b = some (shp p w,numS p w a,numS p w b,true):=by
  unfold Flt.two Flt.two.j1 Flt.two.j0
  simp only [of_eq h,Option.bind_some,letk,Bool.not_true,cond]
  rw [decide_eq_false (by omega:¬ mode < 0)]
  simp only
  rw [decide_eq_false (by omega:¬ mode ≥ 4)]
  simp only
  rw [show (⟨(shp p w).p,(shp p w).w⟩:float.shape) = shp p w from rfl,read_ok h.ok a ha,read_ok h.ok b hb]
  rfl
theorem Valid_eq {kind:Int} {p w:Nat} (h:kindS kind p w) (a:Int):Flt.Valid kind a = some (@decide (bitsOk p w a) (Classical.propDecidable _)):=by
  unfold Flt.Valid
  simp only [of_eq h,Option.bind_some,letk,Bool.not_true,cond]
  rw [show (⟨(shp p w).p,(shp p w).w⟩:float.shape) = shp p w from rfl]
  by_cases hb:bitsOk p w a
  · rw [read_ok h.ok a hb,@decide_eq_true _ (_) hb]; rfl
  · rw [read_no h.ok a hb,@decide_eq_false _ (_) hb]; rfl
end Go.Q
