import Derived.Test.YtemmhailjfdfdaaGreatAG4
import Derived.Lib.BitFns
import Derived.Test.YtemmhailjfdfdaaGreatFD
import Derived.Test.YtemmhailjfdfdaaGreatPS
namespace Go.Q
open Go
set_option maxRecDepth 100000
set_option maxHeartbeats 4000000
theorem chk_pos {ρ:Type} {c:Prop} {X:Option ρ} (h:c):chk c X = X:=if_pos h
theorem wu {x:Int} (h0:0 ≤ x) (h1:x < 18446744073709551616):IntKind.u64.wrap x = x:=by
  show x % 18446744073709551616 = x
  omega
theorem wuN (n:Nat):IntKind.u64.wrap (n:Int) = ((n % 18446744073709551616:Nat):Int):=by
  show (n:Int) % 18446744073709551616 = _
  omega
theorem wi {x:Int} (h0:-9223372036854775808 ≤ x) (h1:x < 9223372036854775808):IntKind.i64.wrap x = x:=w64 ⟨h0,h1⟩
theorem bv_nat (n:Nat) (h:n < 18446744073709551616):(BitVec.ofInt IntKind.u64.bits (n:Int)).toNat = n:=by
  rw [BitVec.toNat_ofInt]
  show ((n:Int) % ((2 ^ 64:Nat):Int)).toNat = n
  have:((2 ^ 64:Nat):Int) = 18446744073709551616:=rfl
  rw [this]; omega
theorem u_or (a b:Nat) (ha:a < 18446744073709551616) (hb:b < 18446744073709551616):IntKind.u64.wrap (((BitVec.ofInt IntKind.u64.bits (a:Int) ||| BitVec.ofInt IntKind.u64.bits (b:Int)).toNat:Nat):Int) = ((a ||| b:Nat):Int):=by
  rw [BitVec.toNat_or,bv_nat a ha,bv_nat b hb,wuN]
  have:a ||| b < 2 ^ 64:=Nat.or_lt_two_pow ha hb
  rw [Nat.mod_eq_of_lt this]
theorem u_and (a b:Nat) (ha:a < 18446744073709551616) (hb:b < 18446744073709551616):IntKind.u64.wrap (((BitVec.ofInt IntKind.u64.bits (a:Int) &&& BitVec.ofInt IntKind.u64.bits (b:Int)).toNat:Nat):Int) = ((a &&& b:Nat):Int):=by
  rw [BitVec.toNat_and,bv_nat a ha,bv_nat b hb,wuN]
  have:a &&& b < 2 ^ 64:=Nat.and_lt_two_pow a hb
  rw [Nat.mod_eq_of_lt this]
theorem u_shl (a k:Nat):IntKind.u64.wrap ((a:Int) * 2 ^ (min k IntKind.u64.bits)) = ((a * 2 ^ k % 18446744073709551616:Nat):Int):=by
  have e:((a:Int) * 2 ^ (min k IntKind.u64.bits)) = ((a * 2 ^ (min k 64):Nat):Int):=by
    push_cast; rfl
  rw [e,wuN]
  rcases Nat.lt_or_ge 64 k with h | h
  · rw [Nat.min_eq_right (by omega)]
    have h1:a * 2 ^ 64 % 18446744073709551616 = 0:=Nat.mul_mod_left _ _
    have h2:a * 2 ^ k % 18446744073709551616 = 0:=by
      rw [show k = (k - 64) + 64 by omega,Nat.pow_add,← Nat.mul_assoc]; exact Nat.mul_mod_left _ _
    rw [h1,h2]
  · rw [Nat.min_eq_left h]
theorem u_shr (a k:Nat) (ha:a < 18446744073709551616):(a:Int).fdiv (2 ^ (min k IntKind.u64.bits)) = ((a / 2 ^ k:Nat):Int):=by
  have e:((2:Int) ^ (min k IntKind.u64.bits)) = ((2 ^ (min k 64):Nat):Int):=by
    push_cast; rfl
  rw [e,Int.fdiv_eq_ediv_of_nonneg _ (Int.natCast_nonneg _),← Int.natCast_ediv]
  rcases Nat.lt_or_ge 64 k with h | h
  · rw [Nat.min_eq_right (by omega)]
    have h1:a / 2 ^ 64 = 0:=Nat.div_eq_of_lt ha
    have h2:a / 2 ^ k = 0:=Nat.div_eq_of_lt (Nat.lt_of_lt_of_le ha (Nat.pow_le_pow_right (by decide:0 < 2) (by omega:64 ≤ k)))
    rw [h1,h2]
  · rw [Nat.min_eq_left h]
def biasS (w:Nat):Int:=2 ^ (w - 1) - 1
def lstS (p w:Nat):Int:=2 - biasS w - p
def OkS (p w:Nat):Prop:=(p = 11 ∧ w = 5) ∨ (p = 24 ∧ w = 8) ∨ (p = 53 ∧ w = 11)
def shp (p w:Nat):float.shape:=⟨(p:Int),(w:Int)⟩
theorem u_or' {a b:Nat} {x y:Int} (hx:x = a) (hy:y = b) (ha:a < 18446744073709551616) (hb:b < 18446744073709551616):IntKind.u64.wrap (((BitVec.ofInt IntKind.u64.bits x ||| BitVec.ofInt IntKind.u64.bits y).toNat:Nat):Int) = ((a ||| b:Nat):Int):=by
  subst hx hy; exact u_or a b ha hb
theorem u_and' {a b:Nat} {x y:Int} (hx:x = a) (hy:y = b) (ha:a < 18446744073709551616) (hb:b < 18446744073709551616):IntKind.u64.wrap (((BitVec.ofInt IntKind.u64.bits x &&& BitVec.ofInt IntKind.u64.bits y).toNat:Nat):Int) = ((a &&& b:Nat):Int):=by
  subst hx hy; exact u_and a b ha hb
theorem u_shl' {a k:Nat} {x y:Int} (hx:x = a) (hy:y = k):IntKind.u64.wrap (x * 2 ^ (min y.toNat IntKind.u64.bits)) = ((a * 2 ^ k % 18446744073709551616:Nat):Int):=by
  subst hx hy; exact u_shl a k
theorem u_shr' {a k:Nat} {x y:Int} (hx:x = a) (hy:y = k) (ha:a < 18446744073709551616):x.fdiv (2 ^ (min y.toNat IntKind.u64.bits)) = ((a / 2 ^ k:Nat):Int):=by
  subst hx hy; exact u_shr a k ha
theorem bias_eq {p w:Nat} (h:OkS p w):Flt.shape.bias (shp p w) = some (biasS w):=by
  rcases h with ⟨rfl,rfl⟩ | ⟨rfl,rfl⟩ | ⟨rfl,rfl⟩ <;>
  · unfold Flt.shape.bias shp
    simp only [letk]
    rw [chk_pos (by decide)]
    decide
theorem least_eq {p w:Nat} (h:OkS p w):Flt.shape.least (shp p w) = some (lstS p w):=by
  unfold Flt.shape.least
  rw [show (⟨(shp p w).p,(shp p w).w⟩:float.shape) = shp p w from rfl,bias_eq h]
  rcases h with ⟨rfl,rfl⟩ | ⟨rfl,rfl⟩ | ⟨rfl,rfl⟩ <;> decide
theorem top_eq {p w:Nat} (h:OkS p w):Flt.shape.top (shp p w) = some (2 ^ w - 1):=by
  rcases h with ⟨rfl,rfl⟩ | ⟨rfl,rfl⟩ | ⟨rfl,rfl⟩ <;>
  · unfold Flt.shape.top shp
    simp only [letk]
    rw [chk_pos (by decide)]
    decide
theorem OkS.facts {p w:Nat} (h:OkS p w):11 ≤ p ∧ 5 ≤ w ∧ p + w ≤ 64 ∧ p ≤ 53 ∧ w ≤ 11 ∧ (p + w = 64 → p = 53):=by
  rcases h with ⟨rfl,rfl⟩ | ⟨rfl,rfl⟩ | ⟨rfl,rfl⟩ <;> decide
theorem or_add {a k b:Nat} (h:b < 2 ^ k):a * 2 ^ k ||| b = a * 2 ^ k + b:=by
  rw [Nat.mul_comm]; exact (Nat.two_pow_add_eq_or_of_lt h a).symm
theorem pow64:(2:Nat) ^ 64 = 18446744073709551616:=by decide
theorem pw_lt {a b:Nat} (h:a ≤ b) (hb:b ≤ 63):2 ^ a < 18446744073709551616:=by
  rw [← pow64]; exact Nat.pow_lt_pow_right (by decide) (by omega)
def expS (p w u:Nat):Nat:=u / 2 ^ (p - 1) % 2 ^ w
def frcS (p u:Nat):Nat:=u % 2 ^ (p - 1)
def sgnS (p w u:Nat):Nat:=u / 2 ^ (p + w - 1) % 2
def readS (p w u:Nat):float.number :=
  if expS p w u = 2 ^ w - 1 ∧ frcS p u = 0 then ⟨2,sgnS p w u,0,0⟩
  else if expS p w u = 2 ^ w - 1 then ⟨3,sgnS p w u,0,0⟩
  else if expS p w u = 0 ∧ frcS p u = 0 then ⟨0,sgnS p w u,0,0⟩
  else if expS p w u = 0 then ⟨1,sgnS p w u,frcS p u,lstS p w⟩
  else ⟨1,sgnS p w u,((frcS p u + 2 ^ (p - 1):Nat):Int),(expS p w u:Int) - biasS w - p + 1⟩
theorem shp_eta (p w:Nat):(⟨(p:Int),(w:Int)⟩:float.shape) = shp p w:=rfl
theorem beq_nat (a b:Nat):((a:Int) == (b:Int)) = decide (a = b):=by
  rw [Bool.eq_iff_iff,beq_iff_eq,decide_eq_true_eq]; omega
theorem read_eq {p w:Nat} (h:OkS p w) {u:Nat} (hu:u < 18446744073709551616) (a:Int) (ha:IntKind.u64.wrap a = u) :
    Flt.shape.read (shp p w) a = some (if p + w < 64 ∧ 2 ^ (p + w) ≤ u then (⟨0,0,0,0⟩,false) else (readS p w u,true)):=by
  obtain ⟨h1,h2,h3,h4,h5,h6⟩:=h.facts
  have hb:0 ≤ biasS w ∧ biasS w < 2000:=by rcases h with ⟨rfl,rfl⟩ | ⟨rfl,rfl⟩ | ⟨rfl,rfl⟩ <;> decide
  have hlst:lstS p w = 2 - biasS w - p:=rfl
  have hw0:=Nat.two_pow_pos w
  have hp0:=Nat.two_pow_pos (p - 1)
  have hw11:2 ^ w ≤ 2048:=by
    have:2 ^ w ≤ 2 ^ 11:=Nat.pow_le_pow_right (by decide) h5
    exact this
  have htw:(2:Int) ^ w - 1 = ((2 ^ w - 1:Nat):Int):=by
    have:((2:Int) ^ w) = ((2 ^ w:Nat):Int):=by push_cast; rfl
    rw [this]; omega
  have hp1:2 ^ (p - 1) < 18446744073709551616:=pw_lt (Nat.le_refl _) (by omega)
  have hE:expS p w u < 2 ^ w:=Nat.mod_lt _ hw0
  have hF:frcS p u < 2 ^ (p - 1):=Nat.mod_lt _ hp0
  have j0:Flt.shape.read.j0 u ((p:Int) + w) p w 0 0 0 0 = some (readS p w u,true):=by
    unfold Flt.shape.read.j0
    simp only [letk,shp_eta,top_eq h,Option.bind_some]
    rw [wi (x:=(p:Int) + w - 1) (by omega) (by omega),wi (x:=(p:Int) - 1) (by omega) (by omega),chk_pos (by omega),chk_pos (by omega),chk_pos (by omega)]
    rw [u_shr' (a:=u) (k:=p + w - 1) (y:=(p:Int) + w - 1) rfl (by omega) hu,u_shr' (a:=u) (k:=p - 1) (y:=(p:Int) - 1) rfl (by omega) hu]
    rw [u_shl' (a:=1) (k:=p - 1) (x:=1) rfl (by omega),Nat.one_mul,Nat.mod_eq_of_lt hp1]
    have hd1:u / 2 ^ (p + w - 1) < 18446744073709551616:=Nat.lt_of_le_of_lt (Nat.div_le_self _ _) hu
    have hd2:u / 2 ^ (p - 1) < 18446744073709551616:=Nat.lt_of_le_of_lt (Nat.div_le_self _ _) hu
    rw [u_and' (a:=u / 2 ^ (p + w - 1)) (b:=1) (y:=1) rfl rfl hd1 (by decide),Nat.and_one_is_mod]
    rw [wu (x:=((2 ^ (p - 1):Nat):Int) - 1) (by omega) (by omega)]
    rw [u_and' (a:=u / 2 ^ (p - 1)) (b:=2 ^ w - 1) (y:=(2:Int) ^ w - 1) rfl htw hd2 (by omega),Nat.and_two_pow_sub_one_eq_mod]
    rw [u_and' (a:=u) (b:=2 ^ (p - 1) - 1) (y:=((2 ^ (p - 1):Nat):Int) - 1) rfl (by omega) hu (by omega),Nat.and_two_pow_sub_one_eq_mod]
    rw [show u / 2 ^ (p - 1) % 2 ^ w = expS p w u from rfl,show u % 2 ^ (p - 1) = frcS p u from rfl,show u / 2 ^ (p + w - 1) % 2 = sgnS p w u from rfl]
    have hS:sgnS p w u < 2:=Nat.mod_lt _ (by decide)
    rw [wi (x:=((sgnS p w u:Nat):Int)) (by omega) (by omega)]
    rw [htw,beq_nat]
    have eE:∀ x:Nat,((x:Int) == (0:Int)) = decide (x = 0):=fun x=>beq_nat x 0
    have j1:Flt.shape.read.j1 (expS p w u) (frcS p u) p w 0 0 0 0 0 (sgnS p w u) 0 0 (decide (expS p w u = 2 ^ w - 1 ∧ frcS p u = 0)) = some (readS p w u,true):=by
      unfold Flt.shape.read.j1 readS
      by_cases c1:expS p w u = 2 ^ w - 1 ∧ frcS p u = 0
      · rw [decide_eq_true c1,if_pos c1]; rfl
      · rw [decide_eq_false c1,if_neg c1]
        simp only [cond,letk,shp_eta,top_eq h,Option.bind_some]
        rw [htw,beq_nat]
        by_cases c2:expS p w u = 2 ^ w - 1
        · rw [decide_eq_true c2,if_pos c2]
        · rw [decide_eq_false c2,if_neg c2]
          simp only
          rw [eE]
          by_cases c3:expS p w u = 0
          · rw [decide_eq_true c3]
            simp only
            rw [eE]
            unfold Flt.shape.read.j2
            by_cases c4:frcS p u = 0
            · rw [decide_eq_true c4,if_pos ⟨c3,c4⟩]; rfl
            · rw [decide_eq_false c4,if_neg (fun q=>c4 q.2),if_pos c3]
              simp only [cond,letk,shp_eta,least_eq h,Option.bind_some]
              rw [eE,decide_eq_true c3]
          · rw [decide_eq_false c3,if_neg (fun q=>c3 q.1),if_neg c3]
            simp only
            unfold Flt.shape.read.j2
            simp only [cond,letk,shp_eta,bias_eq h,Option.bind_some]
            rw [eE,decide_eq_false c3]
            simp only
            rw [wi (x:=(p:Int) - 1) (by omega) (by omega),chk_pos (by omega)]
            rw [u_shl' (a:=1) (k:=p - 1) (x:=1) rfl (by omega),Nat.one_mul,Nat.mod_eq_of_lt hp1]
            rw [u_or' (a:=frcS p u) (b:=2 ^ (p - 1)) rfl rfl (by omega) hp1]
            rw [wi (x:=((expS p w u:Nat):Int)) (by omega) (by omega),wi (x:=((expS p w u:Nat):Int) - biasS w) (by omega) (by omega),wi (x:=((expS p w u:Nat):Int) - biasS w - p) (by omega) (by omega),wi (x:=((expS p w u:Nat):Int) - biasS w - p + 1) (by omega) (by omega)]
            have:frcS p u ||| 2 ^ (p - 1) = frcS p u + 2 ^ (p - 1):=by
              have:=or_add (a:=1) hF
              rw [Nat.one_mul] at this
              rw [Nat.or_comm,this,Nat.add_comm]
            rw [this]
    by_cases c1:expS p w u = 2 ^ w - 1
    · rw [decide_eq_true c1]
      simp only [cond]
      rw [eE]
      rw [show decide (frcS p u = 0) = decide (expS p w u = 2 ^ w - 1 ∧ frcS p u = 0) from by simp [c1]]
      exact j1
    · rw [decide_eq_false c1]
      simp only [cond]
      rw [show false = decide (expS p w u = 2 ^ w - 1 ∧ frcS p u = 0) from by simp [c1]]
      exact j1
  unfold Flt.shape.read
  simp only [letk,ha]
  rw [show (shp p w).p = (p:Int) from rfl,show (shp p w).w = (w:Int) from rfl,wi (x:=(p:Int) + w) (by omega) (by omega)]
  by_cases hc:p + w < 64
  · rw [decide_eq_true (show (p:Int) + w < 64 by omega)]
    simp only [cond]
    rw [chk_pos (by omega),u_shr' (a:=u) (k:=p + w) rfl (by omega) hu]
    have e:(((u / 2 ^ (p + w):Nat):Int) != 0) = decide (2 ^ (p + w) ≤ u):=by
      rw [show (((u / 2 ^ (p + w):Nat):Int) != 0) = !(((u / 2 ^ (p + w):Nat):Int) == ((0:Nat):Int)) from rfl,beq_nat]
      have:=Nat.div_eq_zero_iff (a:=u) (b:=2 ^ (p + w))
      have h0:=Nat.two_pow_pos (p + w)
      by_cases hx:2 ^ (p + w) ≤ u
      · rw [decide_eq_true hx,decide_eq_false (by omega)]; rfl
      · rw [decide_eq_false hx,decide_eq_true (by omega)]; rfl
    rw [e]
    unfold Flt.shape.read.j3
    by_cases hx:2 ^ (p + w) ≤ u
    · rw [decide_eq_true hx,if_pos ⟨hc,hx⟩]; rfl
    · rw [decide_eq_false hx,if_neg (fun q=>hx q.2)]; exact j0
  · rw [decide_eq_false (show ¬ (p:Int) + w < 64 by omega),if_neg (fun q=>hc q.1)]
    exact j0
def kindS (kind:Int) (p w:Nat):Prop:=(kind = 2 ∧ p = 11 ∧ w = 5) ∨ (kind = 4 ∧ p = 24 ∧ w = 8) ∨ (kind = 8 ∧ p = 53 ∧ w = 11)
theorem kindS.ok {kind:Int} {p w:Nat} (h:kindS kind p w):OkS p w:=by
  rcases h with ⟨_,h1,h2⟩ | ⟨_,h1,h2⟩ | ⟨_,h1,h2⟩
  · exact .inl ⟨h1,h2⟩
  · exact .inr (.inl ⟨h1,h2⟩)
  · exact .inr (.inr ⟨h1,h2⟩)
theorem of_eq {kind:Int} {p w:Nat} (h:kindS kind p w):Flt.of kind = some (shp p w,true):=by
  rcases h with ⟨rfl,rfl,rfl⟩ | ⟨rfl,rfl,rfl⟩ | ⟨rfl,rfl,rfl⟩ <;> rfl
def bitsOk (p w:Nat) (a:Int):Prop:=¬ (p + w < 64 ∧ 2 ^ (p + w) ≤ (a % 18446744073709551616).toNat)
noncomputable def numS (p w:Nat) (a:Int):float.number:=readS p w (a % 18446744073709551616).toNat
theorem wrap_toNat (a:Int):IntKind.u64.wrap a = (((a % 18446744073709551616).toNat:Nat):Int) ∧ (a % 18446744073709551616).toNat < 18446744073709551616:=by
  constructor
  · show a % 18446744073709551616 = _
    omega
  · omega
theorem read_ok {p w:Nat} (h:OkS p w) (a:Int) (hb:bitsOk p w a):Flt.shape.read (shp p w) a = some (numS p w a,true):=by
  obtain ⟨h1,h2⟩:=wrap_toNat a
  rw [read_eq h h2 a h1,if_neg hb]; rfl
theorem read_no {p w:Nat} (h:OkS p w) (a:Int) (hb:¬ bitsOk p w a):Flt.shape.read (shp p w) a = some (⟨0,0,0,0⟩,false):=by
  obtain ⟨h1,h2⟩:=wrap_toNat a
  unfold bitsOk at hb
  rw [read_eq h h2 a h1,if_pos (by by_cases q:p + w < 64 ∧ 2 ^ (p + w) ≤ (a % 18446744073709551616).toNat; exact q; exact absurd q hb)]
theorem Valid_eq {kind:Int} {p w:Nat} (h:kindS kind p w) (a:Int):Flt.Valid kind a = some (@decide (bitsOk p w a) (Classical.propDecidable _)):=by
  unfold Flt.Valid
  simp only [of_eq h,Option.bind_some,letk,Bool.not_true,cond]
  rw [show (⟨(shp p w).p,(shp p w).w⟩:float.shape) = shp p w from rfl]
  by_cases hb:bitsOk p w a
  · rw [read_ok h.ok a hb,@decide_eq_true _ (_) hb]; rfl
  · rw [read_no h.ok a hb,@decide_eq_false _ (_) hb]; rfl
section
variable {t36:Int} {y n1 n0:Nat}
end
theorem letkE {α ρ:Type} (x:α) (X:α → Option ρ):letk x X = X x:=Eq.trans rfl rfl
theorem condT {α:Type} (x y:α):cond true x y = x:=Eq.trans rfl rfl
theorem condF {α:Type} (x y:α):cond false x y = y:=Eq.trans rfl rfl
theorem bindS {α β:Type} (x:α) (f:α → Option β):Option.bind (some x) f = f x:=Eq.trans rfl rfl
section
variable {kind:Int} {p w:Nat} (h:kindS kind p w)
include h
end
section
variable {c:Int} (hc:c = 0 ∨ c = 1 ∨ c = 2 ∨ c = 3)
include hc
end
def I64 (a:Int):Prop:=-9223372036854775808 ≤ a ∧ a < 9223372036854775808
section
variable {kind mode:Int} {p w:Nat} (h:kindS kind p w) (hm:0 ≤ mode ∧ mode < 4)
include h hm
end
section
variable {kind mode:Int} {p w:Nat} (h:kindS kind p w)
include h
end
section
variable {kind mode:Int} {p w:Nat} (h:kindS kind p w)
include h
end
section
variable {kind mode:Int} {p w:Nat} (h:kindS kind p w)
include h
end
def N1 (a:Int):Bool:=decide (a = 1 ∨ a = 3 ∨ a = 4)
theorem b1 (a b:Int):(a == b) = decide (a = b):=by
  by_cases h:a = b
  · rw [decide_eq_true h]; exact beq_iff_eq.2 h
  · rw [decide_eq_false h]; exact beq_eq_false_iff_ne.2 h
theorem nb1 (a b:Int):(a != b) = !decide (a = b):=by
  show (!(a == b)) = _
  rw [b1]
theorem aBytes_eq (k:Int):Arr.bytes k = some (if k = 3 then 4 else if k = 4 then 8 else 0):=by
  unfold Arr.bytes
  simp only [letkE,b1]
  by_cases h3:k = 3
  · rw [decide_eq_true h3,if_pos h3]; rfl
  · rw [decide_eq_false h3,if_neg h3]
    by_cases h4:k = 4
    · rw [decide_eq_true h4,if_pos h4]; rfl
    · rw [decide_eq_false h4,if_neg h4]; rfl
def opC (l:List UInt8):Nat :=
  if l = [43] then 1 else if l = [45] then 1 else if l = [42] then 2 else if l = [47] then 2 else if l = [61,61] then 3 else if l = [47,61] then 3 else if l = [60] then 4 else if l = [60,61] then 4 else if l = [62] then 4 else if l = [62,61] then 4 else if l = [46,97,110,100,46] then 5 else if l = [46,111,114,46] then 5 else if l = [46,110,111,116,46] then 6 else 0
def kB (a:Int):Nat:=if a = 0 then 3 else if N1 a = true then 1 else if a = 2 then 2 else 0
def kindC (c:Nat) (a b:Int):Int :=
  bif kB b == 3 then (bif c == 1 && kB a == 1 then a else bif c == 6 && kB a == 2 then 2 else 0)
  else bif (c == 1 || c == 2) && (kB a == 1 && kB b == 1) then (if b > a then b else a)
  else bif (c == 3 || c == 4) && (kB a == 1 && kB b == 1) then 2
  else bif (c == 3 || c == 5) && (kB a == 2 && kB b == 2) then 2 else 0
def kp (k:Int):Nat × Nat:=if k = 3 then (24,8) else (53,11)
def kw (k:Int):Int:=if k = 3 then 4 else 8
theorem kindS_of {k:Int} (h:k = 3 ∨ k = 4):kindS (kw k) (kp k).1 (kp k).2:=by
  rcases h with rfl | rfl
  · exact .inr (.inl ⟨rfl,rfl,rfl⟩)
  · exact .inr (.inr ⟨rfl,rfl,rfl⟩)
theorem bytes_of {k:Int} (h:k = 3 ∨ k = 4):(if k = 3 then (4:Int) else if k = 4 then 8 else 0) = kw k:=by
  rcases h with rfl | rfl <;> rfl
def ValB (k n:Int):Prop:=(k = 1 ∧ -2147483647 ≤ n ∧ n ≤ 2147483647) ∨ (k = 2 ∧ (n = 0 ∨ n = 1)) ∨ ((k = 3 ∨ k = 4) ∧ bitsOk (kp k).1 (kp k).2 n)
noncomputable def dV (k n:Int):Bool:=@decide (ValB k n) (Classical.propDecidable _)
theorem dV_false {k n:Int} (h:¬ ValB k n):dV k n = false:=@decide_eq_false _ (_) h
theorem dV_iff {k n:Int}:dV k n = true ↔ ValB k n:=by
  unfold dV
  exact @decide_eq_true_iff _ (_)
theorem dV_one (n:Int):dV 1 n = (decide (-2147483647 ≤ n) && decide (n ≤ 2147483647)):=by
  rw [Bool.eq_iff_iff,dV_iff]
  simp only [Bool.and_eq_true,decide_eq_true_eq]
  unfold ValB
  omega
theorem dV_two (n:Int):dV 2 n = (decide (n = 0) || decide (n = 1)):=by
  rw [Bool.eq_iff_iff,dV_iff]
  simp only [Bool.or_eq_true,decide_eq_true_eq]
  unfold ValB
  omega
theorem dV_float {k:Int} (h:k = 3 ∨ k = 4) (n:Int):dV k n = @decide (bitsOk (kp k).1 (kp k).2 n) (Classical.propDecidable _):=by
  have e:ValB k n ↔ bitsOk (kp k).1 (kp k).2 n:=by
    unfold ValB
    constructor
    · rintro (q | q | q)
      · omega
      · omega
      · exact q.2
    · intro q; exact .inr (.inr ⟨h,q⟩)
  unfold dV
  congr 1
  exact propext e
theorem dV_none {k:Int} (h:k ≠ 1 ∧ k ≠ 2 ∧ k ≠ 3 ∧ k ≠ 4) (n:Int):dV k n = false:=dV_false (by unfold ValB; omega)
theorem aFits_eq (k n:Int):Arr.fits k n = some (dV k n):=by
  unfold Arr.fits Arr.fits.j0
  simp only [letkE,b1,aBytes_eq,bindS]
  by_cases h1:k = 1
  · subst h1
    rw [show decide ((1:Int) = 1) = true from rfl,condT,dV_one]
    by_cases q:-2147483647 ≤ n
    · rw [decide_eq_true (show n ≥ -2147483647 from q),condT]; rfl
    · rw [decide_eq_false (show ¬ n ≥ -2147483647 from q),condF]; rfl
  · rw [decide_eq_false h1,condF]
    by_cases h2:k = 2
    · subst h2
      rw [show decide ((2:Int) = 2) = true from rfl,condT,dV_two]
      cases decide (n = 0)
      · rfl
      · rfl
    · rw [decide_eq_false h2,condF]
      by_cases h34:k = 3 ∨ k = 4
      · rw [bytes_of h34,Valid_eq (kindS_of h34),dV_float h34]
        rcases h34 with rfl | rfl <;> rfl
      · rw [decide_eq_false (show ¬ k = 3 by omega),decide_eq_false (show ¬ k = 4 by omega),condF,condF,dV_none (by omega)]
def NumK (k:Int):Prop:=k = 1 ∨ k = 3 ∨ k = 4
section
variable {a b:api.Value} (ha:NumK a.Kind) (hb:NumK b.Kind) (ia:I64 a.N) (ib:I64 b.N) (va:ValB a.Kind a.N) (vb:ValB b.Kind b.N)
include ha hb ia ib va vb
end
section
variable {op:ByteArray} {a b:api.Value} {k x y:Int}
end
section
variable {op:ByteArray} {x y:Int} (hx:x = 0 ∨ x = 1) (hy:y = 0 ∨ y = 1)
include hx hy
end
theorem any_l0 {l:List Int} {f:Int → Option Bool} {p:Int → Bool} (hf:∀ x ∈ l,f x = some (p x)) (hl:l.length < 4611686018427387904) :
    ∀ m i:Nat,i + m = l.length → ∃ r:Int,Slcs.IndexFunc___int_int_.l0 l l.length f (i:Int) = some r ∧ decide (r ≥ 0) = (l.drop i).any p:=by
  intro m
  induction m with
  | zero =>
    intro i hi
    rw [Slcs.IndexFunc___int_int_.l0,loopO_eq,Slcs.IndexFunc___int_int_.s0]
    simp only [letkE]
    rw [decide_eq_false (show ¬ (i:Int) < (l.length:Int) by omega),condF,List.drop_of_length_le (by omega)]
    exact ⟨-1,rfl,rfl⟩
  | succ m ih =>
    intro i hi
    have hil:i < l.length:=by omega
    rw [Slcs.IndexFunc___int_int_.l0,loopO_eq,Slcs.IndexFunc___int_int_.s0]
    simp only [letkE]
    rw [decide_eq_true (show (i:Int) < (l.length:Int) by omega),condT,chk_pos (by omega),Int.toNat_natCast,List.getElem?_eq_getElem hil,bindS,hf _ (List.getElem_mem hil),bindS,List.drop_eq_getElem_cons hil,List.any_cons]
    cases hp:p l[i]
    · rw [condF,wi (by omega) (by omega),bindS,Sum.elim_inl,Bool.false_or]
      exact ih (i + 1) (by omega)
    · rw [condT,bindS,Sum.elim_inr,Bool.true_or]
      exact ⟨_,rfl,decide_eq_true (by omega)⟩
theorem anyF {l:List Int} {f:Int → Option Bool} {p:Int → Bool} (hf:∀ x ∈ l,f x = some (p x)) (hl:l.length < 4611686018427387904):Slcs.ContainsFunc___int_int_ l f = some (l.any p):=by
  obtain ⟨r,h1,h2⟩:=any_l0 hf hl l.length 0 (by omega)
  unfold Slcs.ContainsFunc___int_int_ Slcs.IndexFunc___int_int_
  simp only [letkE]
  rw [show Slcs.IndexFunc___int_int_.l0 l l.length f 0 = _ from h1,bindS,h2,List.drop_zero]
theorem eq_l0 {l k:List Int} (hk:l.length = k.length) (hl:l.length < 4611686018427387904) :
    ∀ m i:Nat,i + m = l.length → Slcs.Equal___int_int_.l0 l k l.length (i:Int) = some (decide (l.drop i = k.drop i)):=by
  intro m
  induction m with
  | zero =>
    intro i hi
    rw [Slcs.Equal___int_int_.l0,loopO_eq,Slcs.Equal___int_int_.s0]
    simp only [letkE]
    rw [decide_eq_false (show ¬ (i:Int) < (l.length:Int) by omega),condF,bindS,Sum.elim_inr,List.drop_of_length_le (by omega),List.drop_of_length_le (by omega),decide_eq_true rfl]
  | succ m ih =>
    intro i hi
    have hil:i < l.length:=by omega
    have hik:i < k.length:=by omega
    rw [Slcs.Equal___int_int_.l0,loopO_eq,Slcs.Equal___int_int_.s0]
    simp only [letkE,nb1]
    rw [decide_eq_true (show (i:Int) < (l.length:Int) by omega),condT,chk_pos (by omega),Int.toNat_natCast,List.getElem?_eq_getElem hil,bindS,chk_pos (by omega),List.getElem?_eq_getElem hik,bindS,List.drop_eq_getElem_cons hil,List.drop_eq_getElem_cons hik]
    by_cases hp:l[i] = k[i]
    · rw [decide_eq_true hp,Bool.not_true,condF,wi (by omega) (by omega),bindS,Sum.elim_inl]
      rw [show Option.some (decide (l[i] :: l.drop (i + 1) = k[i] :: k.drop (i + 1))) = some (decide (l.drop (i + 1) = k.drop (i + 1))) from by
        congr 1; rw [decide_eq_decide,hp]; constructor
        · intro q; exact (List.cons.inj q).2
        · intro q; rw [q]]
      exact ih (i + 1) (by omega)
    · rw [decide_eq_false hp,Bool.not_false,condT,bindS,Sum.elim_inr,decide_eq_false (fun q=>hp (List.cons.inj q).1)]
theorem eqF {l k:List Int} (hl:l.length < 4611686018427387904):Slcs.Equal___int_int_ l k = some (decide (l = k)):=by
  unfold Slcs.Equal___int_int_
  simp only [letkE,nb1]
  by_cases h:l.length = k.length
  · rw [decide_eq_true (show (l.length:Int) = (k.length:Int) by omega),Bool.not_true,condF]
    have:=eq_l0 h hl l.length 0 (by omega)
    rw [List.drop_zero,List.drop_zero] at this
    exact this
  · rw [decide_eq_false (show ¬ (l.length:Int) = (k.length:Int) by omega),Bool.not_false,condT,decide_eq_false (fun q=>h (by rw [q]))]
def badX (x:Int):Bool:=decide (x < 0) || decide (x > 4000)
def prodL (l:List Int):Int:=l.foldl (· * ·) 1
def szS (l:List Int):Int:=if 3 < l.length ∨ l.any badX = true then -1 else if 4000 < prodL l then -1 else prodL l
theorem badX_f (x:Int):Sec.size_1 x = some (badX x):=by
  unfold Sec.size_1 badX
  simp only [letkE]
  cases decide (x < 0)
  · rfl
  · rfl
theorem mul_bound {a b m n:Int} (a0:0 ≤ a) (b0:0 ≤ b) (ha:a ≤ m) (hb:b ≤ n):0 ≤ a * b ∧ a * b ≤ m * n:=by
  refine ⟨Int.mul_nonneg a0 b0,?_⟩
  exact Int.mul_le_mul ha hb b0 (by omega)
theorem secEnd (l:List Int) (n:Int) (k:Nat) (hk:k = l.length):Sec.size.l0 l l.length n (k:Int) = some (if 4000 < n then -1 else n):=by
  rw [Sec.size.l0,loopO_eq,Sec.size.s0]
  simp only [letkE]
  rw [decide_eq_false (show ¬ (k:Int) < (l.length:Int) by omega),condF]
  by_cases h:4000 < n
  · rw [decide_eq_true (show n > 4000 from h),condT,if_pos h]; rfl
  · rw [decide_eq_false (show ¬ n > 4000 from h),condF,if_neg h]; rfl
theorem secStep (l:List Int) (n x:Int) (k:Nat) (hx:l[k]? = some x) (hl:l.length < 100) (h0:-9223372036854775808 ≤ n * x) (h1:n * x < 9223372036854775808):Sec.size.l0 l l.length n (k:Int) = Sec.size.l0 l l.length (n * x) ((k + 1:Nat):Int):=by
  have hk:k < l.length:=by
    rcases Nat.lt_or_ge k l.length with q | q
    · exact q
    · rw [List.getElem?_eq_none q] at hx; cases hx
  rw [Sec.size.l0,loopO_eq,Sec.size.s0]
  simp only [letkE]
  rw [decide_eq_true (show (k:Int) < (l.length:Int) by omega),condT,chk_pos (by omega),Int.toNat_natCast,hx,bindS,wi h0 h1,wi (by omega) (by omega),bindS,Sum.elim_inl]
  rfl
theorem secSize_eq {l:List Int} (hl:l.length < 4611686018427387904):Sec.size l = some (szS l):=by
  unfold Sec.size szS
  simp only [letkE]
  by_cases h3:3 < l.length
  · rw [decide_eq_true (show (l.length:Int) > 3 by omega),condT,if_pos (.inl h3)]
  · rw [decide_eq_false (show ¬ (l.length:Int) > 3 by omega),condF,anyF (fun x _=>badX_f x) hl,bindS]
    by_cases hb:l.any badX = true
    · rw [hb,condT,if_pos (.inr rfl)]
    · rw [if_neg (by rintro (q | q); exact h3 q; exact hb q)]
      simp only [Bool.not_eq_true] at hb
      rw [hb,condF]
      unfold Sec.size.j0
      simp only [letkE]
      have good:∀ x ∈ l,0 ≤ x ∧ x ≤ 4000:=by
        intro x hx
        have:=List.any_eq_false.1 hb x hx
        unfold badX at this
        simp only [Bool.or_eq_true,decide_eq_true_eq,not_or] at this
        omega
      match l,h3,good with
      | [],_,_=>exact secEnd [] 1 0 rfl
      | [a],_,good =>
        have ga:=good a (by simp)
        rw [show ((0:Int)) = ((0:Nat):Int) from rfl,secStep [a] 1 a 0 rfl (by simp) (by omega) (by omega),secEnd [a] _ 1 rfl]; rfl
      | [a,b],_,good =>
        have ga:=good a (by simp)
        have gb:=good b (by simp)
        have m1:=mul_bound ga.1 gb.1 ga.2 gb.2
        rw [show ((0:Int)) = ((0:Nat):Int) from rfl,secStep [a,b] 1 a 0 rfl (by simp) (by omega) (by omega),Int.one_mul,secStep [a,b] a b 1 rfl (by simp) (by omega) (by omega),secEnd [a,b] _ 2 rfl]
        have:prodL [a,b] = a * b:=by unfold prodL; simp only [List.foldl]; rw [Int.one_mul]
        rw [this]
      | [a,b,c],_,good =>
        have ga:=good a (by simp)
        have gb:=good b (by simp)
        have gc:=good c (by simp)
        have m1:=mul_bound ga.1 gb.1 ga.2 gb.2
        have m2:=mul_bound m1.1 gc.1 m1.2 gc.2
        rw [show ((0:Int)) = ((0:Nat):Int) from rfl,secStep [a,b,c] 1 a 0 rfl (by simp) (by omega) (by omega),Int.one_mul,secStep [a,b,c] a b 1 rfl (by simp) (by omega) (by omega),secStep [a,b,c] (a * b) c 2 rfl (by simp) (by omega) (by omega),secEnd [a,b,c] _ 3 rfl]
        have:prodL [a,b,c] = a * b * c:=by unfold prodL; simp only [List.foldl]; rw [Int.one_mul]
        rw [this]
      | _ :: _ :: _ :: _ :: _,h3,_=>exfalso; simp at h3
theorem whEnd (l e st:List Int) (s:Int) (k:Nat) (hk:k = l.length):Sec.Whole.l0 l l.length 0 [] [] 0 e st s (k:Int) = some (⟨0,e,st⟩,0):=by
  rw [Sec.Whole.l0,loopO_eq,Sec.Whole.s0]
  simp only [letkE]
  rw [decide_eq_false (show ¬ (k:Int) < (l.length:Int) by omega),condF]; rfl
theorem whStep (l e st:List Int) (s x:Int) (k:Nat) (hx:l[k]? = some x) (hl:l.length < 100) (hs:st.length < 100) (h0:-9223372036854775808 ≤ s * x) (h1:s * x < 9223372036854775808) :
    Sec.Whole.l0 l l.length 0 [] [] 0 e st s (k:Int) = Sec.Whole.l0 l l.length 0 [] [] 0 e (st ++ [s]) (s * x) ((k + 1:Nat):Int):=by
  have hk:k < l.length:=by
    rcases Nat.lt_or_ge k l.length with q | q
    · exact q
    · rw [List.getElem?_eq_none q] at hx; cases hx
  rw [Sec.Whole.l0,loopO_eq,Sec.Whole.s0]
  simp only [letkE]
  rw [decide_eq_true (show (k:Int) < (l.length:Int) by omega),condT,chk_pos (by omega),Int.toNat_natCast,hx,bindS,chk_pos (by rw [List.length_singleton]; omega),wi h0 h1,wi (by omega) (by omega),bindS,Sum.elim_inl]
  rfl
theorem enEnd (e st:List Int) (a b:Int) (k:Nat) (hk:k = st.length):Sec.ends.l0 ⟨0,e,st⟩ st.length 0 e st a b (k:Int) = some (a,b):=by
  rw [Sec.ends.l0,loopO_eq,Sec.ends.s0]
  simp only [letkE]
  rw [decide_eq_false (show ¬ (k:Int) < (st.length:Int) by omega),condF]; rfl
theorem enStep (e st:List Int) (b x y W:Int) (k:Nat) (hx:st[k]? = some x) (hy:e[k]? = some y) (hl:st.length < 100) (hy0:0 < y ∧ y ≤ 4000) (hW:x * (y - 1) = W) (h0:0 ≤ W) (h1:b + W < 100000000) (hb:0 ≤ b) :
    Sec.ends.l0 ⟨0,e,st⟩ st.length 0 e st 0 b (k:Int) = Sec.ends.l0 ⟨0,e,st⟩ st.length 0 e st 0 (b + W) ((k + 1:Nat):Int):=by
  have hk:k < st.length:=by
    rcases Nat.lt_or_ge k st.length with q | q
    · exact q
    · rw [List.getElem?_eq_none q] at hx; cases hx
  rw [Sec.ends.l0,loopO_eq,Sec.ends.s0]
  simp only [letkE]
  rw [decide_eq_true (show (k:Int) < (st.length:Int) by omega),condT,chk_pos (by omega),Int.toNat_natCast,hx,bindS,chk_pos (by omega),hy,bindS,wi (x:=y - 1) (by omega) (by omega),hW,wi (x:=W) (by omega) (by omega)]
  have e1:(if 0 < W then (0:Int) else W) = 0:=by split <;> omega
  have e2:(if 0 > W then (0:Int) else W) = W:=if_neg (by omega)
  rw [e1,e2,wi (x:=(0:Int) + 0) (by omega) (by omega),wi (x:=b + W) (by omega) (by omega),wi (by omega) (by omega),bindS,Sum.elim_inl]
  rfl
def badS (x:Int):Bool:=!(decide (-2147483648 ≤ x) && decide (x ≤ 2147483648))
theorem badS_f (x:Int):Sec.Valid_1 x = some (badS x):=by
  unfold Sec.Valid_1 Sec.isNumber badS
  simp only [letkE]
  by_cases h:-2147483648 ≤ x
  · rw [decide_eq_true (show x ≥ -2147483648 from h)]; rfl
  · rw [decide_eq_false (show ¬ x ≥ -2147483648 from h)]; rfl
theorem badS_no {x:Int} (h0:-2147483648 ≤ x) (h1:x ≤ 2147483648):badS x = false:=by
  unfold badS; rw [decide_eq_true h0,decide_eq_true h1]; rfl
theorem secValid_of {e st:List Int} {n:Int} (he:e.length < 100) (hs:st.length = e.length) (hz:szS e = n) (hn:0 ≤ n) (hst:∀ x ∈ st,0 ≤ x ∧ x ≤ 2147483648)
    (hend:n ≠ 0 → ∃ g,Sec.ends ⟨0,e,st⟩ = some (0,g) ∧ g ≤ 2147483648):Sec.Size ⟨0,e,st⟩ = some (n,0):=by
  have hv:Sec.Valid ⟨0,e,st⟩ = some true:=by
    unfold Sec.Valid
    simp only [letkE,nb1]
    rw [secSize_eq (by omega),bindS,hz,decide_eq_false (by omega),condF,hs,decide_eq_true rfl,Bool.not_true,condF,show decide ((0:Int) < 0) = false from rfl,condF,anyF (fun x _=>badS_f x) (by omega),bindS]
    have hany:st.any badS = false:=by
      rw [List.any_eq_false]
      intro x hx
      rw [badS_no (by have:=hst x hx; omega) (hst x hx).2]
      decide
    rw [hany,condF]
    unfold Sec.Valid.j0
    simp only [letkE,b1]
    by_cases h0:n = 0
    · rw [decide_eq_true h0,condT]
    · obtain ⟨g,h1,h2⟩:=hend h0
      rw [decide_eq_false h0,condF,show decide ((0:Int) > 2147483648) = false from rfl,condF,h1,bindS]
      dsimp only
      rw [show decide ((0:Int) ≥ 0) = true from rfl,condT,decide_eq_true h2]
  unfold Sec.Size
  simp only [letkE]
  rw [hv,bindS,Bool.not_true,condF,secSize_eq (by omega),bindS,hz]
theorem size_of {l st:List Int} {n:Int} (hl:l.length < 100) (hs:st.length = l.length) (hz:szS l = n) (hn:0 ≤ n) (hst:∀ x ∈ st,0 ≤ x ∧ x ≤ 2147483648)
    (hwh:Sec.Whole.l0 l l.length 0 [] [] 0 l [] 1 0 = some (⟨0,l,st⟩,0)) (hend:n ≠ 0 → ∃ g,Sec.ends ⟨0,l,st⟩ = some (0,g) ∧ g ≤ 2147483648):Arr.size l = some n:=by
  unfold Arr.size Sec.Whole Slcs.Clone___int_int_
  simp only [letkE,nb1]
  rw [secSize_eq (by omega),bindS,hz,decide_eq_false (show ¬ n < 0 by omega),condF,chk_pos (by omega),bindS,hwh,bindS]
  dsimp only
  rw [show (!decide ((0:Int) = 0)) = false from rfl,condF,secValid_of hl hs hz hn hst hend,bindS]
theorem szS_three {l:List Int} (h:0 ≤ szS l):l.length ≤ 3 ∧ (∀ x ∈ l,0 ≤ x ∧ x ≤ 4000) ∧ szS l = prodL l ∧ prodL l ≤ 4000:=by
  unfold szS at *
  by_cases h1:3 < l.length ∨ l.any badX = true
  · rw [if_pos h1] at h; omega
  · rw [if_neg h1] at h ⊢
    by_cases h2:4000 < prodL l
    · rw [if_pos h2] at h; omega
    · rw [if_neg h2]
      refine ⟨by omega,fun x hx=>?_,rfl,by omega⟩
      have hb:l.any badX = false:=by
        cases q:l.any badX
        · rfl
        · exact absurd (.inr q) h1
      have:=List.any_eq_false.1 hb x hx
      unfold badX at this
      simp only [Bool.or_eq_true,decide_eq_true_eq,not_or] at this
      omega
theorem aSize_eq {l:List Int} (hl:l.length < 4611686018427387904):Arr.size l = some (szS l):=by
  by_cases h:0 ≤ szS l
  · obtain ⟨h3,good,hp,hle⟩:=szS_three h
    have hz:szS l = prodL l:=hp
    rw [hp] at h
    rw [hp]
    match l,h3,good,hz,h,hle with
    | [],_,_,hz,h,hle =>
      exact size_of (st:=[]) (by decide) rfl hz h (by simp) (whEnd [] [] [] 1 0 rfl) (fun _=>⟨0,enEnd [] [] 0 0 0 rfl,by decide⟩)
    | [a],_,good,hz,h,hle =>
      have ga:=good a (by simp)
      have hpa:prodL [a] = a:=by unfold prodL; simp only [List.foldl]; rw [Int.one_mul]
      rw [hpa] at hz h hle ⊢
      refine size_of (st:=[1]) (by simp) rfl hz h (by simp) ?_ (fun h0=>⟨a - 1,?_,by omega⟩)
      · refine (whStep [a] [a] [] 1 a 0 rfl (by simp) (by simp) (by omega) (by omega)).trans ?_
        exact whEnd [a] [a] [1] _ 1 rfl
      · unfold Sec.ends
        simp only [letkE]
        have:=enStep [a] [1] 0 1 a (a - 1) 0 rfl rfl (by simp) (by omega) (by omega) (by omega) (by omega) (by omega)
        rw [show Sec.ends.l0 ⟨0,[a],[1]⟩ ([1]:List Int).length 0 [a] [1] 0 0 0 = _ from this,enEnd [a] [1] _ _ 1 rfl,Int.zero_add]
    | [a,b],_,good,hz,h,hle =>
      have ga:=good a (by simp)
      have gb:=good b (by simp)
      have m1:=mul_bound ga.1 gb.1 ga.2 gb.2
      have hpa:prodL [a,b] = a * b:=by unfold prodL; simp only [List.foldl]; rw [Int.one_mul]
      rw [hpa] at hz h hle ⊢
      refine size_of (st:=[1,a]) (by simp) rfl hz h (by simp; omega) ?_ (fun h0=>⟨a * b - 1,?_,by omega⟩)
      · refine (whStep [a,b] [a,b] [] 1 a 0 rfl (by simp) (by simp) (by omega) (by omega)).trans ?_
        rw [Int.one_mul]
        rw [show (([]:List Int) ++ [1]) = [1] from rfl,whStep [a,b] [a,b] [1] a b 1 rfl (by simp) (by simp) (by omega) (by omega)]
        exact whEnd [a,b] [a,b] [1,a] _ 2 rfl
      · have a0:a ≠ 0:=fun q=>h0 (by rw [q,Int.zero_mul])
        have b0:b ≠ 0:=fun q=>h0 (by rw [q,Int.mul_zero])
        have e1:a * (b - 1) = a * b - a:=by rw [Int.mul_sub,Int.mul_one]
        have hge:a ≤ a * b:=by
          have:=Int.mul_le_mul_of_nonneg_left (show 1 ≤ b by omega) ga.1
          rwa [Int.mul_one] at this
        unfold Sec.ends
        simp only [letkE]
        have s1:=enStep [a,b] [1,a] 0 1 a (a - 1) 0 rfl rfl (by simp) (by omega) (by omega) (by omega) (by omega) (by omega)
        have s2:=enStep [a,b] [1,a] (0 + (a - 1)) a b (a * b - a) 1 rfl rfl (by simp) (by omega) e1 (by omega) (by omega) (by omega)
        rw [show Sec.ends.l0 ⟨0,[a,b],[1,a]⟩ ([1,a]:List Int).length 0 [a,b] [1,a] 0 0 0 = _ from s1,s2,enEnd [a,b] [1,a] _ _ 2 rfl]
        congr 2; omega
    | [a,b,c],_,good,hz,h,hle =>
      have ga:=good a (by simp)
      have gb:=good b (by simp)
      have gc:=good c (by simp)
      have m1:=mul_bound ga.1 gb.1 ga.2 gb.2
      have m2:=mul_bound m1.1 gc.1 m1.2 gc.2
      have hpa:prodL [a,b,c] = a * b * c:=by unfold prodL; simp only [List.foldl]; rw [Int.one_mul]
      rw [hpa] at hz h hle ⊢
      refine size_of (st:=[1,a,a * b]) (by simp) rfl hz h (by simp; omega) ?_ (fun h0=>⟨a * b * c - 1,?_,by omega⟩)
      · refine (whStep [a,b,c] [a,b,c] [] 1 a 0 rfl (by simp) (by simp) (by omega) (by omega)).trans ?_
        rw [Int.one_mul]
        rw [show (([]:List Int) ++ [1]) = [1] from rfl,whStep [a,b,c] [a,b,c] [1] a b 1 rfl (by simp) (by simp) (by omega) (by omega)]
        rw [show (([1]:List Int) ++ [a]) = [1,a] from rfl,whStep [a,b,c] [a,b,c] [1,a] (a * b) c 2 rfl (by simp) (by simp) (by omega) (by omega)]
        exact whEnd [a,b,c] [a,b,c] [1,a,a * b] _ 3 rfl
      · have c0:c ≠ 0:=fun q=>h0 (by rw [q,Int.mul_zero])
        have ab0:a * b ≠ 0:=fun q=>h0 (by rw [q,Int.zero_mul])
        have a0:a ≠ 0:=fun q=>ab0 (by rw [q,Int.zero_mul])
        have b0:b ≠ 0:=fun q=>ab0 (by rw [q,Int.mul_zero])
        have e1:a * (b - 1) = a * b - a:=by rw [Int.mul_sub,Int.mul_one]
        have e2:a * b * (c - 1) = a * b * c - a * b:=by rw [Int.mul_sub,Int.mul_one]
        have hge:a ≤ a * b:=by
          have:=Int.mul_le_mul_of_nonneg_left (show 1 ≤ b by omega) ga.1
          rwa [Int.mul_one] at this
        have hge2:a * b ≤ a * b * c:=by
          have:=Int.mul_le_mul_of_nonneg_left (show 1 ≤ c by omega) m1.1
          rwa [Int.mul_one] at this
        unfold Sec.ends
        simp only [letkE]
        have s1:=enStep [a,b,c] [1,a,a * b] 0 1 a (a - 1) 0 rfl rfl (by simp) (by omega) (by omega) (by omega) (by omega) (by omega)
        have s2:=enStep [a,b,c] [1,a,a * b] (0 + (a - 1)) a b (a * b - a) 1 rfl rfl (by simp) (by omega) e1 (by omega) (by omega) (by omega)
        have s3:=enStep [a,b,c] [1,a,a * b] (0 + (a - 1) + (a * b - a)) (a * b) c (a * b * c - a * b) 2 rfl rfl (by simp) (by omega) e2 (by omega) (by omega) (by omega)
        rw [show Sec.ends.l0 ⟨0,[a,b,c],[1,a,a * b]⟩ ([1,a,a * b]:List Int).length 0 [a,b,c] [1,a,a * b] 0 0 0 = _ from s1,s2,s3,enEnd [a,b,c] [1,a,a * b] _ _ 3 rfl]
        congr 2; omega
    | _ :: _ :: _ :: _ :: _,h3,_,_,_,_=>exfalso; simp at h3
  · unfold Arr.size Sec.Whole
    simp only [letkE,nb1]
    rw [secSize_eq hl,bindS,decide_eq_true (show szS l < 0 by omega),condT,bindS]
    dsimp only
    rw [show (!decide ((2:Int) = 0)) = true from rfl,condT]
    have:szS l = -1:=by
      unfold szS at *
      split
      · rfl
      · rename_i h1
        rw [if_neg h1] at h
        split
        · rfl
        · rename_i h2
          rw [if_neg h2] at h
          exfalso
          apply h
          have good:∀ x ∈ l,0 ≤ x:=by
            intro x hx
            have hb:l.any badX = false:=by
              cases q:l.any badX
              · rfl
              · exact absurd (.inr q) h1
            have:=List.any_eq_false.1 hb x hx
            unfold badX at this
            simp only [Bool.or_eq_true,decide_eq_true_eq,not_or] at this
            omega
          unfold prodL
          have gen:∀ (l:List Int) (n:Int),0 ≤ n → (∀ x ∈ l,0 ≤ x) → 0 ≤ l.foldl (· * ·) n:=by
            intro l
            induction l with
            | nil=>intro n hn _; exact hn
            | cons y l ih=>intro n hn hl; exact ih _ (Int.mul_nonneg hn (hl y (by simp))) (fun x hx=>hl x (by simp [hx]))
          exact gen l 1 (by decide) good
    rw [this]
noncomputable def vldS (a:api.Array):Bool:=decide (1 ≤ a.Kind) && (decide (a.Kind ≤ 4) && (decide (szS a.Shape = a.Elems.length) && a.Elems.all (dV a.Kind)))
theorem aValid_eq (a:api.Array) (h1:a.Shape.length < 4611686018427387904) (h2:a.Elems.length < 4611686018427387904):Arr.Valid a = some (vldS a):=by
  unfold Arr.Valid vldS
  simp only [letkE,b1]
  by_cases c1:1 ≤ a.Kind
  · rw [decide_eq_true (show a.Kind ≥ 1 from c1),condT,Bool.true_and]
    by_cases c2:a.Kind ≤ 4
    · rw [decide_eq_true c2,condT,Bool.true_and,aSize_eq h1,bindS]
      by_cases c3:szS a.Shape = a.Elems.length
      · rw [decide_eq_true c3,condT,Bool.true_and,anyF (p:=fun n=>!dV a.Kind n) (fun x _=>by
          unfold Arr.Valid_1
          simp only [letkE]
          rw [aFits_eq,bindS]) h2,bindS]
        congr 1
        rw [List.all_eq_not_any_not]
      · rw [decide_eq_false c3,condF,Bool.false_and]
    · rw [decide_eq_false c2,condF,Bool.false_and]
  · rw [decide_eq_false (show ¬ a.Kind ≥ 1 from c1),condF,Bool.false_and]
structure ArrI (a:api.Array):Prop where
  i:∀ n ∈ a.Elems,I64 n
  e:a.Elems.length ≤ 400
  s:a.Shape.length ≤ 50
theorem vld_facts {a:api.Array} (h:vldS a = true):1 ≤ a.Kind ∧ a.Kind ≤ 4 ∧ szS a.Shape = a.Elems.length ∧ ∀ n ∈ a.Elems,ValB a.Kind n:=by
  unfold vldS at h
  simp only [Bool.and_eq_true,decide_eq_true_eq,List.all_eq_true] at h
  exact ⟨h.1,h.2.1,h.2.2.1,fun n hn=>dV_iff.1 (h.2.2.2 n hn)⟩
theorem scalar_eq (a:api.Array):Arr.isScalar a = some (decide (a.Shape.length = 0)):=by
  unfold Arr.isScalar
  simp only [letkE,b1]
  congr 1
  rw [decide_eq_decide]; omega
def ixA (a:api.Array) (i:Nat):Nat:=if a.Shape.length = 0 then 0 else i
theorem aAt_eq {a:api.Array} {i:Nat} (h:ixA a i < a.Elems.length):Arr.at_ a (i:Int) = some ⟨a.Kind,a.Elems[ixA a i]⟩:=by
  unfold Arr.at_ Arr.at_.j0
  rw [show Arr.isScalar ⟨a.Kind,a.Shape,a.Elems⟩ = _ from scalar_eq a,bindS]
  unfold ixA at *
  by_cases hs:a.Shape.length = 0
  · simp only [if_pos hs] at h ⊢
    rw [decide_eq_true hs,condT,chk_pos (by decide),show ((0:Int)).toNat = 0 from rfl,List.getElem?_eq_getElem h,bindS]
  · simp only [if_neg hs] at h ⊢
    rw [decide_eq_false hs,condF,chk_pos (by omega),Int.toNat_natCast,List.getElem?_eq_getElem h,bindS]
theorem clone_ok {l:List Int} (h:l.length ≤ 50):Slcs.Clone___int_int_ l = some l:=by
  unfold Slcs.Clone___int_int_
  rw [chk_pos (by omega)]
section
variable {op:ByteArray} {a b:api.Array} (ha:ArrI a) (hb:ArrI b) (va:vldS a = true) (vb:vldS b = true)
include ha hb va vb
end
structure ArrR (a:api.Array):Prop where
  i:∀ n ∈ a.Elems,I64 n
  e:a.Elems.length < 9223372036854775808
  s:a.Shape.length < 9223372036854775808
def largeA (a:api.Array):Bool:=decide (400 < a.Elems.length) || decide (50 < a.Shape.length)
theorem largeA_no {a:api.Array} (h:ArrR a) (hl:largeA a = false):ArrI a:=by
  unfold largeA at hl
  simp only [Bool.or_eq_false_iff,decide_eq_false_iff_not] at hl
  exact ⟨h.i,by omega,by omega⟩
theorem lgStep (l:List api.Array) (k:Nat) (a:api.Array) (ha:l[k]? = some a) (hl:l.length < 100) (hr:ArrR a):Law7.isLarge.l0 l (k:Int) = if largeA a = true then some true else Law7.isLarge.l0 l ((k + 1:Nat):Int):=by
  have hk:k < l.length:=by
    rcases Nat.lt_or_ge k l.length with q | q
    · exact q
    · rw [List.getElem?_eq_none q] at ha; cases ha
  rw [Law7.isLarge.l0,loopO_eq,Law7.isLarge.s0]
  simp only [letkE]
  rw [decide_eq_true (show (k:Int) < (l.length:Int) by omega),condT,chk_pos (by omega),Int.toNat_natCast,ha,bindS,chk_pos (by omega),bindS,wi (by omega) (by omega)]
  unfold largeA
  by_cases h1:400 < a.Elems.length
  · rw [decide_eq_true (show (a.Elems.length:Int) > 400 by omega),condT,decide_eq_true h1,Bool.true_or,if_pos rfl]; rfl
  · rw [decide_eq_false (show ¬ (a.Elems.length:Int) > 400 by omega),condF,decide_eq_false h1,Bool.false_or]
    by_cases h2:50 < a.Shape.length
    · rw [decide_eq_true (show (a.Shape.length:Int) > 50 by omega),condT,decide_eq_true h2,if_pos rfl]; rfl
    · rw [decide_eq_false (show ¬ (a.Shape.length:Int) > 50 by omega),condF,decide_eq_false h2,if_neg (by decide)]; rfl
theorem lgEnd (l:List api.Array) (k:Nat) (hk:k = l.length) (hl:l.length ≤ 10):Law7.isLarge.l0 l (k:Int) = some false:=by
  rw [Law7.isLarge.l0,loopO_eq,Law7.isLarge.s0]
  simp only [letkE]
  rw [decide_eq_false (show ¬ (k:Int) < (l.length:Int) by omega),condF,decide_eq_false (show ¬ (l.length:Int) > 10 by omega)]; rfl
theorem Same_self {x:api.Array} (h1:x.Shape.length ≤ 50) (h2:x.Elems.length ≤ 400):Arr.Same x x = some true:=by
  unfold Arr.Same
  simp only [letkE,b1,decide_true,condT]
  rw [eqF (by omega),decide_eq_true rfl,bindS,condT,eqF (by omega),decide_eq_true rfl,bindS]
theorem ss_l0 {l k:List Int} (hk:l.length = k.length) (hl:l.length < 4611686018427387904) :
    ∀ m i:Nat,i + m = l.length → Ref7.SameShape.l0 l k (i:Int) = some (decide (l.drop i = k.drop i)):=by
  intro m
  induction m with
  | zero =>
    intro i hi
    rw [Ref7.SameShape.l0,loopO_eq,Ref7.SameShape.s0]
    simp only [letkE]
    rw [decide_eq_false (show ¬ (i:Int) < (l.length:Int) by omega),condF,bindS,Sum.elim_inr,List.drop_of_length_le (by omega),List.drop_of_length_le (by omega),decide_eq_true rfl]
  | succ m ih =>
    intro i hi
    have hil:i < l.length:=by omega
    have hik:i < k.length:=by omega
    rw [Ref7.SameShape.l0,loopO_eq,Ref7.SameShape.s0]
    simp only [letkE,nb1]
    rw [decide_eq_true (show (i:Int) < (l.length:Int) by omega),condT,chk_pos (by omega),Int.toNat_natCast,List.getElem?_eq_getElem hil,bindS,chk_pos (by omega),List.getElem?_eq_getElem hik,bindS,List.drop_eq_getElem_cons hil,List.drop_eq_getElem_cons hik]
    by_cases hp:l[i] = k[i]
    · rw [decide_eq_true hp,Bool.not_true,condF,wi (by omega) (by omega),bindS,Sum.elim_inl]
      rw [show Option.some (decide (l[i] :: l.drop (i + 1) = k[i] :: k.drop (i + 1))) = some (decide (l.drop (i + 1) = k.drop (i + 1))) from by
        congr 1; rw [decide_eq_decide,hp]; constructor
        · intro q; exact (List.cons.inj q).2
        · intro q; rw [q]]
      exact ih (i + 1) (by omega)
    · rw [decide_eq_false hp,Bool.not_false,condT,bindS,Sum.elim_inr,decide_eq_false (fun q=>hp (List.cons.inj q).1)]
theorem ssF {l k:List Int} (hl:l.length < 4611686018427387904):Ref7.SameShape l k = some (decide (l = k)):=by
  unfold Ref7.SameShape
  simp only [letkE,nb1]
  by_cases h:l.length = k.length
  · rw [decide_eq_true (show (l.length:Int) = (k.length:Int) by omega),Bool.not_true,condF]
    have:=ss_l0 h hl l.length 0 (by omega)
    rw [List.drop_zero,List.drop_zero] at this
    exact this
  · rw [decide_eq_false (show ¬ (l.length:Int) = (k.length:Int) by omega),Bool.not_false,condT,decide_eq_false (fun q=>h (by rw [q]))]
section
variable {op:ByteArray} {a b:api.Array} (ha:ArrI a) (hb:ArrI b) (va:vldS a = true) (vb:vldS b = true) (hk:kindC (opC (L op)) a.Kind b.Kind ≠ 0) (h0:a.Shape.length ≠ 0) (hs:a.Shape = b.Shape)
include ha hb va vb hk h0 hs
end
end Go.Q
