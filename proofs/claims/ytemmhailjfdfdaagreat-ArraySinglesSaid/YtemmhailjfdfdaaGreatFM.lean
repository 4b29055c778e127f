import Derived.Test.YtemmhailjfdfdaaGreatFL
namespace Go.Q
open Go
set_option maxRecDepth 100000
set_option maxHeartbeats 4000000
end Go.Q
namespace Go.Q
open Go
set_option maxRecDepth 100000
set_option maxHeartbeats 4000000
end Go.Q
namespace Go.Q
open Go
set_option maxRecDepth 100000
set_option maxHeartbeats 4000000
def quietS (p w:Nat):Int:=packS p w 0 (2 ^ w - 1) (2 ^ (p - 2))
def infS (p w:Nat) (s:Int):Int:=packS p w s (2 ^ w - 1) 0
def zeroS (p w:Nat) (s:Int):Int:=packS p w s 0 0
end Go.Q
namespace Go.Q
open Go
set_option maxRecDepth 100000
set_option maxHeartbeats 4000000
def negN (y:float.number):float.number:=⟨y.class_,1 - y.sign,y.m,y.e⟩
end Go.Q
namespace Go.Q
open Go
set_option maxRecDepth 100000
set_option maxHeartbeats 4000000
end Go.Q
namespace Go.Q
open Go
set_option maxRecDepth 100000
set_option maxHeartbeats 4000000
noncomputable def fromS (p w:Nat) (mode n:Int):Int × Int :=
  if n = 0 then (zeroS p w 0,0) else rndS p w mode (if n < 0 then 1 else 0) n.natAbs 0 false
theorem FromInt_eq {kind mode:Int} {p w:Nat} (h:kindS kind p w) (hm:0 ≤ mode ∧ mode < 4) {n:Int} (hn:-9223372036854775808 ≤ n ∧ n < 9223372036854775808) :
    Flt.FromInt kind mode n = some ((fromS p w mode n).1,(fromS p w mode n).2,0):=by
  have hk:=h.ok
  have es:(⟨(shp p w).p,(shp p w).w⟩:float.shape) = shp p w:=rfl
  unfold Flt.FromInt
  simp only [of_eq h,Option.bind_some,letk,Bool.not_true,cond]
  rw [decide_eq_false (by omega:¬ mode < 0)]
  simp only
  rw [decide_eq_false (by omega:¬ mode ≥ 4)]
  simp only
  unfold Flt.FromInt.j0 fromS zeroS
  simp only [letk,es]
  by_cases c0:n = 0
  · subst c0
    rw [show ((0:Int) == 0) = true from rfl,zero_eq hk (.inl rfl)]; rfl
  · rw [show (n == 0) = false from beq_eq_false_iff_ne.2 c0,if_neg c0]
    simp only [cond]
    by_cases c1:n < 0
    · rw [decide_eq_true c1,if_pos c1]
      simp only
      have e:IntKind.u64.wrap (0 - IntKind.u64.wrap n) = ((n.natAbs:Nat):Int):=by
        show (0 - n % 18446744073709551616) % 18446744073709551616 = _
        omega
      rw [e]
      have er:=round_eq hk (mode:=mode) (sign:=1) (e:=0) (more:=false) (hi:=0) (lo:=n.natAbs) (.inr rfl) (by decide) (by omega) (by omega) (by decide) (by decide) (by intro q; cases q)
      rw [Nat.zero_mul,Nat.zero_add] at er
      rw [show Flt.shape.round (shp p w) mode 1 ⟨0,(n.natAbs:Int),0,false⟩ = _ from er]
      generalize rndS p w mode 1 n.natAbs 0 false = r
      rfl
    · rw [decide_eq_false c1,if_neg c1]
      simp only
      have e:IntKind.u64.wrap n = ((n.natAbs:Nat):Int):=by
        show n % 18446744073709551616 = _
        omega
      rw [e]
      have er:=round_eq hk (mode:=mode) (sign:=0) (e:=0) (more:=false) (hi:=0) (lo:=n.natAbs) (.inl rfl) (by decide) (by omega) (by omega) (by decide) (by decide) (by intro q; cases q)
      rw [Nat.zero_mul,Nat.zero_add] at er
      rw [show Flt.shape.round (shp p w) mode 0 ⟨0,(n.natAbs:Int),0,false⟩ = _ from er]
      generalize rndS p w mode 0 n.natAbs 0 false = r
      rfl
end Go.Q
namespace Go.Q
open Go
set_option maxRecDepth 100000
set_option maxHeartbeats 4000000
theorem rnd_small2 {p w p2 w2:Nat} (h:OkS p w) (h2:OkS p2 w2) {mode:Int} {x:float.number} (hx:NumOk p w x) (c:x.class_ = 1) :
    Flt.shape.round (shp p2 w2) mode x.sign ⟨0,x.m,x.e,false⟩ = some (rndS p2 w2 mode x.sign x.m.toNat x.e false):=by
  obtain ⟨h1,_,h3,h4,h5,h6⟩:=h.facts
  have hb:0 ≤ biasS w ∧ biasS w < 2000:=by rcases h with ⟨rfl,rfl⟩ | ⟨rfl,rfl⟩ | ⟨rfl,rfl⟩ <;> decide
  have hlst:lstS p w = 2 - biasS w - p:=rfl
  obtain ⟨m,em,m0,m1,ex0,ex1,mn⟩:=hx.mag c
  have hp63:2 ^ p < 18446744073709551616:=pw_lt (Nat.le_refl _) (by omega)
  have er:=round_eq h2 (mode:=mode) (e:=x.e) (more:=false) (hi:=0) (lo:=m) hx.sgn (by decide) (by omega) (by omega) (by omega) (by omega) (by intro q; cases q)
  rw [Nat.zero_mul,Nat.zero_add] at er
  rw [em,Int.toNat_natCast]
  exact er
noncomputable def convS (p2 w2:Nat) (mode:Int) (x:float.number):Int × Int :=
  if x.class_ = 3 then (quietS p2 w2,0)
  else if x.class_ = 2 then (infS p2 w2 x.sign,0)
  else if x.class_ = 0 then (zeroS p2 w2 x.sign,0)
  else rndS p2 w2 mode x.sign x.m.toNat x.e false
theorem Convert_eq {k1 k2 mode:Int} {p w p2 w2:Nat} (h:kindS k1 p w) (h2:kindS k2 p2 w2) (hm:0 ≤ mode ∧ mode < 4) {a:Int} (ha:bitsOk p w a) :
    Flt.Convert k1 k2 mode a = some ((convS p2 w2 mode (numS p w a)).1,(convS p2 w2 mode (numS p w a)).2,0):=by
  unfold Flt.Convert
  rw [two_eq h hm ha ha,Option.bind_some]
  have hx:=numS_ok h.ok a
  generalize numS p w a = x at *
  have es:(⟨(shp p2 w2).p,(shp p2 w2).w⟩:float.shape) = shp p2 w2:=rfl
  have ex:(⟨x.class_,x.sign,x.m,x.e⟩:float.number) = x:=rfl
  simp only [of_eq h2,Option.bind_some,letk,Bool.not_true,cond]
  unfold Flt.Convert.j0 convS quietS infS zeroS
  simp only [letk,es]
  rcases hx.cls with cx | cx | cx | cx
  · simp only [cx,zero_eq h2.ok hx.sgn]; rfl
  · have er:=rnd_small2 h.ok h2.ok (mode:=mode) hx cx
    rw [er]
    simp only [cx]
    generalize rndS p2 w2 mode x.sign x.m.toNat x.e false = r
    rfl
  · simp only [cx,infinite_eq h2.ok hx.sgn]; rfl
  · simp only [cx,quiet_eq h2.ok]; rfl
def sizeS (p w:Nat) (a:Int):Nat:=(a % 18446744073709551616).toNat % 2 ^ (p + w - 1)
theorem mask_eq {p w:Nat} (h:OkS p w) (a:Int):IntKind.u64.wrap (((BitVec.ofInt IntKind.u64.bits (IntKind.u64.wrap a) &&& BitVec.ofInt IntKind.u64.bits (IntKind.u64.wrap (IntKind.u64.wrap ((1:Int) * 2 ^ (min (((p:Int) + w - 1)).toNat IntKind.u64.bits)) - 1))).toNat:Nat):Int) = (sizeS p w a:Int):=by
  obtain ⟨h1,h2,h3,h4,h5,h6⟩:=h.facts
  obtain ⟨e1,e2⟩:=wrap_toNat a
  have hp:=pw_lt (a:=p + w - 1) (Nat.le_refl _) (by omega)
  have h0:=Nat.two_pow_pos (p + w - 1)
  rw [e1,u_shl' (a:=1) (k:=p + w - 1) (x:=1) rfl (by omega),Nat.one_mul,Nat.mod_eq_of_lt hp]
  rw [wu (x:=((2 ^ (p + w - 1):Nat):Int) - 1) (by omega) (by omega)]
  rw [u_and' (b:=2 ^ (p + w - 1) - 1) rfl (by omega) e2 (by omega),Nat.and_two_pow_sub_one_eq_mod]
  rfl
theorem size_lt {p w:Nat} (h:OkS p w) (a:Int):(sizeS p w a:Int) < 9223372036854775808:=by
  obtain ⟨h1,h2,h3,h4,h5,h6⟩:=h.facts
  have:sizeS p w a < 2 ^ (p + w - 1):=Nat.mod_lt _ (Nat.two_pow_pos _)
  have h2:2 ^ (p + w - 1) ≤ 2 ^ 63:=Nat.pow_le_pow_right (by decide) (by omega)
  have h3:(2:Nat) ^ 63 = 9223372036854775808:=by decide
  omega
noncomputable def signS (p w:Nat) (f:Int → Int) (a:Int) (x:float.number):Int :=
  if x.class_ = 3 then quietS p w else IntKind.i64.wrap ((((f x.sign).toNat * 2 ^ (p + w - 1) + sizeS p w a:Nat)):Int)
theorem signed_eq {kind:Int} {p w:Nat} (h:kindS kind p w) {a:Int} (ha:bitsOk p w a) {g:Int → Option Int} {f:Int → Int} (hg:∀ s,(s = 0 ∨ s = 1) → g s = some (f s) ∧ (f s = 0 ∨ f s = 1)) :
    Flt.signed kind a g = some (signS p w f a (numS p w a),0):=by
  obtain ⟨h1,h2,h3,h4,h5,h6⟩:=h.ok.facts
  unfold Flt.signed
  rw [two_eq h (by decide) ha ha,Option.bind_some]
  have hx:=numS_ok h.ok a
  generalize numS p w a = x at *
  have es:(⟨(shp p w).p,(shp p w).w⟩:float.shape) = shp p w:=rfl
  obtain ⟨e1,e2⟩:=hg x.sign hx.sgn
  simp only [letk,Bool.not_true,cond,es,quiet_eq h.ok,Option.bind_some,e1]
  unfold signS quietS
  by_cases c:x.class_ = 3
  · rw [if_pos c,show (x.class_ == 3) = true from by rw [c]; rfl]
  · rw [if_neg c,show (x.class_ == 3) = false from beq_eq_false_iff_ne.2 c]
    simp only
    rw [show (shp p w).p = (p:Int) from rfl,show (shp p w).w = (w:Int) from rfl,wi (x:=(p:Int) + w) (by omega) (by omega),wi (x:=(p:Int) + w - 1) (by omega) (by omega),chk_pos (by omega),chk_pos (by omega)]
    rw [mask_eq h.ok]
    have hs:=size_lt h.ok a
    have hs2:sizeS p w a < 2 ^ (p + w - 1):=Nat.mod_lt _ (Nat.two_pow_pos _)
    have hpp:2 ^ (p + w - 1) ≤ 9223372036854775808:=by
      have h2:2 ^ (p + w - 1) ≤ 2 ^ 63:=Nat.pow_le_pow_right (by decide) (by omega)
      exact h2
    obtain ⟨s,hsE,hs1⟩:∃ s:Nat,f x.sign = s ∧ s ≤ 1:=by
      rcases e2 with e | e
      · exact ⟨0,e,by decide⟩
      · exact ⟨1,e,by decide⟩
    have hsm:s * 2 ^ (p + w - 1) ≤ 1 * 2 ^ (p + w - 1):=Nat.mul_le_mul_right _ hs1
    rw [hsE,wu (x:=(s:Int)) (by omega) (by omega),u_shl' (a:=s) (k:=p + w - 1) rfl (by omega),Nat.mod_eq_of_lt (by omega),u_or' rfl rfl (by omega) (by omega),or_add hs2,Int.toNat_natCast]
end Go.Q
