import Derived.Test.YtemmhailjfdfdaaGreatFM
namespace Go.Q
open Go
set_option maxRecDepth 100000
set_option maxHeartbeats 4000000
end Go.Q
namespace Go.Q
open Go
set_option maxRecDepth 100000
set_option maxHeartbeats 4000000
theorem wnat {n:Nat} (h:n < 18446744073709551616):IntKind.u64.wrap (n:Int) = (n:Int):=by
  rw [wuN,Nat.mod_eq_of_lt h]
theorem tdiv_nat (a b:Nat):(a:Int).tdiv (b:Int) = ((a / b:Nat):Int):=by
  rw [Int.tdiv_eq_ediv_of_nonneg (Int.natCast_nonneg _)]; rfl
theorem tmod_nat (a b:Nat):(a:Int).tmod (b:Int) = ((a % b:Nat):Int):=by
  rw [Int.tmod_eq_emod_of_nonneg (Int.natCast_nonneg _)]; rfl
section
variable {t36:Int} {y n1 n0:Nat}
end
end Go.Q
namespace Go.Q
open Go
set_option maxRecDepth 100000
set_option maxHeartbeats 4000000
end Go.Q
namespace Go.Q
open Go
set_option maxRecDepth 100000
set_option maxHeartbeats 4000000
def wholeS (m:Nat) (e:Int):Nat:=if 0 ≤ e then m * 2 ^ e.toNat else m / 2 ^ (-e).toNat
def wrestS (m:Nat) (e:Int):Nat:=if 0 ≤ e then 0 else restC m (-e).toNat false
def wupS (mode sign:Int) (m:Nat) (e:Int):Nat:=if awayS mode sign (decide (wholeS m e % 2 = 1)) (wrestS m e) = true then wholeS m e + 1 else wholeS m e
def toS (mode:Int) (x:float.number):Int × Int × Int :=
  if x.class_ = 3 ∨ x.class_ = 2 then (0,0,10)
  else if x.class_ = 0 then (0,0,0)
  else if 9223372036854775808 < wupS mode x.sign x.m.toNat x.e ∨ (wupS mode x.sign x.m.toNat x.e = 9223372036854775808 ∧ x.sign = 0) then (0,0,10)
  else (if x.sign = 1 then -(wupS mode x.sign x.m.toNat x.e:Int) else wupS mode x.sign x.m.toNat x.e,if 0 < wrestS x.m.toNat x.e then 16 else 0,0)
theorem awayS_zero (mode sign:Int) (odd:Bool):awayS mode sign odd 0 = false:=by
  unfold awayS
  split
  · rfl
  · split
    · rfl
    · split
      · rfl
      · rfl
theorem wi_neg {x:Int} (h:9223372036854775808 ≤ x) (h2:x < 18446744073709551616):IntKind.i64.wrap x = x - 18446744073709551616:=by
  have e:x % 18446744073709551616 = x:=by omega
  unfold IntKind.wrap
  simp only [show (2:Int) ^ IntKind.i64.bits = 18446744073709551616 from rfl,show (2:Int) ^ (IntKind.i64.bits - 1) = 9223372036854775808 from rfl,e,show IntKind.i64.signed = true from rfl,Bool.true_and,decide_eq_true_eq]
  rw [if_pos h]
theorem toInt_j2 {sign c x2 x3:Int} {m rest:Nat} (hs:sign = 0 ∨ sign = 1) (hm:m < 18446744073709551616) :
    Flt.ToInt.j2 0 rest c sign x2 x3 m = some (if 9223372036854775808 < m ∨ (m = 9223372036854775808 ∧ sign = 0) then (0,0,10) else (if sign = 1 then -(m:Int) else m,if 0 < rest then 16 else 0,0)):=by
  have j4:∀ f:Int,(m ≤ 9223372036854775808 ∧ (m = 9223372036854775808 → sign = 1)) → Flt.ToInt.j4 c sign x2 x3 m f = some (if sign = 1 then -(m:Int) else m,f,0):=by
    intro f hf
    unfold Flt.ToInt.j4
    simp only [letk]
    rcases hs with rfl | rfl
    · rw [show ((0:Int) == 1) = false from rfl,if_neg (by decide)]
      simp only [cond]
      rw [wi (by omega) (by omega)]
    · rw [show ((1:Int) == 1) = true from rfl,if_pos rfl]
      simp only [cond]
      have:IntKind.i64.wrap (IntKind.u64.wrap (0 - (m:Int))) = -(m:Int):=by
        rcases Nat.eq_zero_or_pos m with h0 | h0
        · subst h0; rfl
        · have e1:IntKind.u64.wrap (0 - (m:Int)) = 18446744073709551616 - (m:Int):=by
            show (0 - (m:Int)) % 18446744073709551616 = _
            omega
          rw [e1,wi_neg (by omega) (by omega)]
          omega
      rw [this]
  have j3:(m ≤ 9223372036854775808 ∧ (m = 9223372036854775808 → sign = 1)) → Flt.ToInt.j3 rest c sign x2 x3 m 0 = some (if sign = 1 then -(m:Int) else m,if 0 < rest then 16 else 0,0):=by
    intro hf
    unfold Flt.ToInt.j3
    simp only [letk]
    by_cases hr:0 < rest
    · rw [decide_eq_true (show (rest:Int) > 0 by omega),if_pos hr]
      exact j4 16 hf
    · rw [decide_eq_false (show ¬ (rest:Int) > 0 by omega),if_neg hr]
      exact j4 0 hf
  unfold Flt.ToInt.j2
  simp only [letk]
  by_cases h1:9223372036854775808 < m
  · rw [decide_eq_true (show (m:Int) > 9223372036854775808 by omega),if_pos (.inl h1)]; rfl
  · rw [decide_eq_false (show ¬ (m:Int) > 9223372036854775808 by omega)]
    simp only [cond]
    by_cases h2:m = 9223372036854775808
    · rw [show ((m:Int) == 9223372036854775808) = true from by rw [beq_iff_eq]; omega]
      simp only
      rcases hs with rfl | rfl
      · rw [if_pos (.inr ⟨h2,rfl⟩)]; rfl
      · rw [if_neg (show ¬ (9223372036854775808 < m ∨ (m = 9223372036854775808 ∧ (1:Int) = 0)) from by rintro (h | ⟨_,h⟩); exact h1 h; cases h)]
        exact j3 ⟨by omega,fun _=>rfl⟩
    · rw [show ((m:Int) == 9223372036854775808) = false from by rw [beq_eq_false_iff_ne]; omega]
      simp only
      rw [if_neg (show ¬ (9223372036854775808 < m ∨ (m = 9223372036854775808 ∧ sign = 0)) from by rintro (h | ⟨h,_⟩); exact h1 h; exact h2 h)]
      exact j3 ⟨by omega,fun h=>absurd h h2⟩
theorem toInt_j1 {mode sign c x2 x3:Int} {m rest:Nat} (hs:sign = 0 ∨ sign = 1) (hm:m + 1 < 18446744073709551616) {W:Nat} (hW:W = if awayS mode sign (decide (m % 2 = 1)) rest = true then m + 1 else m) :
    Flt.ToInt.j1 mode 0 c sign x2 x3 m rest = some (if 9223372036854775808 < W ∨ (W = 9223372036854775808 ∧ sign = 0) then (0,0,10) else (if sign = 1 then -(W:Int) else W,if 0 < rest then 16 else 0,0)):=by
  unfold Flt.ToInt.j1
  simp only [letk]
  rw [u_and' (b:=1) (y:=1) rfl rfl (by omega) (by decide),Nat.and_one_is_mod,show (((m % 2:Nat):Int) == 1) = decide (m % 2 = 1) from beq_nat _ 1,away_eq,Option.bind_some]
  by_cases ha:awayS mode sign (decide (m % 2 = 1)) rest = true
  · rw [if_pos ha] at hW
    rw [ha]
    simp only [cond]
    rw [wu (x:=(m:Int) + 1) (by omega) (by omega),show (m:Int) + 1 = ((W:Nat):Int) by rw [hW]; rfl]
    exact toInt_j2 hs (by omega)
  · rw [if_neg ha] at hW
    simp only [Bool.not_eq_true] at ha
    rw [ha,hW]
    exact toInt_j2 hs (by omega)
theorem ToInt_eq {kind mode:Int} {p w:Nat} (h:kindS kind p w) (hm:0 ≤ mode ∧ mode < 4) {a:Int} (ha:bitsOk p w a) :
    Flt.ToInt kind mode a = some (toS mode (numS p w a)):=by
  obtain ⟨h1,h2,h3,h4,h5,h6⟩:=h.ok.facts
  have hb:0 ≤ biasS w ∧ biasS w < 2000:=by rcases h.ok with ⟨rfl,rfl⟩ | ⟨rfl,rfl⟩ | ⟨rfl,rfl⟩ <;> decide
  have hlst:lstS p w = 2 - biasS w - p:=rfl
  unfold Flt.ToInt
  rw [two_eq h hm ha ha,Option.bind_some]
  have hx:=numS_ok h.ok a
  have hz:(numS p w a).class_ = 0 → (numS p w a).e = 0:=by
    unfold numS readS
    repeat' split
    all_goals (intro hc; first | rfl | cases hc)
  generalize numS p w a = x at *
  simp only [letk,Bool.not_true,cond]
  unfold Flt.ToInt.j5 toS
  rcases hx.cls with cx | cx | cx | cx
  · rw [hz cx,cx]; rfl
  · obtain ⟨m,em,m0,m1,ex0,ex1,mn⟩:=hx.mag cx
    have hp63:2 ^ p < 18446744073709551615:=by
      have:2 ^ p ≤ 2 ^ 53:=Nat.pow_le_pow_right (by decide) h4
      have:(2:Nat) ^ 53 < 18446744073709551615:=by decide
      omega
    rw [em,Int.toNat_natCast,cx]
    simp only [show ((1:Int) == 3) = false from rfl,show ((1:Int) == 2) = false from rfl,show ((1:Int) == 0) = false from rfl,show ¬ ((1:Int) = 3 ∨ (1:Int) = 2) by decide,if_false,show ¬ ((1:Int) = 0) by decide]
    have big:∀ W:Nat,18446744073709551616 ≤ W → wholeS m x.e = W → 0 ≤ x.e → (if 9223372036854775808 < wupS mode x.sign m x.e ∨ (wupS mode x.sign m x.e = 9223372036854775808 ∧ x.sign = 0) then ((0,0,10):Int × Int × Int) else (if x.sign = 1 then -(wupS mode x.sign m x.e:Int) else wupS mode x.sign m x.e,if 0 < wrestS m x.e then 16 else 0,0)) = (0,0,10):=by
      intro W hW hw he
      have hr:wrestS m x.e = 0:=by unfold wrestS; rw [if_pos he]
      have:wupS mode x.sign m x.e = W:=by
        unfold wupS; rw [hr,awayS_zero,if_neg (by decide),hw]
      rw [this,if_pos (.inl (by omega))]
    by_cases he64:64 ≤ x.e
    · rw [decide_eq_true (show x.e ≥ 64 from he64)]
      rw [big (m * 2 ^ x.e.toNat) (by
        have:1 * 2 ^ 64 ≤ m * 2 ^ x.e.toNat:=Nat.mul_le_mul m0 (Nat.pow_le_pow_right (by decide) (by omega))
        rw [Nat.one_mul,pow64] at this; exact this) (by unfold wholeS; rw [if_pos (by omega)]) (by omega)]
      rfl
    · rw [decide_eq_false (show ¬ x.e ≥ 64 from he64)]
      unfold Flt.ToInt.j0
      simp only [letk]
      by_cases he:0 ≤ x.e
      · rw [decide_eq_true (show x.e ≥ 0 from he)]
        simp only [cond]
        obtain ⟨k,hk⟩:=Int.eq_ofNat_of_zero_le he
        have hw:wholeS m x.e = m * 2 ^ k:=by unfold wholeS; rw [if_pos he,hk,Int.toNat_natCast]
        have hr:wrestS m x.e = 0:=by unfold wrestS; rw [if_pos he]
        rw [chk_pos he,chk_pos he,em,u_shl' (a:=m) (k:=k) rfl hk,u_shr' (a:=m * 2 ^ k % 18446744073709551616) (k:=k) rfl hk (Nat.mod_lt _ (by decide))]
        by_cases hbig:m * 2 ^ k < 18446744073709551616
        · rw [Nat.mod_eq_of_lt hbig,Nat.mul_div_cancel _ (Nat.two_pow_pos k),show ((m:Int) != (m:Int)) = false from bne_self_eq_false _]
          simp only
          by_cases hk0:k = 0
          · rw [hk0,Nat.pow_zero,Nat.mul_one] at hw ⊢
            have hu:wupS mode x.sign m x.e = if awayS mode x.sign (decide (m % 2 = 1)) 0 = true then m + 1 else m:=by unfold wupS; rw [hw,hr]
            have:=toInt_j1 (mode:=mode) (c:=x.class_) (x2:=(m:Int)) (x3:=x.e) (rest:=0) hx.sgn (show m + 1 < 18446744073709551616 by omega) hu
            rw [cx] at this; rw [hr]; exact this
          · have hev:m * 2 ^ k % 2 = 0:=by
              rw [show k = (k - 1) + 1 by omega,Nat.pow_succ,← Nat.mul_assoc]; exact Nat.mul_mod_left _ _
            have hu:wupS mode x.sign m x.e = if awayS mode x.sign (decide (m * 2 ^ k % 2 = 1)) 0 = true then m * 2 ^ k + 1 else m * 2 ^ k:=by unfold wupS; rw [hw,hr]
            have:=toInt_j1 (mode:=mode) (c:=x.class_) (x2:=(m:Int)) (x3:=x.e) (rest:=0) hx.sgn (show m * 2 ^ k + 1 < 18446744073709551616 by omega) hu
            rw [cx] at this; rw [hr]; exact this
        · have hne:m * 2 ^ k % 18446744073709551616 / 2 ^ k ≠ m:=by
            intro hq
            have:=Nat.div_mul_le_self (m * 2 ^ k % 18446744073709551616) (2 ^ k)
            rw [hq] at this
            have:=Nat.mod_lt (m * 2 ^ k) (show 0 < 18446744073709551616 by decide)
            omega
          rw [show ((((m * 2 ^ k % 18446744073709551616 / 2 ^ k:Nat):Int)) != (m:Int)) = true from by rw [bne_iff_ne]; omega]
          simp only
          rw [big (m * 2 ^ k) (by omega) hw he]
      · rw [decide_eq_false (show ¬ x.e ≥ 0 from he)]
        simp only [cond]
        rw [wi (x:=0 - x.e) (by omega) (by omega)]
        obtain ⟨k,hk⟩:=Int.eq_ofNat_of_zero_le (show 0 ≤ 0 - x.e by omega)
        have hkt:(-x.e).toNat = k:=by omega
        have er:=right_eq (hi:=0) (lo:=m) (n:=k) (e:=0) (more:=false) (by decide) (by omega) (by omega) (by omega)
        rw [Nat.zero_mul,Nat.zero_add] at er
        rw [hk,em,show Flt.exact.right ⟨0,(m:Int),0,false⟩ (k:Int) = _ from er,Option.bind_some]
        dsimp only
        have hd:=Nat.div_le_self m (2 ^ k)
        rw [Nat.mod_eq_of_lt (by omega)]
        have hr:wrestS m x.e = rest0 m k false:=by unfold wrestS rest0; rw [if_neg he,hkt,if_neg (by omega)]
        have hw:wholeS m x.e = m / 2 ^ k:=by unfold wholeS; rw [if_neg he,hkt]
        have hu:wupS mode x.sign m x.e = if awayS mode x.sign (decide (m / 2 ^ k % 2 = 1)) (rest0 m k false) = true then m / 2 ^ k + 1 else m / 2 ^ k:=by unfold wupS; rw [hw,hr]
        have:=toInt_j1 (mode:=mode) (c:=x.class_) (x2:=(m:Int)) (x3:=x.e) (rest:=rest0 m k false) hx.sgn (show m / 2 ^ k + 1 < 18446744073709551616 by omega) hu
        rw [cx] at this; rw [hr]; exact this
  · rw [cx]; rfl
  · rw [cx]; rfl
end Go.Q
