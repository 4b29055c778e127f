import Derived.Test.YtmfhkipeapdfmaaGreatDoorER
import Derived.Test.YtmfhkipeapdfmaaGreatDoorAB
import Derived.Test.YtmfhkipeapdfmaaGreatDoorAC
import Derived.Test.YtmfhkipeapdfmaaGreatDoorDQ
import Derived.Test.YtmfhkipeapdfmaaGreatDoorDR
namespace Go.Q
open Go
set_option maxRecDepth 10000
def fm (p w:Nat):quadratref02.Form:=⟨p,w⟩
theorem aw0 (mode sign:Int) (odd:Bool):awayS mode sign odd 0 = false:=by
  unfold awayS
  split
  · rfl
  · split
    · rfl
    · split <;> rfl
def ovB (mode sign:Int):Bool:=mode == 1 || (mode == 2 && sign == 0) || (mode == 3 && sign == 1)
def endS (p w:Nat) (mode sign e flags:Int) (n:Nat):Int × Int :=
  if e + p - 1 > biasS w then (bif ovB mode sign then (packS p w sign (2 ^ w - 2) (2 ^ (p - 1) - 1),20) else (packS p w sign (2 ^ w - 1) 0,20))
  else if n < 2 ^ (p - 1) then (packS p w sign 0 n,flags) else (packS p w sign (e + biasS w + p - 1).toNat (n - 2 ^ (p - 1)),flags)
theorem bias_pow {p w:Nat} (h:OkS p w):2 * biasS w + 1 = ((2 ^ w - 1:Nat):Int) ∧ 1 ≤ biasS w ∧ biasS w ≤ 1023 ∧ 31 ≤ 2 ^ w - 1:=by
  rcases h with ⟨rfl,rfl⟩ | ⟨rfl,rfl⟩ | ⟨rfl,rfl⟩ <;> decide
theorem bias_pow2 {p w:Nat} (h:OkS p w):(2:Int) ^ w = 2 * biasS w + 2:=by
  rcases h with ⟨rfl,rfl⟩ | ⟨rfl,rfl⟩ | ⟨rfl,rfl⟩ <;> decide
theorem fin_end {p w:Nat} (h:OkS p w) {mode sign e:Int} {q r:Nat} (he:lstS p w ≤ e) (hbl:bl q ≤ p) (hor:bl q = p ∨ e = lstS p w) {n:Nat} (hn:n = if awayS mode sign (decide (q % 2 = 1)) r = true then q + 1 else q) :
    finS p w mode sign (if q = 0 then lstS p w - 1 else e + bl q - 1) e q r =
      endS p w mode sign (if n = 2 ^ p then e + 1 else e) (if 0 < r then (if q < 2 ^ (p - 1) then 24 else 16) else 0) (if n = 2 ^ p then 2 ^ (p - 1) else n):=by
  obtain ⟨a1,a2,a3,a4,a5,_⟩:=h.facts
  obtain ⟨b1,b2,b3,b4⟩:=bias_pow h
  have hlst:lstS p w = 2 - biasS w - p:=rfl
  have hpp:2 ^ p = 2 * 2 ^ (p - 1):=by rw [Nat.mul_comm,← Nat.pow_succ]; congr 1; omega
  have hp1:=Nat.two_pow_pos (p - 1)
  have hq:q < 2 ^ p:=bl_le_iff.1 hbl
  have hqp:bl q = p → 2 ^ (p - 1) ≤ q:=fun hb=>by
    rcases Nat.eq_zero_or_pos q with rfl | h0
    · rw [bl_zero] at hb; omega
    · have:=bl_le h0; rwa [hb] at this
  have hfl:(if q = 0 then lstS p w - 1 else e + bl q - 1) < lstS p w + p - 1 ↔ q < 2 ^ (p - 1):=by
    have hlt:bl q ≤ p - 1 ↔ q < 2 ^ (p - 1):=bl_le_iff
    split
    · rename_i h0; subst h0; exact ⟨fun _=>hp1,fun _=>by omega⟩
    · rcases hor with hb | hb
      · have:=hqp hb
        exact ⟨fun _=>by omega,fun _=>by omega⟩
      · rw [← hlt]; omega
  have hle:q ≤ n ∧ n ≤ q + 1:=by rw [hn]; split <;> omega
  have b5:=bias_pow2 h
  unfold finS endS
  simp only [← hn]
  have e1:(if (if q = 0 then lstS p w - 1 else e + bl q - 1) < lstS p w + p - 1 then (24:Int) else 16) = if q < 2 ^ (p - 1) then 24 else 16:=by
    by_cases c:q < 2 ^ (p - 1)
    · rw [if_pos c,if_pos (hfl.2 c)]
    · rw [if_neg c,if_neg (fun hh=>c (hfl.1 hh))]
  rw [e1]
  generalize (if 0 < r then (if q < 2 ^ (p - 1) then (24:Int) else 16) else 0) = flags
  generalize hm2:(if n = 2 ^ p then 2 ^ (p - 1) else n) = m2
  generalize hl2:(if n = 2 ^ p then e + 1 else e) = l2
  have hlow:m2 < 2 ^ (p - 1) → l2 = lstS p w:=by
    intro hh
    by_cases c:n = 2 ^ p
    · rw [if_pos c] at hm2; omega
    · rw [if_neg c] at hm2 hl2
      rcases hor with hb | hb
      · have:=hqp hb; omega
      · omega
  have hge:lstS p w ≤ l2:=by rw [← hl2]; split <;> omega
  by_cases c1:m2 < 2 ^ (p - 1)
  · have:=hlow c1
    rw [if_pos c1,if_neg (by omega),if_pos c1]
  · rw [if_neg c1]
    have e2:l2 + p - 1 + biasS w = l2 + biasS w + p - 1:=by omega
    by_cases c2:l2 + p - 1 > biasS w
    · rw [if_neg (by omega),if_pos c2]
      have hov:(mode = 1 ∨ mode = 2 ∧ sign = 0 ∨ mode = 3 ∧ sign = 1) ↔ ovB mode sign = true:=by
        unfold ovB
        simp only [Bool.or_eq_true,Bool.and_eq_true,beq_iff_eq,or_assoc]
      by_cases c3:ovB mode sign = true
      · rw [if_pos (hov.2 c3),c3]; rfl
      · rw [if_neg (fun hh=>c3 (hov.1 hh)),Bool.eq_false_iff.2 c3]; rfl
    · rw [if_pos (by omega),if_neg c2,if_neg c1,e2]
end Go.Q
namespace Go.Q
open Go
set_option maxRecDepth 10000
theorem frac_len {num den:Nat} (hn:0 < num) (hd:0 < den) {e:Int} {q t d:Nat} (hq:num * 2 ^ (-e).toNat = (den * 2 ^ e.toNat) * q + t) (hdd:d = den * 2 ^ e.toNat) (ht:t < d):(bl num:Int) - bl den - e ≤ bl q:=by
  have bd:bl (den * 2 ^ e.toNat) = bl den + e.toNat:=bl_shift hd
  have bn:bl (num * 2 ^ (-e).toNat) = bl num + (-e).toNat:=bl_shift hn
  rw [← hdd] at hq bd
  have k1:=bl_lt d
  rw [hq] at bn
  have k5:=bl_lt q
  have h7:d * q + t < d * (q + 1):=by rw [Nat.mul_succ]; omega
  have h8:d * (q + 1) ≤ 2 ^ bl d * 2 ^ bl q:=Nat.mul_le_mul (Nat.le_of_lt k1) k5
  rw [← Nat.pow_add] at h8
  have:bl (d * q + t) ≤ bl d + bl q:=bl_le_iff.2 (by omega)
  omega
theorem frac_half2 {num den p:Nat} (hp:0 < p) {e:Int} {q t q2 t2:Nat} (k1:num * 2 ^ (-e).toNat = (den * 2 ^ e.toNat) * q + t) (m1:num * 2 ^ (-(e + 1)).toNat = (den * 2 ^ (e + 1).toNat) * q2 + t2) (ht:t2 < den * 2 ^ (e + 1).toNat) (hq:p < bl q):2 ^ (p - 1) ≤ q2:=by
  rcases Nat.lt_or_ge q2 (2 ^ (p - 1)) with hlt | hge
  · exfalso
    have x1:2 ^ p ≤ q:=by
      have hq0:0 < q:=by
        rcases Nat.eq_zero_or_pos q with h0 | h0
        · rw [h0,bl_zero] at hq; omega
        · exact h0
      exact Nat.le_trans (Nat.pow_le_pow_right (by decide) (by omega)) (bl_le hq0)
    have x2:den * 2 ^ e.toNat * 2 ^ p ≤ num * 2 ^ (-e).toNat:=by rw [k1]; exact Nat.le_trans (Nat.mul_le_mul_left _ x1) (Nat.le_add_right _ _)
    have x3:num * 2 ^ (-(e + 1)).toNat < den * 2 ^ (e + 1).toNat * 2 ^ (p - 1):=by
      rw [m1]
      have:=Nat.mul_le_mul_left (den * 2 ^ (e + 1).toNat) (show q2 + 1 ≤ 2 ^ (p - 1) from hlt)
      rw [Nat.mul_succ] at this; omega
    have x4:num * 2 ^ (-e).toNat * 2 ^ (e + 1).toNat = num * 2 ^ (-(e + 1)).toNat * 2 ^ (e.toNat + 1):=by
      rw [Nat.mul_assoc,Nat.mul_assoc,← Nat.pow_add,← Nat.pow_add]; congr 2; omega
    have x5:den * 2 ^ e.toNat * 2 ^ p * 2 ^ (e + 1).toNat = den * 2 ^ (e + 1).toNat * 2 ^ (p - 1) * 2 ^ (e.toNat + 1):=by
      have y1:den * 2 ^ e.toNat * 2 ^ p * 2 ^ (e + 1).toNat = den * 2 ^ (e.toNat + p + (e + 1).toNat):=by rw [Nat.mul_assoc,Nat.mul_assoc,← Nat.pow_add,← Nat.pow_add]; congr 2; omega
      rw [y1]
      have y2:den * 2 ^ (e + 1).toNat * 2 ^ (p - 1) * 2 ^ (e.toNat + 1) = den * 2 ^ ((e + 1).toNat + (p - 1) + (e.toNat + 1)):=by rw [Nat.mul_assoc,Nat.mul_assoc,← Nat.pow_add,← Nat.pow_add]; congr 2; omega
      rw [y2]; congr 2; omega
    have x6:=Nat.mul_le_mul_right (2 ^ (e + 1).toNat) x2
    rw [x4,x5] at x6
    have:=Nat.lt_of_lt_of_le (Nat.mul_lt_mul_of_pos_right x3 (Nat.two_pow_pos (e.toNat + 1))) x6
    omega
  · exact hge
theorem frac_parts {p w num den:Nat} (hp:0 < p) (hn:0 < num) (hd:0 < den):∃ (e:Int) (q t d:Nat),num * 2 ^ (-e).toNat = (den * 2 ^ e.toNat) * q + t ∧ d = den * 2 ^ e.toNat ∧ t < d ∧ lstS p w ≤ e ∧ bl q ≤ p ∧ (bl q = p ∨ e = lstS p w) ∧ (bl num:Int) - bl den - p ≤ e:=by
  obtain ⟨k,hk,hmin⟩:=least (P:=fun k:Nat=>bl (num * 2 ^ (-(lstS p w + k)).toNat / (den * 2 ^ (lstS p w + k).toNat)) ≤ p) ⟨(lstS p w).natAbs + bl num,by
    have e0:(-(lstS p w + (((lstS p w).natAbs + bl num:Nat):Int))).toNat = 0:=by omega
    have e1:num < den * 2 ^ (lstS p w + (((lstS p w).natAbs + bl num:Nat):Int)).toNat:=by
      have h1:=bl_lt num
      have h2:2 ^ bl num ≤ 2 ^ (lstS p w + (((lstS p w).natAbs + bl num:Nat):Int)).toNat:=Nat.pow_le_pow_right (by decide) (by omega)
      have h3:=Nat.mul_le_mul_right (2 ^ (lstS p w + (((lstS p w).natAbs + bl num:Nat):Int)).toNat) (show 1 ≤ den from hd)
      omega
    show bl (num * 2 ^ (-(lstS p w + (((lstS p w).natAbs + bl num:Nat):Int))).toNat / _) ≤ p
    rw [e0,Nat.pow_zero,Nat.mul_one,Nat.div_eq_of_lt e1,bl_zero]; omega⟩
  have hd':∀ e:Int,0 < den * 2 ^ e.toNat:=fun e=>Nat.mul_pos hd (Nat.two_pow_pos _)
  have hq:=(Nat.div_add_mod (num * 2 ^ (-(lstS p w + k)).toNat) (den * 2 ^ (lstS p w + k).toNat)).symm
  have ht:=Nat.mod_lt (num * 2 ^ (-(lstS p w + k)).toNat) (hd' (lstS p w + k))
  refine ⟨lstS p w + k,_,_,_,hq,rfl,ht,by omega,hk,?_,?_⟩
  · cases k with
    | zero=>exact .inr (by omega)
    | succ m =>
      left
      have hm:=hmin m (by omega)
      have hq1:=(Nat.div_add_mod (num * 2 ^ (-(lstS p w + m)).toNat) (den * 2 ^ (lstS p w + m).toNat)).symm
      have e1:lstS p w + ((m + 1:Nat):Int) = lstS p w + m + 1:=by omega
      rw [e1] at hq ht hk ⊢
      have h1:=frac_half2 hp hq1 hq ht (Nat.lt_of_not_le hm)
      have h2:p ≤ bl (num * 2 ^ (-(lstS p w + m + 1)).toNat / (den * 2 ^ (lstS p w + m + 1).toNat)):=by
        rcases Nat.lt_or_ge (bl (num * 2 ^ (-(lstS p w + m + 1)).toNat / (den * 2 ^ (lstS p w + m + 1).toNat))) p with hlt | hge
        · have:=bl_le_iff.1 (show bl (num * 2 ^ (-(lstS p w + m + 1)).toNat / (den * 2 ^ (lstS p w + m + 1).toNat)) ≤ p - 1 by omega); omega
        · exact hge
      omega
  · have:=frac_len hn hd hq rfl ht
    have hk':bl (num * 2 ^ (-(lstS p w + k)).toNat / (den * 2 ^ (lstS p w + k).toNat)) ≤ p:=hk
    omega
end Go.Q
namespace Go.Q
open Go
set_option maxRecDepth 10000
end Go.Q
namespace Go.Q
open Go
set_option maxRecDepth 10000
end Go.Q
