import Derived.Test.YtmfhkipeapdfmaaGreatDoorPC
import Derived.Lib.BitFns
import Derived.Test.YtmfhkipeapdfmaaGreatDoorFD
import Derived.Test.YtmfhkipeapdfmaaGreatDoorPS
namespace Go.Q
open Go
set_option maxRecDepth 10000
theorem wu {x:Int} (h0:0 ≤ x) (h1:x < 18446744073709551616):IntKind.u64.wrap x = x:=by
  show x % 18446744073709551616 = x
  omega
theorem wuN (n:Nat):IntKind.u64.wrap (n:Int) = ((n % 18446744073709551616:Nat):Int):=by
  show (n:Int) % 18446744073709551616 = _
  omega
theorem wi {x:Int} (h0:-9223372036854775808 ≤ x) (h1:x < 9223372036854775808):IntKind.i64.wrap x = x:=w64 ⟨h0,h1⟩
theorem bv_nat (n:Nat) (h:n < 18446744073709551616):(BitVec.ofInt IntKind.u64.bits (n:Int)).toNat = n:=by
  rw [BitVec.toNat_ofInt]
  show ((n:Int) % ((2 ^ 64:Nat):Int)).toNat = n
  have:((2 ^ 64:Nat):Int) = 18446744073709551616:=rfl
  rw [this]; omega
theorem u_or (a b:Nat) (ha:a < 18446744073709551616) (hb:b < 18446744073709551616):IntKind.u64.wrap (((BitVec.ofInt IntKind.u64.bits (a:Int) ||| BitVec.ofInt IntKind.u64.bits (b:Int)).toNat:Nat):Int) = ((a ||| b:Nat):Int):=by
  rw [BitVec.toNat_or,bv_nat a ha,bv_nat b hb,wuN]
  have:a ||| b < 2 ^ 64:=Nat.or_lt_two_pow ha hb
  rw [Nat.mod_eq_of_lt this]
theorem u_and (a b:Nat) (ha:a < 18446744073709551616) (hb:b < 18446744073709551616):IntKind.u64.wrap (((BitVec.ofInt IntKind.u64.bits (a:Int) &&& BitVec.ofInt IntKind.u64.bits (b:Int)).toNat:Nat):Int) = ((a &&& b:Nat):Int):=by
  rw [BitVec.toNat_and,bv_nat a ha,bv_nat b hb,wuN]
  have:a &&& b < 2 ^ 64:=Nat.and_lt_two_pow a hb
  rw [Nat.mod_eq_of_lt this]
theorem u_shl (a k:Nat):IntKind.u64.wrap ((a:Int) * 2 ^ (min k IntKind.u64.bits)) = ((a * 2 ^ k % 18446744073709551616:Nat):Int):=by
  have e:((a:Int) * 2 ^ (min k IntKind.u64.bits)) = ((a * 2 ^ (min k 64):Nat):Int):=by
    push_cast; rfl
  rw [e,wuN]
  rcases Nat.lt_or_ge 64 k with h | h
  · rw [Nat.min_eq_right (by omega)]
    have h1:a * 2 ^ 64 % 18446744073709551616 = 0:=Nat.mul_mod_left _ _
    have h2:a * 2 ^ k % 18446744073709551616 = 0:=by
      rw [show k = (k - 64) + 64 by omega,Nat.pow_add,← Nat.mul_assoc]; exact Nat.mul_mod_left _ _
    rw [h1,h2]
  · rw [Nat.min_eq_left h]
theorem u_shr (a k:Nat) (ha:a < 18446744073709551616):(a:Int).fdiv (2 ^ (min k IntKind.u64.bits)) = ((a / 2 ^ k:Nat):Int):=by
  have e:((2:Int) ^ (min k IntKind.u64.bits)) = ((2 ^ (min k 64):Nat):Int):=by
    push_cast; rfl
  rw [e,Int.fdiv_eq_ediv_of_nonneg _ (Int.natCast_nonneg _),← Int.natCast_ediv]
  rcases Nat.lt_or_ge 64 k with h | h
  · rw [Nat.min_eq_right (by omega)]
    have h1:a / 2 ^ 64 = 0:=Nat.div_eq_of_lt ha
    have h2:a / 2 ^ k = 0:=Nat.div_eq_of_lt (Nat.lt_of_lt_of_le ha (Nat.pow_le_pow_right (by decide:0 < 2) (by omega:64 ≤ k)))
    rw [h1,h2]
  · rw [Nat.min_eq_left h]
def bl (n:Nat):Nat:=if n = 0 then 0 else n.log2 + 1
theorem bl_zero:bl 0 = 0:=rfl
theorem bl_lt (n:Nat):n < 2 ^ bl n:=by
  unfold bl
  split
  · rename_i h; rw [h]; decide
  · rename_i h; exact (Nat.log2_lt h).1 (Nat.lt_succ_self _)
theorem bl_le {n:Nat} (h:0 < n):2 ^ (bl n - 1) ≤ n:=by
  unfold bl
  rw [if_neg (by omega)]
  exact Nat.log2_self_le (by omega)
theorem bl_pos {n:Nat} (h:0 < n):0 < bl n:=by
  unfold bl; rw [if_neg (by omega)]; omega
theorem bl_uniq {n k:Nat} (h1:2 ^ k ≤ n) (h2:n < 2 ^ (k + 1)):bl n = k + 1:=by
  have hn:0 < n:=Nat.lt_of_lt_of_le (Nat.two_pow_pos k) h1
  have a1:=bl_lt n
  have a2:=bl_le hn
  have a3:=bl_pos hn
  have b1:k < bl n:=(Nat.pow_lt_pow_iff_right (by decide:1 < 2)).1 (Nat.lt_of_le_of_lt h1 a1)
  have b2:bl n - 1 < k + 1:=(Nat.pow_lt_pow_iff_right (by decide:1 < 2)).1 (Nat.lt_of_le_of_lt a2 h2)
  omega
theorem bl_le_iff {n k:Nat}:bl n ≤ k ↔ n < 2 ^ k:=by
  constructor
  · intro h; exact Nat.lt_of_lt_of_le (bl_lt n) (Nat.pow_le_pow_right (by decide) h)
  · intro h
    rcases Nat.eq_zero_or_pos n with h0 | h0
    · rw [h0]; exact Nat.zero_le _
    · have a2:=bl_le h0
      have:bl n - 1 < k:=(Nat.pow_lt_pow_iff_right (by decide:1 < 2)).1 (Nat.lt_of_le_of_lt a2 h)
      omega
theorem bl_ref {n k r:Nat} (h:0 < n) (hr:r < 2 ^ k):bl (n * 2 ^ k + r) = bl n + k:=by
  have a1:=bl_lt n
  have a2:=bl_le h
  have a3:=bl_pos h
  have e:bl n + k = (bl n - 1 + k) + 1:=by omega
  rw [e]
  apply bl_uniq
  · rw [Nat.pow_add]
    exact Nat.le_trans (Nat.mul_le_mul_right _ a2) (Nat.le_add_right _ _)
  · rw [show bl n - 1 + k + 1 = bl n + k by omega,Nat.pow_add]
    have:(n + 1) * 2 ^ k ≤ 2 ^ bl n * 2 ^ k:=Nat.mul_le_mul_right _ a1
    rw [Nat.add_mul,Nat.one_mul] at this
    omega
theorem bl_shift {n k:Nat} (h:0 < n):bl (n * 2 ^ k) = bl n + k:=by
  have:=bl_ref (r:=0) h (Nat.two_pow_pos k)
  rwa [Nat.add_zero] at this
theorem bitLenAux_bl:∀ (f x:Nat),x < 2 ^ f → Lib.bitLenAux f x = bl x
  | 0,x,h=>by
    have:x = 0:=by simpa using h
    subst this; rfl
  | f + 1,x,h=>by
    unfold Lib.bitLenAux
    by_cases h0:x = 0
    · subst h0; rfl
    · rw [if_neg h0,bitLenAux_bl f (x / 2) (by rw [Nat.pow_succ] at h; omega)]
      rcases Nat.eq_zero_or_pos (x / 2) with h1 | h1
      · have:x = 1:=by omega
        subst this; rfl
      · have:=bl_ref (n:=x / 2) (k:=1) (r:=x % 2) h1 (by omega)
        rw [show x / 2 * 2 ^ 1 + x % 2 = x by omega] at this
        omega
theorem bitLen_bl {x:Nat} (h:x < 18446744073709551616):Lib.bitLen x = bl x:=bitLenAux_bl 64 x h
end Go.Q
namespace Go.Q
open Go
set_option maxRecDepth 10000
def restC (N n:Nat) (more:Bool):Nat :=
  if N.testBit (n - 1) = true then (if (more || decide (N % 2 ^ (n - 1) ≠ 0)) = true then 3 else 2) else (if (more || decide (N % 2 ^ (n - 1) ≠ 0)) = true then 1 else 0)
def awayS (mode sign:Int) (odd:Bool) (rest:Nat):Bool :=
  if mode = 0 then decide (rest = 3) || (decide (rest = 2) && odd) else if mode = 2 then decide (0 < rest) && decide (sign = 1) else if mode = 3 then decide (0 < rest) && decide (sign = 0) else false
def biasS (w:Nat):Int:=2 ^ (w - 1) - 1
def lstS (p w:Nat):Int:=2 - biasS w - p
def packS (p w:Nat) (sign:Int) (E f:Nat):Int:=IntKind.i64.wrap (((sign.toNat * 2 ^ (p + w - 1) + E * 2 ^ (p - 1) + f:Nat):Int))
def finS (p w:Nat) (mode sign:Int) (high last:Int) (m rest:Nat):Int × Int :=
  let m1:=if awayS mode sign (decide (m % 2 = 1)) rest = true then m + 1 else m
  let m2:=if m1 = 2 ^ p then 2 ^ (p - 1) else m1
  let l2:=if m1 = 2 ^ p then last + 1 else last
  let flags:Int:=if 0 < rest then (if high < lstS p w + p - 1 then 24 else 16) else 0
  if m2 < 2 ^ (p - 1) then (packS p w sign 0 m2,flags)
  else if l2 + p - 1 + biasS w < 2 ^ w - 1 then (packS p w sign (l2 + p - 1 + biasS w).toNat (m2 - 2 ^ (p - 1)),flags)
  else if mode = 1 ∨ (mode = 2 ∧ sign = 0) ∨ (mode = 3 ∧ sign = 1) then (packS p w sign (2 ^ w - 2) (2 ^ (p - 1) - 1),20)
  else (packS p w sign (2 ^ w - 1) 0,20)
def highS (N:Nat) (e:Int):Int:=e + bl N - 1
def lastS (p w:Nat) (N:Nat) (e:Int):Int:=max (highS N e - p + 1) (lstS p w)
def rndS (p w:Nat) (mode sign:Int) (N:Nat) (e:Int) (more:Bool):Int × Int :=
  let d:=lastS p w N e - e
  finS p w mode sign (highS N e) (lastS p w N e) (if d ≤ 0 then N * 2 ^ (-d).toNat else N / 2 ^ d.toNat) (if d ≤ 0 then 0 else restC N d.toNat more)
theorem highS_ref {N k r:Nat} (e:Int) (hN:0 < N) (hr:r < 2 ^ k):highS (N * 2 ^ k + r) (e - k) = highS N e:=by
  unfold highS; rw [bl_ref hN hr]; push_cast; omega
theorem lastS_ref {p w N k r:Nat} (e:Int) (hN:0 < N) (hr:r < 2 ^ k):lastS p w (N * 2 ^ k + r) (e - k) = lastS p w N e:=by
  unfold lastS; rw [highS_ref e hN hr]
theorem testBit_ref {N k r n:Nat} (hr:r < 2 ^ k):(N * 2 ^ k + r).testBit (n + k) = N.testBit n:=by
  rw [← Nat.testBit_div_two_pow,Nat.mul_comm,Nat.mul_add_div (Nat.two_pow_pos k),Nat.div_eq_of_lt hr,Nat.add_zero]
theorem mod_ref {N k r n:Nat} (hr:r < 2 ^ k):(N * 2 ^ k + r) % 2 ^ (n + k) = (N % 2 ^ n) * 2 ^ k + r:=by
  have h1:N = N / 2 ^ n * 2 ^ n + N % 2 ^ n:=by rw [Nat.mul_comm]; exact (Nat.div_add_mod N (2 ^ n)).symm
  have h2:N * 2 ^ k + r = (N / 2 ^ n) * 2 ^ (n + k) + ((N % 2 ^ n) * 2 ^ k + r):=by
    have:N * 2 ^ k = (N / 2 ^ n * 2 ^ n + N % 2 ^ n) * 2 ^ k:=by rw [← h1]
    rw [this,Nat.add_mul,Nat.pow_add,Nat.mul_assoc]; omega
  have h3:(N % 2 ^ n) * 2 ^ k + r < 2 ^ (n + k):=by
    have:N % 2 ^ n + 1 ≤ 2 ^ n:=Nat.mod_lt _ (Nat.two_pow_pos n)
    have:=Nat.mul_le_mul_right (2 ^ k) this
    rw [Nat.add_mul,Nat.one_mul,← Nat.pow_add] at this
    omega
  rw [h2,Nat.mul_add_mod_of_lt h3] <;> skip
theorem restC_ref {N k r n:Nat} (hn:0 < n) (hr:r < 2 ^ k) (more:Bool):restC (N * 2 ^ k + r) (n + k) more = restC N n (more || decide (r ≠ 0)):=by
  unfold restC
  have e:n + k - 1 = (n - 1) + k:=by omega
  rw [e,testBit_ref hr,mod_ref hr]
  have h2:decide ((N % 2 ^ (n - 1)) * 2 ^ k + r ≠ 0) = (decide (r ≠ 0) || decide (N % 2 ^ (n - 1) ≠ 0)):=by
    rw [Bool.eq_iff_iff]
    simp only [decide_eq_true_eq,Bool.or_eq_true]
    have hp:=Nat.two_pow_pos k
    constructor
    · intro h
      by_cases h1:r = 0
      · right
        intro h2; rw [h2,h1] at h; simp at h
      · exact .inl h1
    · rintro (h | h) h0
      · omega
      · have:N % 2 ^ (n - 1) * 2 ^ k = 0:=by omega
        rcases Nat.mul_eq_zero.1 this with h3 | h3 <;> omega
  rw [h2,Bool.or_assoc]
theorem rndS_ref {p w N k r:Nat} {mode sign e:Int} {more:Bool} (hN:0 < N) (hr:r < 2 ^ k) (hd:0 < lastS p w N e - e) :
    rndS p w mode sign (N * 2 ^ k + r) (e - k) more = rndS p w mode sign N e (more || decide (r ≠ 0)):=by
  unfold rndS
  simp only [highS_ref e hN hr,lastS_ref e hN hr]
  have h1:¬ (lastS p w N e - (e - k) ≤ 0):=by omega
  have h2:¬ (lastS p w N e - e ≤ 0):=by omega
  rw [if_neg h1,if_neg h1,if_neg h2,if_neg h2]
  have e1:(lastS p w N e - (e - k)).toNat = (lastS p w N e - e).toNat + k:=by omega
  rw [e1,restC_ref (by omega) hr]
  congr 1
  rw [Nat.add_comm _ k,Nat.pow_add,← Nat.div_div_eq_div_mul,Nat.mul_comm N,Nat.mul_add_div (Nat.two_pow_pos k),Nat.div_eq_of_lt hr,Nat.add_zero]
theorem restC_zero {N n:Nat} (hn:0 < n) (h:2 ^ n ∣ N):restC N n false = 0:=by
  obtain ⟨q,rfl⟩:=h
  unfold restC
  have h1:(2 ^ n * q).testBit (n - 1) = false:=by rw [Nat.testBit_two_pow_mul]; simp; omega
  have h2:2 ^ n * q % 2 ^ (n - 1) = 0:=by
    have:2 ^ n = 2 ^ (n - 1) * 2:=by rw [← Nat.pow_succ]; congr 1; omega
    rw [this,Nat.mul_assoc]; exact Nat.mul_mod_right _ _
  rw [h1,h2]; simp
theorem rndS_shift {p w N k:Nat} {mode sign e:Int} (hN:0 < N):rndS p w mode sign (N * 2 ^ k) (e - k) false = rndS p w mode sign N e false:=by
  by_cases hd:0 < lastS p w N e - e
  · have:=rndS_ref (k:=k) (r:=0) (mode:=mode) (sign:=sign) (more:=false) hN (Nat.two_pow_pos k) hd
    simpa using this
  · have hr:0 < 2 ^ k:=Nat.two_pow_pos k
    have e1:=highS_ref (r:=0) e hN hr
    have e2:=lastS_ref (p:=p) (w:=w) (r:=0) e hN hr
    rw [Nat.add_zero] at e1 e2
    unfold rndS
    simp only [e1,e2]
    have h2:lastS p w N e - e ≤ 0:=by omega
    rw [if_pos h2,if_pos h2]
    by_cases h1:lastS p w N e - (e - k) ≤ 0
    · rw [if_pos h1,if_pos h1]
      congr 1
      rw [Nat.mul_assoc,← Nat.pow_add]
      congr 2; omega
    · rw [if_neg h1,if_neg h1]
      have hk:k = (lastS p w N e - (e - k)).toNat + (-(lastS p w N e - e)).toNat:=by omega
      have ha:0 < (lastS p w N e - (e - k)).toNat:=by omega
      generalize (lastS p w N e - (e - k)).toNat = a at hk ha ⊢
      generalize (-(lastS p w N e - e)).toNat = b at hk ⊢
      rw [restC_zero ha (by rw [hk,Nat.pow_add]; exact ⟨N * 2 ^ b,by rw [Nat.mul_left_comm]⟩)]
      congr 1
      rw [hk,Nat.pow_add,← Nat.mul_assoc,Nat.mul_right_comm,Nat.mul_div_cancel _ (Nat.two_pow_pos a)]
end Go.Q
namespace Go.Q
open Go
set_option maxRecDepth 10000
def bdB (B n i:Nat):Nat:=n / B ^ i % B
def dkB (B k n:Nat):List Int:=(List.range k).map fun i=>((bdB B n i:Nat):Int)
def lnB (B n:Nat):Nat:=if h:1 < B ∧ 0 < n then lnB B (n / B) + 1 else 0
termination_by n
decreasing_by exact Nat.div_lt_self h.2 h.1
def dgB (B n:Nat):List Int:=dkB B (lnB B n) n
theorem bdB_lt {B:Nat} (hB:0 < B) (n i:Nat):bdB B n i < B:=Nat.mod_lt _ hB
theorem dkB_len (B k n:Nat):(dkB B k n).length = k:=by simp [dkB]
theorem dgB_len (B n:Nat):(dgB B n).length = lnB B n:=dkB_len _ _ _
theorem dkB_get {B k n i:Nat} (h:i < k):(dkB B k n)[i]? = some ((bdB B n i:Nat):Int):=by
  unfold dkB
  rw [List.getElem?_map,List.getElem?_range h]; rfl
theorem dkB_zero (B n:Nat):dkB B 0 n = []:=rfl
theorem dkB_succ (B k n:Nat):dkB B (k + 1) n = dkB B k n ++ [((bdB B n k:Nat):Int)]:=by
  unfold dkB; rw [List.range_succ,List.map_append]; rfl
theorem lnB_zero (B:Nat):lnB B 0 = 0:=by rw [lnB,dif_neg (by omega)]
theorem lnB_pos {B n:Nat} (hB:1 < B) (hn:0 < n):lnB B n = lnB B (n / B) + 1:=by rw [lnB,dif_pos ⟨hB,hn⟩]
theorem dgB_zero (B:Nat):dgB B 0 = []:=by unfold dgB; rw [lnB_zero]; rfl
theorem powB_pos {B:Nat} (hB:1 < B) (k:Nat):0 < B ^ k:=Nat.pow_pos (by omega)
theorem lnB_iff {B:Nat} (hB:1 < B):∀ (k n:Nat),n < B ^ k ↔ lnB B n ≤ k
  | 0,n=>by
    rw [Nat.pow_zero]
    constructor
    · intro h; obtain rfl:n = 0:=by omega
      rw [lnB_zero]; exact Nat.le_refl _
    · intro h
      rcases Nat.eq_zero_or_pos n with e | e
      · omega
      · rw [lnB_pos hB e] at h; omega
  | k + 1,n=>by
    rcases Nat.eq_zero_or_pos n with e | e
    · subst e; rw [lnB_zero]; exact ⟨fun _=>Nat.zero_le _,fun _=>powB_pos hB _⟩
    · rw [lnB_pos hB e,Nat.pow_succ,← Nat.div_lt_iff_lt_mul (by omega),lnB_iff hB k]; omega
theorem lt_lnB {B:Nat} (hB:1 < B) (n:Nat):n < B ^ lnB B n:=(lnB_iff hB _ _).2 (Nat.le_refl _)
theorem lnB_le {B:Nat} (hB:1 < B) {n:Nat} (hn:0 < n):B ^ (lnB B n - 1) ≤ n:=by
  rcases Nat.lt_or_ge n (B ^ (lnB B n - 1)) with h | h
  · have:=(lnB_iff hB _ _).1 h
    have:=lnB_pos hB hn
    omega
  · exact h
theorem lnB_mono {B:Nat} (hB:1 < B) {a b:Nat} (h:a ≤ b):lnB B a ≤ lnB B b:=(lnB_iff hB _ _).1 (Nat.lt_of_le_of_lt h (lt_lnB hB b))
theorem lnB_gt {B:Nat} (hB:1 < B) {n:Nat} (hn:0 < n):0 < lnB B n:=by rw [lnB_pos hB hn]; omega
theorem lnB_eq0 {B:Nat} (hB:1 < B) {n:Nat}:lnB B n = 0 ↔ n = 0:=by
  constructor
  · intro h
    rcases Nat.eq_zero_or_pos n with e | e
    · exact e
    · have:=lnB_gt hB e; omega
  · rintro rfl; exact lnB_zero B
theorem lnB_uniq {B:Nat} (hB:1 < B) {n k:Nat} (h1:B ^ k ≤ n) (h2:n < B ^ (k + 1)):lnB B n = k + 1:=by
  have a:=(lnB_iff hB _ _).1 h2
  have b:¬ lnB B n ≤ k:=fun h=>by have:=(lnB_iff hB _ _).2 h; omega
  omega
theorem bdB_top {B n:Nat} (hB:1 < B) (hn:0 < n):bdB B n (lnB B n - 1) ≠ 0:=by
  have h1:=lnB_le hB hn
  have h2:=lt_lnB hB n
  have h0:=lnB_gt hB hn
  unfold bdB
  rw [Nat.mod_eq_of_lt]
  · exact Nat.ne_of_gt (Nat.div_pos h1 (powB_pos hB _))
  · rw [Nat.div_lt_iff_lt_mul (powB_pos hB _),Nat.mul_comm,← Nat.pow_succ,show (lnB B n - 1).succ = lnB B n by omega]; exact h2
theorem bdB_high {B n i:Nat} (hB:1 < B) (h:lnB B n ≤ i):bdB B n i = 0:=by
  unfold bdB; rw [Nat.div_eq_of_lt ((lnB_iff hB _ _).2 h)]; exact Nat.zero_mod _
theorem divB_succ (B n i:Nat):n / B ^ (i + 1) = n / B ^ i / B:=by rw [Nat.pow_succ,Nat.div_div_eq_div_mul]
theorem divB_split {B:Nat} (n i:Nat):n / B ^ i = n / B ^ (i + 1) * B + bdB B n i:=by
  rw [divB_succ]; unfold bdB; rw [Nat.mul_comm]; exact (Nat.div_add_mod _ _).symm
theorem modB_succ (B n i:Nat):n % B ^ (i + 1) = n % B ^ i + bdB B n i * B ^ i:=by
  unfold bdB
  rw [Nat.pow_succ,Nat.mod_mul,Nat.mul_comm]
theorem bdB_div (B n k i:Nat):bdB B (n / B ^ k) i = bdB B n (k + i):=by
  unfold bdB; rw [Nat.div_div_eq_div_mul,← Nat.pow_add]
theorem dkB_mod {B:Nat} (hB:0 < B) (k n:Nat):dkB B k (n % B ^ k) = dkB B k n:=by
  unfold dkB
  apply List.map_congr_left
  intro i hi
  rw [List.mem_range] at hi
  congr 1
  unfold bdB
  have e:B ^ k = B ^ i * (B * B ^ (k - i - 1)):=by
    rw [← Nat.mul_assoc,← Nat.pow_succ,← Nat.pow_add]; congr 1; omega
  rw [e,Nat.mod_mul_right_div_self,Nat.mod_mul_right_mod]
theorem dkB_take {B j k n:Nat} (h:j ≤ k):(dkB B k n).take j = dkB B j n:=by
  unfold dkB
  rw [← List.map_take,List.take_range,Nat.min_eq_left h]
theorem dkB_app (B k j n m:Nat) (h:n < B ^ k) (hB:1 < B):dkB B (k + j) (n + B ^ k * m) = dkB B k n ++ dkB B j m:=by
  apply List.ext_getElem?
  intro i
  rcases Nat.lt_or_ge i k with h1 | h1
  · rw [dkB_get (by omega),List.getElem?_append_left (by rw [dkB_len]; exact h1),dkB_get h1]
    congr 2
    have e:bdB B ((n + B ^ k * m) % B ^ k) i = bdB B (n + B ^ k * m) i:=by
      have:=dkB_mod (B:=B) (by omega) k (n + B ^ k * m)
      have:=congrArg (·[i]?) this
      simp only [dkB_get h1,Option.some.injEq] at this
      exact Int.ofNat_inj.1 this
    rw [← e,Nat.add_mul_mod_self_left,Nat.mod_eq_of_lt h]
  · rw [List.getElem?_append_right (by rw [dkB_len]; exact h1),dkB_len]
    rcases Nat.lt_or_ge i (k + j) with h2 | h2
    · rw [dkB_get h2,dkB_get (by omega)]
      congr 2
      have:=bdB_div B (n + B ^ k * m) k (i - k)
      rw [show k + (i - k) = i by omega] at this
      rw [← this,Nat.add_mul_div_left _ _ (powB_pos hB k),Nat.div_eq_of_lt h,Nat.zero_add]
    · rw [List.getElem?_eq_none (by rw [dkB_len]; omega),List.getElem?_eq_none (by rw [dkB_len]; omega)]
theorem dkB_zeros {B k n:Nat} (hB:1 < B) (h:lnB B n ≤ k):dkB B k n = dgB B n ++ List.replicate (k - lnB B n) 0:=by
  apply List.ext_getElem?
  intro i
  unfold dgB
  rcases Nat.lt_or_ge i (lnB B n) with h1 | h1
  · rw [dkB_get (by omega),List.getElem?_append_left (by rw [dkB_len]; exact h1),dkB_get h1]
  · rw [List.getElem?_append_right (by rw [dkB_len]; exact h1),dkB_len]
    rcases Nat.lt_or_ge i k with h2 | h2
    · rw [dkB_get h2,bdB_high hB h1,List.getElem?_replicate,if_pos (by omega)]; rfl
    · rw [List.getElem?_eq_none (by rw [dkB_len]; omega),List.getElem?_replicate,if_neg (by omega)]
end Go.Q
namespace Go.Q
open Go
set_option maxRecDepth 10000
def unF (num den j:Nat):Nat:=num * 2 ^ j / den
def leF (num den j:Nat):Bool:=decide (num * 2 ^ j % den ≠ 0)
theorem unF_add {num den:Nat} (hd:0 < den) (j k:Nat):∃ r,unF num den (j + k) = unF num den j * 2 ^ k + r ∧ r < 2 ^ k ∧ (leF num den j = (leF num den (j + k) || decide (r ≠ 0))):=by
  have hp:=Nat.two_pow_pos k
  obtain ⟨q,hq⟩:∃ q,q = num * 2 ^ j / den:=⟨_,rfl⟩
  obtain ⟨t,ht⟩:∃ t,t = num * 2 ^ j % den:=⟨_,rfl⟩
  have e1:num * 2 ^ j = den * q + t:=by rw [hq,ht]; exact (Nat.div_add_mod _ _).symm
  have htd:t < den:=by rw [ht]; exact Nat.mod_lt _ hd
  have e2:num * 2 ^ (j + k) = den * (q * 2 ^ k) + t * 2 ^ k:=by rw [Nat.pow_add,← Nat.mul_assoc,e1,Nat.add_mul,Nat.mul_assoc]
  refine ⟨t * 2 ^ k / den,?_,?_,?_⟩
  · unfold unF; rw [e2,Nat.mul_add_div hd,← hq]
  · rw [Nat.div_lt_iff_lt_mul hd,Nat.mul_comm]; exact Nat.mul_lt_mul_of_pos_left htd hp
  · unfold leF
    rw [e2,Nat.mul_add_mod,← ht,Bool.eq_iff_iff]
    simp only [decide_eq_true_eq,Bool.or_eq_true]
    have e3:=Nat.div_add_mod (t * 2 ^ k) den
    constructor
    · intro h
      by_cases hm:t * 2 ^ k % den = 0
      · right
        intro h0
        rw [h0,hm] at e3
        have:t * 2 ^ k = 0:=by omega
        rcases Nat.mul_eq_zero.1 this with h | h <;> omega
      · exact .inl hm
    · rintro h h0
      rw [h0,Nat.zero_mul] at h
      simp at h
def rndJ (p w:Nat) (mode sign:Int) (num den j:Nat):Int × Int:=rndS p w mode sign (unF num den j) (-(j:Int)) (leF num den j)
def Deep (p w num den j:Nat):Prop:=0 < unF num den j ∧ 0 < lastS p w (unF num den j) (-(j:Int)) + j
theorem deep_more {p w num den j:Nat} (hd:0 < den) (h:Deep p w num den j) (k:Nat):Deep p w num den (j + k) ∧ ∀ mode sign,rndJ p w mode sign num den (j + k) = rndJ p w mode sign num den j:=by
  obtain ⟨r,h1,h2,h3⟩:=unF_add (num:=num) hd j k
  have ej:(-((j + k:Nat):Int)) = -(j:Int) - k:=by push_cast; omega
  have hd0:0 < lastS p w (unF num den j) (-(j:Int)) - -(j:Int):=by have:=h.2; omega
  refine ⟨⟨?_,?_⟩,fun mode sign=>?_⟩
  · rw [h1]; have:=Nat.mul_pos h.1 (Nat.two_pow_pos k); omega
  · rw [h1,ej,lastS_ref _ h.1 h2]; have:=h.2; push_cast; omega
  · unfold rndJ
    rw [h1,ej,rndS_ref h.1 h2 hd0,h3]
theorem deep_any {p w num den i j:Nat} (hd:0 < den) (h1:Deep p w num den i) (h2:Deep p w num den j) (mode sign:Int):rndJ p w mode sign num den i = rndJ p w mode sign num den j:=by
  rcases Nat.le_total i j with h | h
  · have:=(deep_more hd h1 (j - i)).2 mode sign
    rw [show i + (j - i) = j by omega] at this
    exact this.symm
  · have:=(deep_more hd h2 (i - j)).2 mode sign
    rw [show j + (i - j) = i by omega] at this
    exact this
theorem lastS_ge (p w N:Nat) (e:Int):lstS p w ≤ lastS p w N e ∧ e + bl N - p ≤ lastS p w N e:=by
  unfold lastS highS; omega
theorem deep_of {p w num den j:Nat} (h0:0 < unF num den j) (h:p < bl (unF num den j) ∨ 0 < lstS p w + j):Deep p w num den j:=by
  refine ⟨h0,?_⟩
  obtain ⟨h1,h2⟩:=lastS_ge p w (unF num den j) (-(j:Int))
  omega
theorem unF_cancel {num den c:Nat} (hc:0 < c) (j:Nat):unF (num * c) (den * c) j = unF num den j ∧ leF (num * c) (den * c) j = leF num den j:=by
  have e:num * c * 2 ^ j = num * 2 ^ j * c:=by rw [Nat.mul_right_comm]
  constructor
  · unfold unF; rw [e,Nat.mul_div_mul_right _ _ hc]
  · unfold leF
    rw [e,Nat.mul_mod_mul_right,decide_eq_decide]
    constructor
    · intro h h0; exact h (by rw [h0,Nat.zero_mul])
    · intro h h0; rcases Nat.mul_eq_zero.1 h0 with h1 | h1
      · exact h h1
      · omega
theorem unF_same {a b c d:Nat} (hb:0 < b) (hd:0 < d) (h:a * d = c * b) (j:Nat):unF a b j = unF c d j ∧ leF a b j = leF c d j:=by
  have h1:=unF_cancel (num:=a) (den:=b) hd j
  have h2:=unF_cancel (num:=c) (den:=d) hb j
  rw [h,Nat.mul_comm b d] at h1
  exact ⟨h1.1.symm.trans h2.1,h1.2.symm.trans h2.2⟩
noncomputable def rndF (p w:Nat) (mode sign:Int) (num den:Nat):Int × Int :=
  open Classical in if h:∃ j,Deep p w num den j then rndJ p w mode sign num den h.choose else (0,0)
theorem rndF_eq {p w num den j:Nat} (hd:0 < den) (h:Deep p w num den j) (mode sign:Int):rndF p w mode sign num den = rndJ p w mode sign num den j:=by
  unfold rndF
  have hx:∃ j,Deep p w num den j:=⟨j,h⟩
  rw [dif_pos hx]
  exact deep_any hd hx.choose_spec h mode sign
theorem deep_same {p w a b c d j:Nat} (hb:0 < b) (hd:0 < d) (h:a * d = c * b) (hj:Deep p w a b j):Deep p w c d j:=by
  obtain ⟨h1,_⟩:=unF_same hb hd h j
  unfold Deep at hj ⊢
  rwa [← h1]
theorem deep_ex {p w num den:Nat} (hn:0 < num) (hd:0 < den):∃ j,Deep p w num den j:=by
  refine ⟨den + (lstS p w).natAbs + 1,deep_of ?_ (.inr (by omega))⟩
  unfold unF
  refine Nat.div_pos ?_ hd
  have h1:den < 2 ^ den:=Nat.lt_two_pow_self
  have h2:2 ^ den ≤ 2 ^ (den + (lstS p w).natAbs + 1):=Nat.pow_le_pow_right (by decide) (by omega)
  have h3:1 * 2 ^ (den + (lstS p w).natAbs + 1) ≤ num * 2 ^ (den + (lstS p w).natAbs + 1):=Nat.mul_le_mul_right _ hn
  omega
theorem rndF_same {p w a b c d:Nat} (ha:0 < a) (hb:0 < b) (hd:0 < d) (h:a * d = c * b) (mode sign:Int):rndF p w mode sign a b = rndF p w mode sign c d:=by
  obtain ⟨j,hj⟩:=deep_ex (p:=p) (w:=w) ha hb
  rw [rndF_eq hb hj,rndF_eq hd (deep_same hb hd h hj)]
  obtain ⟨h1,h2⟩:=unF_same hb hd h j
  unfold rndJ
  rw [h1,h2]
theorem rnd_sticky {p w m:Nat} {mode sign e:Int} {rest:Bool} (hm:0 < m) (hd:0 < lastS p w m e - e) :
    rndS p w mode sign (m * 2 + (if rest = true then 1 else 0)) (e - 1) false = rndS p w mode sign m e rest:=by
  have:=rndS_ref (p:=p) (w:=w) (N:=m) (k:=1) (r:=if rest = true then 1 else 0) (mode:=mode) (sign:=sign) (e:=e) (more:=false) hm (by split <;> decide) hd
  rw [Nat.pow_one] at this
  rw [show (e - 1:Int) = e - ((1:Nat):Int) by push_cast; rfl,this]
  cases rest <;> rfl
end Go.Q
namespace Go.Q
open Go
set_option maxRecDepth 10000
theorem quot_rnd {p w b c k a m:Nat} {mode sign e:Int} {rest:Bool} (hc:0 < c) (hm:m = b * 2 ^ k / (c * 2 ^ a)) (hr:rest = decide (b * 2 ^ k % (c * 2 ^ a) ≠ 0)) (he:e = (a:Int) - k)
    (hp:p < bl m):rndF p w mode sign b c = rndS p w mode sign m e rest:=by
  have hm0:0 < m:=by
    rcases Nat.eq_zero_or_pos m with h | h
    · subst h; rw [bl_zero] at hp; omega
    · exact h
  have ha:=Nat.two_pow_pos a
  obtain ⟨N,hN⟩:∃ N,N = unF b c k:=⟨_,rfl⟩
  have e1:m = N / 2 ^ a:=by rw [hm,hN]; unfold unF; rw [Nat.div_div_eq_div_mul]
  obtain ⟨r,hrr⟩:∃ r,r = N % 2 ^ a:=⟨_,rfl⟩
  have e2:N = m * 2 ^ a + r:=by rw [e1,hrr,Nat.mul_comm]; exact (Nat.div_add_mod _ _).symm
  have hra:r < 2 ^ a:=by rw [hrr]; exact Nat.mod_lt _ ha
  have hbl:bl N = bl m + a:=by rw [e2]; exact bl_ref hm0 hra
  have hN0:0 < N:=by rw [e2]; have:=Nat.mul_pos hm0 ha; omega
  have hdeep:Deep p w b c k:=deep_of (by rw [← hN]; exact hN0) (.inl (by rw [← hN]; omega))
  rw [rndF_eq hc hdeep]
  unfold rndJ
  rw [← hN,e2,show (-(k:Int)) = e - (a:Int) by omega]
  rw [rndS_ref hm0 hra (by have:=lastS_ge p w m e; omega)]
  congr 1
  rw [hr,Bool.eq_iff_iff]
  unfold leF
  simp only [decide_eq_true_eq,Bool.or_eq_true]
  have e3:b * 2 ^ k % (c * 2 ^ a) = b * 2 ^ k % c + c * (b * 2 ^ k / c % 2 ^ a):=Nat.mod_mul
  have e4:b * 2 ^ k / c % 2 ^ a = r:=by rw [hrr,hN]; rfl
  rw [e3,e4]
  constructor
  · rintro (h | h) h0
    · omega
    · have:c * r = 0:=by omega
      rcases Nat.mul_eq_zero.1 this with h1 | h1 <;> omega
  · intro h
    by_cases hz:b * 2 ^ k % c = 0
    · right; intro h0; rw [hz,h0] at h; simp at h
    · exact .inl hz
def rsC (t d:Nat):Nat:=if t = 0 then 0 else if 2 * t < d then 1 else if 2 * t = d then 2 else 3
theorem rest_frac {t d n:Nat} (hd:0 < d) (htd:t < d) (hn:0 < n) (q:Nat):restC (q * 2 ^ n + t * 2 ^ n / d) n (decide (t * 2 ^ n % d ≠ 0)) = rsC t d:=by
  obtain ⟨k,rfl⟩:∃ k,n = k + 1:=⟨n - 1,by omega⟩
  have hk:=Nat.two_pow_pos k
  have e2:2 ^ (k + 1) = 2 ^ k * 2:=Nat.pow_succ ..
  obtain ⟨s,hs⟩:∃ s,s = t * 2 ^ (k + 1) / d:=⟨_,rfl⟩
  obtain ⟨u,hu⟩:∃ u,u = t * 2 ^ (k + 1) % d:=⟨_,rfl⟩
  have e3:d * s + u = 2 * t * 2 ^ k:=by rw [hs,hu,Nat.div_add_mod,e2]; rw [Nat.mul_comm (2 ^ k) 2,← Nat.mul_assoc,Nat.mul_comm t 2]
  have hud:u < d:=by rw [hu]; exact Nat.mod_lt _ hd
  have hs2:s < 2 ^ (k + 1):=by
    rw [hs,Nat.div_lt_iff_lt_mul hd,Nat.mul_comm]; exact Nat.mul_lt_mul_of_pos_left htd (Nat.two_pow_pos _)
  rw [← hs,← hu]
  unfold restC rsC
  rw [Nat.add_sub_cancel]
  have hbit:(q * 2 ^ (k + 1) + s).testBit k = decide (2 ^ k ≤ s):=by
    rw [Nat.testBit_eq_decide_div_mod_eq,decide_eq_decide]
    have e4:(q * 2 ^ (k + 1) + s) / 2 ^ k = q * 2 + s / 2 ^ k:=by
      rw [e2,show q * (2 ^ k * 2) = 2 ^ k * (q * 2) by rw [Nat.mul_left_comm],Nat.mul_add_div hk]
    rw [e4,Nat.mul_add_mod_self_right]
    have h5:s / 2 ^ k < 2:=by rw [Nat.div_lt_iff_lt_mul hk]; omega
    have h6:s / 2 ^ k % 2 = s / 2 ^ k:=Nat.mod_eq_of_lt h5
    rw [h6]
    constructor
    · intro h; have:0 < s / 2 ^ k:=by rw [h]; decide
      exact (Nat.div_pos_iff.1 this).2
    · intro h; have:0 < s / 2 ^ k:=Nat.div_pos h hk
      exact Nat.le_antisymm (Nat.le_of_lt_succ h5) this
  have hmod:(q * 2 ^ (k + 1) + s) % 2 ^ k = s % 2 ^ k:=by
    rw [e2,show q * (2 ^ k * 2) = 2 ^ k * (q * 2) by rw [Nat.mul_left_comm],Nat.mul_add_mod]
  rw [hbit,hmod]
  by_cases hle:2 ^ k ≤ s
  · have h1:2 * t ≥ d:=by
      have h6:d * 2 ^ k ≤ d * s:=Nat.mul_le_mul_left _ hle
      have h7:d * 2 ^ k ≤ 2 * t * 2 ^ k:=by omega
      exact Nat.le_of_mul_le_mul_right h7 hk
    have hs3:s % 2 ^ k = s - 2 ^ k:=by
      rw [Nat.mod_eq_sub_mod hle,Nat.mod_eq_of_lt (by omega)]
    have h8:(2 * t - d) * 2 ^ k = d * (s - 2 ^ k) + u:=by
      rw [Nat.sub_mul,Nat.mul_sub]
      have h6:d * 2 ^ k ≤ d * s:=Nat.mul_le_mul_left _ hle
      omega
    rw [decide_eq_true hle,if_pos rfl,hs3,if_neg (show ¬ t = 0 by omega),if_neg (show ¬ 2 * t < d by omega)]
    by_cases he:2 * t = d
    · rw [if_pos he]
      have h9:d * (s - 2 ^ k) + u = 0:=by rw [← h8,he]; simp
      have h10:u = 0:=by omega
      have h11:d * (s - 2 ^ k) = 0:=by omega
      have h12:s - 2 ^ k = 0:=by rcases Nat.mul_eq_zero.1 h11 with h | h <;> omega
      rw [h10,h12]; rfl
    · rw [if_neg he,if_pos]
      simp only [Bool.or_eq_true,decide_eq_true_eq]
      by_cases hu0:u = 0
      · right; intro h0
        rw [h0,hu0] at h8
        rcases Nat.mul_eq_zero.1 (show (2 * t - d) * 2 ^ k = 0 by omega) with h | h <;> omega
      · exact .inl hu0
  · have h1:2 * t < d:=by
      have h6:d * (s + 1) ≤ d * 2 ^ k:=Nat.mul_le_mul_left _ (by omega)
      have h7:2 * t * 2 ^ k < d * 2 ^ k:=by rw [Nat.mul_add,Nat.mul_one] at h6; omega
      exact Nat.lt_of_mul_lt_mul_right h7
    rw [decide_eq_false hle,if_neg (by decide),Nat.mod_eq_of_lt (by omega)]
    by_cases h0:t = 0
    · subst h0
      have h2:d * s = 0:=by omega
      have h3:s = 0:=by rcases Nat.mul_eq_zero.1 h2 with h | h <;> omega
      have h4:u = 0:=by omega
      rw [h3,h4]; rfl
    · rw [if_neg h0,if_pos h1,if_pos]
      simp only [Bool.or_eq_true,decide_eq_true_eq]
      by_cases hu0:u = 0
      · right; intro hs0
        rw [hs0,hu0] at e3
        have:0 < 2 * t * 2 ^ k:=Nat.mul_pos (by omega) hk
        omega
      · exact .inl hu0
theorem ref_rnd {p w num den q t d:Nat} {mode sign e:Int} (hden:0 < den) (hnum:0 < num) (hq:num * 2 ^ (-e).toNat = (den * 2 ^ e.toNat) * q + t) (hd:d = den * 2 ^ e.toNat) (ht:t < d)
    (he:lstS p w ≤ e) (hbl:bl q ≤ p) (hor:bl q = p ∨ e = lstS p w) (hp:0 < p) :
    rndF p w mode sign num den = finS p w mode sign (if q = 0 then lstS p w - 1 else e + bl q - 1) e q (rsC t d):=by
  obtain ⟨j0,hj0⟩:=deep_ex (p:=p) (w:=w) hnum hden
  obtain ⟨j,hj⟩:∃ j,j = j0 + (e.natAbs + 1):=⟨_,rfl⟩
  have hdeep:Deep p w num den j:=by rw [hj]; exact (deep_more hden hj0 _).1
  obtain ⟨n,hn⟩:∃ n:Nat,(n:Int) = e + j:=⟨(e + j).toNat,by omega⟩
  have hn0:0 < n:=by omega
  have hpn:=Nat.two_pow_pos n
  have hd0:0 < d:=by omega
  have hpe:=Nat.two_pow_pos e.toNat
  have key:num * 2 ^ j * 2 ^ e.toNat = d * (q * 2 ^ n) + t * 2 ^ n:=by
    have:num * 2 ^ j * 2 ^ e.toNat = num * 2 ^ (-e).toNat * 2 ^ n:=by
      rw [Nat.mul_assoc,Nat.mul_assoc,← Nat.pow_add,← Nat.pow_add]; congr 2; omega
    rw [this,hq,← hd,Nat.add_mul,Nat.mul_assoc]
  have hN:unF num den j = q * 2 ^ n + t * 2 ^ n / d:=by
    have h1:=(unF_cancel (num:=num) (den:=den) hpe j).1
    rw [← h1]
    unfold unF
    rw [Nat.mul_right_comm,key,← hd,Nat.mul_add_div hd0]
  have hle:leF num den j = decide (t * 2 ^ n % d ≠ 0):=by
    have h1:=(unF_cancel (num:=num) (den:=den) hpe j).2
    rw [← h1]
    unfold leF
    rw [Nat.mul_right_comm,key,← hd,Nat.mul_add_mod]
  have hs:t * 2 ^ n / d < 2 ^ n:=by
    rw [Nat.div_lt_iff_lt_mul hd0,Nat.mul_comm]; exact Nat.mul_lt_mul_of_pos_left ht hpn
  have hdiv:(q * 2 ^ n + t * 2 ^ n / d) / 2 ^ n = q:=by
    rw [Nat.mul_comm,Nat.mul_add_div hpn,Nat.div_eq_of_lt hs,Nat.add_zero]
  have hlst:lstS p w = 2 - biasS w - p:=rfl
  rw [rndF_eq hden hdeep]
  unfold rndJ
  rw [hN,hle]
  unfold rndS
  have hhigh:highS (q * 2 ^ n + t * 2 ^ n / d) (-(j:Int)) = e + bl q - 1 ∧ 0 < q ∨ highS (q * 2 ^ n + t * 2 ^ n / d) (-(j:Int)) ≤ e - 1 ∧ q = 0:=by
    rcases Nat.eq_zero_or_pos q with h | h
    · right
      subst h
      have:bl (0 * 2 ^ n + t * 2 ^ n / d) ≤ n:=bl_le_iff.2 (by omega)
      unfold highS
      exact ⟨by omega,rfl⟩
    · left
      unfold highS
      rw [bl_ref h hs]
      exact ⟨by push_cast; omega,h⟩
  have hlast:lastS p w (q * 2 ^ n + t * 2 ^ n / d) (-(j:Int)) = e:=by
    unfold lastS
    rcases hhigh with ⟨h1,h2⟩ | ⟨h1,h2⟩
    · rw [h1]
      rcases hor with h | h <;> omega
    · subst h2
      rw [bl_zero] at hor
      rcases hor with h | h <;> omega
  simp only [hlast]
  have hdd:e - -(j:Int) = n:=by omega
  rw [hdd,if_neg (by omega),if_neg (by omega),Int.toNat_natCast,hdiv,rest_frac hd0 ht hn0]
  rcases hhigh with ⟨h1,h2⟩ | ⟨h1,h2⟩
  · rw [h1,if_neg (by omega)]
  · subst h2
    rw [if_pos rfl]
    unfold finS
    have hlow:highS (0 * 2 ^ n + t * 2 ^ n / d) (-(j:Int)) < lstS p w + p - 1:=by
      rw [bl_zero] at hor
      rcases hor with h | h <;> omega
    simp only [if_pos hlow,if_pos (show lstS p w - 1 < lstS p w + p - 1 by omega)]
end Go.Q
namespace Go.Q
open Go
set_option maxRecDepth 10000
def dgQ (c:UInt8):Bool:=decide (48 ≤ c.toNat) && decide (c.toNat ≤ 57)
def cv (c:UInt8):Nat:=c.toNat - 48
def vd (l:BS):Nat:=l.foldl (fun a c=>10 * a + cv c) 0
def dc (d:Nat):UInt8:=UInt8.ofNat (48 + d)
def ds (n:Nat):BS:=((dgB 10 n).map fun d=>dc d.toNat).reverse
theorem dc_toNat {d:Nat} (h:d < 10):(dc d).toNat = 48 + d:=by
  unfold dc; rw [UInt8.toNat_ofNat']; omega
theorem dc_digit {d:Nat} (h:d < 10):dgQ (dc d) = true:=by
  unfold dgQ; rw [dc_toNat h]; simp; omega
theorem cv_dc {d:Nat} (h:d < 10):cv (dc d) = d:=by unfold cv; rw [dc_toNat h]; omega
theorem dc_cv {c:UInt8} (h:dgQ c = true):dc (cv c) = c:=by
  unfold dgQ at h
  simp only [Bool.and_eq_true,decide_eq_true_eq] at h
  apply UInt8.toNat_inj.1
  rw [dc_toNat (by unfold cv; omega)]; unfold cv; omega
theorem cv_lt {c:UInt8} (h:dgQ c = true):cv c < 10:=by
  unfold dgQ at h
  simp only [Bool.and_eq_true,decide_eq_true_eq] at h
  unfold cv; omega
theorem cv_zero {c:UInt8} (h:dgQ c = true):cv c = 0 ↔ c = 48:=by
  constructor
  · intro h0; rw [← dc_cv h,h0]; rfl
  · rintro rfl; rfl
theorem vd_from (l:BS):∀ a,l.foldl (fun a c=>10 * a + cv c) a = a * 10 ^ l.length + vd l:=by
  induction l with
  | nil=>intro a; simp [vd]
  | cons c l ih =>
    intro a
    unfold vd
    rw [List.foldl_cons,List.foldl_cons,ih,ih (10 * 0 + cv c),List.length_cons,Nat.pow_succ,Nat.add_mul,Nat.add_mul]
    have:10 * a * 10 ^ l.length = a * (10 ^ l.length * 10):=by rw [Nat.mul_comm 10 a,Nat.mul_assoc,Nat.mul_comm 10]
    omega
theorem vd_nil:vd [] = 0:=rfl
theorem vd_cons (c:UInt8) (l:BS):vd (c :: l) = cv c * 10 ^ l.length + vd l:=by
  have:=vd_from l (10 * 0 + cv c)
  unfold vd at this ⊢
  rw [List.foldl_cons,this]; simp
theorem vd_append (l m:BS):vd (l ++ m) = vd l * 10 ^ m.length + vd m:=by
  have:=vd_from m (vd l)
  rw [← this]; unfold vd; rw [List.foldl_append]
theorem vd_lt:∀ l:BS,l.all dgQ = true → vd l < 10 ^ l.length
  | [],_=>by decide
  | c :: l,h=>by
    rw [List.all_cons,Bool.and_eq_true] at h
    have h1:=vd_lt l h.2
    have h2:=cv_lt h.1
    rw [vd_cons,List.length_cons,Nat.pow_succ]
    have:cv c * 10 ^ l.length ≤ 9 * 10 ^ l.length:=Nat.mul_le_mul_right _ (by omega)
    omega
theorem vd_zeros (k:Nat):vd (List.replicate k 48) = 0:=by
  induction k with
  | zero=>rfl
  | succ k ih=>rw [List.replicate_succ,vd_cons,ih,show cv 48 = 0 from rfl,Nat.zero_mul]
theorem ds_zero:ds 0 = []:=by unfold ds; rw [dgB_zero]; rfl
theorem ds_len (n:Nat):(ds n).length = lnB 10 n:=by unfold ds; rw [List.length_reverse,List.length_map,dgB_len]
theorem dgB_cons {B n:Nat} (hB:1 < B) (hn:0 < n):dgB B n = ((n % B:Nat):Int) :: dgB B (n / B):=by
  unfold dgB
  rw [lnB_pos hB hn]
  have:=dkB_app B 1 (lnB B (n / B)) (n % B) (n / B) (by rw [Nat.pow_one]; exact Nat.mod_lt _ (by omega)) hB
  rw [Nat.pow_one,Nat.mod_add_div,Nat.add_comm 1] at this
  rw [this]
  have e:dkB B 1 (n % B) = [((n % B:Nat):Int)]:=by
    rw [dkB_succ,dkB_zero,List.nil_append]
    congr 2
    unfold bdB; rw [Nat.pow_zero,Nat.div_one,Nat.mod_mod]
  rw [e]; rfl
theorem ds_pos {n:Nat} (hn:0 < n):ds n = ds (n / 10) ++ [dc (n % 10)]:=by
  unfold ds
  rw [dgB_cons (by decide) hn,List.map_cons,List.reverse_cons,Int.toNat_natCast]
theorem ds_all:∀ n:Nat,(ds n).all dgQ = true:=by
  intro n
  induction n using Nat.strongRecOn with
  | _ n ih =>
    rcases Nat.eq_zero_or_pos n with h | h
    · subst h; rw [ds_zero]; rfl
    · rw [ds_pos h,List.all_append,ih _ (Nat.div_lt_self h (by decide)),List.all_cons,dc_digit (Nat.mod_lt _ (by decide))]; rfl
theorem vd_ds:∀ n:Nat,vd (ds n) = n:=by
  intro n
  induction n using Nat.strongRecOn with
  | _ n ih =>
    rcases Nat.eq_zero_or_pos n with h | h
    · subst h; rw [ds_zero]; rfl
    · rw [ds_pos h,vd_append,ih _ (Nat.div_lt_self h (by decide)),vd_cons,vd_nil,cv_dc (Nat.mod_lt _ (by decide))]
      simp; omega
theorem ds_appendR:∀ (r:BS) (n:Nat),0 < n → r.all dgQ = true → ds (n * 10 ^ r.length + vd r.reverse) = ds n ++ r.reverse
  | [],n,_,_=>by simp [vd]
  | c :: r,n,hn,h=>by
    rw [List.all_cons,Bool.and_eq_true] at h
    have ih:=ds_appendR r n hn h.2
    have hcl:=cv_lt h.1
    rw [List.reverse_cons,vd_append]
    have e:n * 10 ^ (c :: r).length + (vd r.reverse * 10 ^ [c].length + vd [c]) = (n * 10 ^ r.length + vd r.reverse) * 10 + cv c:=by
      rw [vd_cons,vd_nil]; simp only [List.length_cons,List.length_nil,Nat.pow_succ,Nat.pow_zero]; rw [← Nat.mul_assoc]; omega
    rw [e]
    have hp:0 < n * 10 ^ r.length:=Nat.mul_pos hn (Nat.pow_pos (by decide))
    rw [ds_pos (by omega),show ((n * 10 ^ r.length + vd r.reverse) * 10 + cv c) / 10 = n * 10 ^ r.length + vd r.reverse by omega,show ((n * 10 ^ r.length + vd r.reverse) * 10 + cv c) % 10 = cv c by omega,ih,dc_cv h.1,List.append_assoc]
theorem ds_append (m:BS) (n:Nat) (hn:0 < n) (h:m.all dgQ = true):ds (n * 10 ^ m.length + vd m) = ds n ++ m:=by
  have:=ds_appendR m.reverse n hn (by rw [List.all_reverse]; exact h)
  rwa [List.length_reverse,List.reverse_reverse] at this
theorem ds_vd (l:BS) (h:l.all dgQ = true):ds (vd l) = l.dropWhile (· == 48):=by
  induction l with
  | nil=>rw [vd_nil,ds_zero]; rfl
  | cons c l ih =>
    rw [List.all_cons,Bool.and_eq_true] at h
    by_cases hc:c = 48
    · subst hc
      rw [vd_cons,show cv 48 = 0 from rfl,Nat.zero_mul,Nat.zero_add,ih h.2]; rfl
    · have h0:cv c ≠ 0:=fun h0=>hc ((cv_zero h.1).1 h0)
      have e:(c == 48) = false:=by rw [beq_eq_false_iff_ne]; exact hc
      rw [vd_cons,ds_append l (cv c) (by omega) h.2,List.dropWhile_cons,e]
      have hcl:=cv_lt h.1
      have:ds (cv c) = [c]:=by
        rw [ds_pos (by omega),Nat.div_eq_of_lt hcl,ds_zero,Nat.mod_eq_of_lt hcl,dc_cv h.1]; rfl
      rw [this]; rfl
end Go.Q
namespace Go.Q
set_option maxRecDepth 10000
def caB (B v n i:Nat):Nat:=v % B ^ i * n / B ^ i
theorem caB_zero (B v n:Nat):caB B v n 0 = 0:=by unfold caB; rw [Nat.pow_zero,Nat.mod_one,Nat.zero_mul,Nat.zero_div]
theorem mul_next {B:Nat} (hB:1 < B) (v n i:Nat):v % B ^ (i + 1) * n / B ^ i = bdB B v i * n + caB B v n i:=by
  have hp:=powB_pos hB i
  unfold caB
  rw [modB_succ,Nat.add_mul,show bdB B v i * B ^ i * n = B ^ i * (bdB B v i * n) by rw [Nat.mul_comm (bdB B v i) (B ^ i),Nat.mul_assoc],Nat.add_mul_div_left _ _ hp,Nat.add_comm]
theorem mul_carry {B:Nat} (hB:1 < B) (v n i:Nat):(bdB B v i * n + caB B v n i) / B = caB B v n (i + 1):=by
  rw [← mul_next hB]
  unfold caB
  rw [Nat.div_div_eq_div_mul,Nat.pow_succ]
theorem mul_digit {B:Nat} (hB:1 < B) (v n i:Nat):(bdB B v i * n + caB B v n i) % B = bdB B (v * n) i:=by
  have hp:=powB_pos hB i
  have h1:v * n = v % B ^ (i + 1) * n + B ^ i * (B * (v / B ^ (i + 1) * n)):=by
    have h2:v = v % B ^ (i + 1) + B ^ (i + 1) * (v / B ^ (i + 1)):=(Nat.mod_add_div ..).symm
    calc v * n = (v % B ^ (i + 1) + B ^ (i + 1) * (v / B ^ (i + 1))) * n:=by rw [← h2]
      _ = v % B ^ (i + 1) * n + B ^ (i + 1) * (v / B ^ (i + 1)) * n:=Nat.add_mul ..
      _ = _:=by rw [Nat.pow_succ,Nat.mul_assoc (B ^ i * B),Nat.mul_assoc (B ^ i)]
  unfold bdB
  rw [h1,Nat.add_mul_div_left _ _ hp,Nat.add_mul_mod_self_left,mul_next hB]; rfl
theorem caB_end {B:Nat} (hB:1 < B) (v n:Nat) {i:Nat} (h:lnB B v ≤ i):caB B v n i = v * n / B ^ i:=by
  unfold caB
  rw [Nat.mod_eq_of_lt ((lnB_iff hB _ _).2 h)]
theorem caB_lt {B:Nat} (hB:1 < B) (v n i:Nat) (hn:0 < n):caB B v n i < n:=by
  have hp:=powB_pos hB i
  unfold caB
  rw [Nat.div_lt_iff_lt_mul hp,Nat.mul_comm n]
  exact Nat.mul_lt_mul_of_pos_right (Nat.mod_lt _ hp) hn
def boB (B v u i:Nat):Nat:=if v % B ^ i < u % B ^ i then 1 else 0
theorem boB_zero (B v u:Nat):boB B v u 0 = 0:=by unfold boB; rw [Nat.pow_zero,Nat.mod_one,Nat.mod_one]; rfl
theorem mul_le_of {P a b:Nat} (h:a < b):a * P + P ≤ b * P:=by
  have:(a + 1) * P ≤ b * P:=Nat.mul_le_mul_right _ h
  rwa [Nat.add_mul,Nat.one_mul] at this
theorem less_borrow {B:Nat} (hB:1 < B) (v u i:Nat):boB B v u (i + 1) = if (bdB B v i:Int) - boB B v u i - bdB B u i < 0 then 1 else 0:=by
  have hp:=powB_pos hB i
  have hV:=Nat.mod_lt v hp
  have hU:=Nat.mod_lt u hp
  unfold boB
  rw [modB_succ,modB_succ]
  generalize v % B ^ i = V at *
  generalize u % B ^ i = U at *
  generalize bdB B v i = a
  generalize bdB B u i = b
  generalize B ^ i = P at *
  rcases Nat.lt_trichotomy a b with h | h | h
  · have:=mul_le_of (P:=P) h
    rw [if_pos (by omega),if_pos (by split <;> omega)]
  · subst h
    by_cases h:V < U
    · rw [if_pos (by omega),if_pos h,if_pos (by omega)]
    · rw [if_neg (by omega),if_neg h,if_neg (by omega)]
  · have:=mul_le_of (P:=P) h
    rw [if_neg (by omega),if_neg (by split <;> omega)]
theorem divS {P v u:Nat} (hP:0 < P) (h:u ≤ v):(v - u) / P + (if v % P < u % P then 1 else 0) + u / P = v / P:=by
  have h1:=Nat.div_add_mod v P
  have h2:=Nat.div_add_mod u P
  have h3:=Nat.mod_lt v hP
  have h4:=Nat.mod_lt u hP
  generalize v / P = qv at *
  generalize u / P = qu at *
  generalize v % P = V at *
  generalize u % P = U at *
  have hq:qu ≤ qv:=by
    rcases Nat.lt_or_ge qv qu with h5 | h5
    · have:=mul_le_of (P:=P) h5
      rw [Nat.mul_comm] at h1 h2
      omega
    · exact h5
  obtain ⟨d,rfl⟩:∃ d,qv = qu + d:=⟨qv - qu,by omega⟩
  rw [Nat.mul_add] at h1
  by_cases h6:V < U
  · rw [if_pos h6]
    have hd:0 < d:=by
      rcases Nat.eq_zero_or_pos d with e | e
      · subst e; rw [Nat.mul_zero] at h1; omega
      · exact e
    obtain ⟨e,rfl⟩:∃ e,d = e + 1:=⟨d - 1,by omega⟩
    rw [Nat.mul_add,Nat.mul_one] at h1
    have:v - u = P * e + (P + V - U):=by omega
    rw [this,Nat.mul_add_div hP,Nat.div_eq_of_lt (by omega)]
    omega
  · rw [if_neg h6]
    have:v - u = P * d + (V - U):=by omega
    rw [this,Nat.mul_add_div hP,Nat.div_eq_of_lt (by omega)]
    omega
theorem less_digit {B:Nat} (hB:1 < B) {v u:Nat} (h:u ≤ v) (i:Nat):((bdB B (v - u) i:Nat):Int) = if (bdB B v i:Int) - boB B v u i - bdB B u i < 0 then (bdB B v i:Int) - boB B v u i - bdB B u i + B else (bdB B v i:Int) - boB B v u i - bdB B u i:=by
  have hp:=powB_pos hB i
  have h1:=divS hp h
  have e:boB B v u i = if v % B ^ i < u % B ^ i then 1 else 0:=rfl
  rw [← e] at h1
  have hb:boB B v u i ≤ 1:=by rw [e]; split <;> omega
  unfold bdB
  generalize boB B v u i = o at *
  generalize (v - u) / B ^ i = x at *
  generalize v / B ^ i = y at *
  generalize u / B ^ i = z at *
  have hy:=Nat.div_add_mod y B
  have hz:=Nat.div_add_mod z B
  have hx:=Nat.div_add_mod x B
  have ly:=Nat.mod_lt y (show 0 < B by omega)
  have lz:=Nat.mod_lt z (show 0 < B by omega)
  have lx:=Nat.mod_lt x (show 0 < B by omega)
  generalize y % B = a at *
  generalize z % B = b at *
  generalize x % B = c at *
  generalize y / B = y1 at *
  generalize z / B = z1 at *
  generalize x / B = x1 at *
  have key:B * (x1 + z1) + (c + o + b) = B * y1 + a:=by rw [Nat.mul_add]; omega
  by_cases hd:(a:Int) - o - b < 0
  · rw [if_pos hd]
    rcases Nat.lt_trichotomy (x1 + z1 + 1) y1 with h2 | h2 | h2
    · have:=mul_le_of (P:=B) h2
      rw [Nat.mul_comm,Nat.mul_comm B y1] at key
      rw [Nat.add_mul,Nat.one_mul] at this
      omega
    · subst h2
      rw [Nat.mul_add B _ 1,Nat.mul_one] at key
      omega
    · have:=Nat.mul_le_mul_left B (show y1 ≤ x1 + z1 by omega)
      omega
  · rw [if_neg hd]
    rcases Nat.lt_trichotomy (x1 + z1) y1 with h2 | h2 | h2
    · have:=mul_le_of (P:=B) h2
      rw [Nat.mul_comm,Nat.mul_comm B y1] at key
      omega
    · subst h2; omega
    · have:=mul_le_of (P:=B) h2
      rw [Nat.mul_comm,Nat.mul_comm B y1] at key
      omega
theorem comp_eq {B v u i:Nat} (h:v / B ^ (i + 1) = u / B ^ (i + 1)) (hd:bdB B v i = bdB B u i):v / B ^ i = u / B ^ i:=by
  rw [divB_split (B:=B) v i,divB_split (B:=B) u i,h,hd]
theorem comp_lt {B v u i:Nat} (hB:1 < B) (h:v / B ^ (i + 1) = u / B ^ (i + 1)) (hd:bdB B v i < bdB B u i):v < u:=by
  have h1:=divB_split (B:=B) v i
  have h2:=divB_split (B:=B) u i
  rw [h] at h1
  have h3:v / B ^ i < u / B ^ i:=by omega
  rcases Nat.lt_or_ge v u with h4 | h4
  · exact h4
  · have:=Nat.div_le_div_right (c:=B ^ i) h4
    omega
theorem comp_len {B v u:Nat} (hB:1 < B) (h:lnB B v < lnB B u):v < u:=by
  rcases Nat.lt_or_ge v u with h4 | h4
  · exact h4
  · have:=lnB_mono hB h4
    omega
end Go.Q
namespace Go.Q
set_option maxRecDepth 10000
def cpB (B S b d i k:Nat):Nat:=(S % B ^ (i + k) + d * B ^ i * (b % B ^ k)) / B ^ (i + k)
theorem cpB_zero {B S b d i:Nat} (hB:1 < B):cpB B S b d i 0 = 0:=by
  have hp:=powB_pos hB i
  unfold cpB
  rw [Nat.pow_zero,Nat.mod_one,Nat.mul_zero,Nat.add_zero,Nat.add_zero,Nat.div_eq_of_lt (Nat.mod_lt _ hp)]
theorem prod_next {B:Nat} (hB:1 < B) (S b d i k:Nat):(S % B ^ (i + k + 1) + d * B ^ i * (b % B ^ (k + 1))) / B ^ (i + k) = d * bdB B b k + bdB B S (i + k) + cpB B S b d i k:=by
  have hp:=powB_pos hB (i + k)
  unfold cpB
  rw [modB_succ B S,modB_succ B b]
  have e:S % B ^ (i + k) + bdB B S (i + k) * B ^ (i + k) + d * B ^ i * (b % B ^ k + bdB B b k * B ^ k) = S % B ^ (i + k) + d * B ^ i * (b % B ^ k) + B ^ (i + k) * (bdB B S (i + k) + d * bdB B b k):=by
    rw [Nat.mul_add,Nat.mul_add (B ^ (i + k)),Nat.mul_comm (bdB B S (i + k)) (B ^ (i + k))]
    have:d * B ^ i * (bdB B b k * B ^ k) = B ^ (i + k) * (d * bdB B b k):=by
      rw [Nat.pow_add]
      simp only [Nat.mul_assoc,Nat.mul_comm,Nat.mul_left_comm]
    omega
  rw [e,Nat.add_mul_div_left _ _ hp]; omega
theorem prod_carry {B:Nat} (hB:1 < B) (S b d i k:Nat):(d * bdB B b k + bdB B S (i + k) + cpB B S b d i k) / B = cpB B S b d i (k + 1):=by
  rw [← prod_next hB]
  unfold cpB
  rw [Nat.div_div_eq_div_mul,← Nat.pow_succ]; rfl
theorem prod_digit {B:Nat} (hB:1 < B) (S b d i k:Nat):(d * bdB B b k + bdB B S (i + k) + cpB B S b d i k) % B = bdB B (S + d * B ^ i * b) (i + k):=by
  have hp:=powB_pos hB (i + k)
  have h1:S + d * B ^ i * b = S % B ^ (i + k + 1) + d * B ^ i * (b % B ^ (k + 1)) + B ^ (i + k) * (B * (S / B ^ (i + k + 1) + d * (b / B ^ (k + 1)))):=by
    have h2:S = S % B ^ (i + k + 1) + B ^ (i + k + 1) * (S / B ^ (i + k + 1)):=(Nat.mod_add_div ..).symm
    have h3:b = b % B ^ (k + 1) + B ^ (k + 1) * (b / B ^ (k + 1)):=(Nat.mod_add_div ..).symm
    have h4:d * B ^ i * b = d * B ^ i * (b % B ^ (k + 1)) + d * B ^ i * (B ^ (k + 1) * (b / B ^ (k + 1))):=by rw [← Nat.mul_add,← h3]
    have h5:d * B ^ i * (B ^ (k + 1) * (b / B ^ (k + 1))) = B ^ (i + k) * (B * (d * (b / B ^ (k + 1)))):=by
      generalize b / B ^ (k + 1) = q
      rw [Nat.pow_succ,Nat.pow_add]
      simp only [Nat.mul_assoc,Nat.mul_comm,Nat.mul_left_comm]
    have h6:B ^ (i + k + 1) * (S / B ^ (i + k + 1)) = B ^ (i + k) * (B * (S / B ^ (i + k + 1))):=by rw [Nat.pow_succ (n:=B) (m:=i + k),Nat.mul_assoc]
    rw [Nat.mul_add B,Nat.mul_add (B ^ (i + k))]
    omega
  unfold bdB
  rw [h1,Nat.add_mul_div_left _ _ hp,Nat.add_mul_mod_self_left,prod_next hB]; rfl
theorem cpB_lt {B:Nat} (hB:1 < B) {S b d i k:Nat} (hd:d < B):cpB B S b d i k < B:=by
  have hp:=powB_pos hB (i + k)
  unfold cpB
  rw [Nat.div_lt_iff_lt_mul hp]
  have h1:=Nat.mod_lt S hp
  have h2:=Nat.mod_lt b (powB_pos hB k)
  have h3:d * B ^ i * (b % B ^ k) ≤ d * B ^ i * B ^ k:=Nat.mul_le_mul_left _ (by omega)
  have h4:d * B ^ i * B ^ k = d * B ^ (i + k):=by rw [Nat.mul_assoc,← Nat.pow_add]
  have h5:=mul_le_of (P:=B ^ (i + k)) hd
  omega
theorem cpB_end {B:Nat} (hB:1 < B) {S b d i k:Nat} (hS:S < B ^ (i + k)) (hb:b < B ^ k):cpB B S b d i k = (S + d * B ^ i * b) / B ^ (i + k):=by
  unfold cpB
  rw [Nat.mod_eq_of_lt hS,Nat.mod_eq_of_lt hb]
theorem prod_part {B:Nat} (a b i:Nat):a % B ^ i * b + bdB B a i * B ^ i * b = a % B ^ (i + 1) * b:=by
  rw [modB_succ,Nat.add_mul]
theorem part_lt {B:Nat} (hB:1 < B) {a b i k:Nat} (hb:b < B ^ k):a % B ^ i * b < B ^ (i + k):=by
  have h1:=Nat.mod_lt a (powB_pos hB i)
  have hk:=powB_pos hB k
  rw [Nat.pow_add]
  rcases Nat.eq_zero_or_pos (a % B ^ i) with h | h
  · rw [h,Nat.zero_mul]; exact Nat.mul_pos (powB_pos hB i) hk
  · exact Nat.lt_of_lt_of_le (Nat.mul_lt_mul_of_pos_left hb h) (Nat.mul_le_mul_right _ (by omega))
def mixB (B n p F S:Nat):List Int:=(List.range n).map fun j=>((if j < p then bdB B F j else bdB B S j:Nat):Int)
theorem mixB_len (B n p F S:Nat):(mixB B n p F S).length = n:=by simp [mixB]
theorem mixB_get {B n p F S j:Nat} (h:j < n):(mixB B n p F S)[j]? = some ((if j < p then bdB B F j else bdB B S j:Nat):Int):=by
  unfold mixB
  rw [List.getElem?_map,List.getElem?_range h]; rfl
theorem mixB_set {B n p F S:Nat} (h:p < n):(mixB B n p F S).set p ((bdB B F p:Nat):Int) = mixB B n (p + 1) F S:=by
  apply List.ext_getElem?
  intro j
  rw [List.getElem?_set]
  by_cases hj:j < n
  · rw [mixB_get hj,mixB_len]
    by_cases e:p = j
    · subst e
      rw [if_pos rfl,if_pos h,mixB_get h,if_pos (by omega)]
    · rw [if_neg e,mixB_get hj]
      by_cases h2:j < p
      · rw [if_pos h2,if_pos (by omega)]
      · rw [if_neg h2,if_neg (by omega)]
  · have h1:∀ p',(mixB B n p' F S)[j]? = none:=fun p'=>List.getElem?_eq_none (by rw [mixB_len]; omega)
    rw [h1,h1,mixB_len]
    split
    · rename_i e
      omega
    · rfl
theorem mixB_start (B n p F S:Nat) (h:∀ j,j < p → bdB B F j = bdB B S j):mixB B n p F S = dkB B n S:=by
  unfold mixB dkB
  apply List.map_congr_left
  intro j _
  by_cases hj:j < p
  · rw [if_pos hj,h j hj]
  · rw [if_neg hj]
theorem mixB_stop {B n p F S:Nat} (h:∀ j,p ≤ j → j < n → bdB B S j = bdB B F j):mixB B n p F S = dkB B n F:=by
  unfold mixB dkB
  apply List.map_congr_left
  intro j hj
  rw [List.mem_range] at hj
  by_cases h2:j < p
  · rw [if_pos h2]
  · rw [if_neg h2,h j (by omega) hj]
theorem bdB_low {B S x i j:Nat} (hB:1 < B) (h:j < i):bdB B (S + x * B ^ i) j = bdB B S j:=by
  unfold bdB
  obtain ⟨k,rfl⟩:∃ k,i = j + 1 + k:=⟨i - (j + 1),by omega⟩
  have:x * B ^ (j + 1 + k) = B ^ j * (B * (x * B ^ k)):=by
    rw [Nat.pow_add,Nat.pow_succ]
    simp only [Nat.mul_assoc,Nat.mul_comm,Nat.mul_left_comm]
  rw [this,Nat.add_mul_div_left _ _ (powB_pos hB j),Nat.add_mul_mod_self_left]
end Go.Q
namespace Go.Q
set_option maxRecDepth 10000
theorem dgB_get {B n i:Nat} (h:i < lnB B n):(dgB B n)[i]? = some ((bdB B n i:Nat):Int):=dkB_get h
theorem dkB_trim_zero {B k n:Nat} (hB:1 < B) (h:lnB B n ≤ k) (h2:lnB B n < k):(dkB B k n)[k - 1]? = some 0 ∧ (dkB B k n).take (k - 1) = dkB B (k - 1) n:=by
  refine ⟨?_,dkB_take (by omega)⟩
  rw [dkB_get (by omega),bdB_high hB (by omega)]; rfl
theorem dkB_trim_stop {B n:Nat} (hB:1 < B) (hn:0 < n):(dgB B n)[lnB B n - 1]? = some ((bdB B n (lnB B n - 1):Nat):Int) ∧ ((bdB B n (lnB B n - 1):Nat):Int) ≠ 0:=by
  have h:=lnB_gt hB hn
  refine ⟨dgB_get (by omega),?_⟩
  have:=bdB_top hB hn
  omega
theorem dk_push {B:Nat} (k n:Nat) {x:Int} (h:x = ((bdB B n k:Nat):Int)):dkB B k n ++ [x] = dkB B (k + 1) n:=by rw [h,dkB_succ]
theorem up_digit (B n k:Nat):bdB B n k = n / B ^ k % B:=rfl
theorem up_left (B n k:Nat):n / B ^ k / B = n / B ^ (k + 1):=(divB_succ B n k).symm
theorem up_none {B n k:Nat} (hB:1 < B):n / B ^ k = 0 ↔ lnB B n ≤ k:=by
  rw [Nat.div_eq_zero_iff_lt (powB_pos hB k),lnB_iff hB]
theorem lnB_one {B n:Nat} (hB:1 < B) (h:n < B):lnB B n ≤ 1:=(lnB_iff hB 1 n).1 (by rw [Nat.pow_one]; exact h)
theorem lnB_two {B n:Nat} (hB:1 < B) (h:n < B * B):lnB B n ≤ 2:=(lnB_iff hB 2 n).1 (by rw [Nat.pow_two]; exact h)
theorem dkB_two (B n:Nat):dkB B 2 n = [((n % B:Nat):Int),((n / B % B:Nat):Int)]:=by
  rw [dkB_succ,dkB_succ,dkB_zero]
  unfold bdB
  rw [Nat.pow_zero,Nat.pow_one,Nat.div_one]; rfl
theorem half_digit (n i:Nat):bdB (2 ^ 32) (n / 2) i = bdB (2 ^ 32) n i / 2 + bdB (2 ^ 32) n (i + 1) % 2 * 2 ^ 31:=by
  unfold bdB
  have e1:n / 2 / (2 ^ 32) ^ i = n / (2 ^ 32) ^ i / 2:=by rw [Nat.div_div_eq_div_mul,Nat.div_div_eq_div_mul,Nat.mul_comm]
  have e2:n / (2 ^ 32) ^ (i + 1) = n / (2 ^ 32) ^ i / 2 ^ 32:=divB_succ _ _ _
  rw [e1,e2]
  generalize n / (2 ^ 32) ^ i = m
  omega
theorem div_end {a b q r:Nat} (ha:a = q * b + r) (hr:r < b):a / b = q ∧ a % b = r:=by
  have hb:0 < b:=by omega
  subst ha
  rw [Nat.mul_comm q b]
  exact ⟨by rw [Nat.mul_add_div hb,Nat.div_eq_of_lt hr,Nat.add_zero],by rw [Nat.mul_add_mod,Nat.mod_eq_of_lt hr]⟩
end Go.Q
namespace Go.Q
open Go
set_option maxRecDepth 10000
theorem all_take {l:BS} (n:Nat) (h:l.all dgQ = true):(l.take n).all dgQ = true:=by
  rw [List.all_eq_true] at h ⊢
  exact fun x hx=>h x (List.mem_of_mem_take hx)
theorem all_drop {l:BS} (n:Nat) (h:l.all dgQ = true):(l.drop n).all dgQ = true:=by
  rw [List.all_eq_true] at h ⊢
  exact fun x hx=>h x (List.mem_of_mem_drop hx)
theorem vd_parts {l:BS} {k:Nat} (h:l.all dgQ = true) (hk:k ≤ l.length):vd (l.take (l.length - k)) = vd l / 10 ^ k ∧ vd (l.drop (l.length - k)) = vd l % 10 ^ k:=by
  have hl:(l.drop (l.length - k)).length = k:=by rw [List.length_drop]; omega
  have h1:=vd_append (l.take (l.length - k)) (l.drop (l.length - k))
  rw [List.take_append_drop,hl] at h1
  have h2:=vd_lt _ (all_drop (l.length - k) h)
  rw [hl] at h2
  obtain ⟨e1,e2⟩:=div_end h1 h2
  exact ⟨e1.symm,e2.symm⟩
theorem nine_pow (i:Nat):(1000000000:Nat) ^ i = 10 ^ (9 * i):=by rw [Nat.pow_mul]
theorem vd_part {l:BS} {i:Nat} (h:l.all dgQ = true) (hi:9 * i < l.length) :
    ((vd ((l.take (l.length - 9 * i)).drop (l.length - 9 * i - 9)):Nat):Int) = ((bdB 1000000000 (vd l) i:Nat):Int):=by
  obtain ⟨h1,_⟩:=vd_parts h (k:=9 * i) (by omega)
  have hl:(l.take (l.length - 9 * i)).length = l.length - 9 * i:=by rw [List.length_take]; omega
  have ha:=all_take (l.length - 9 * i) h
  unfold bdB
  rw [nine_pow,← h1]
  generalize l.take (l.length - 9 * i) = m at *
  rw [← hl]
  by_cases h9:9 ≤ m.length
  · rw [(vd_parts ha h9).2]
  · rw [show m.length - 9 = 0 by omega,List.drop_zero,Nat.mod_eq_of_lt]
    have h10:10 ^ m.length ≤ 10 ^ 9:=Nat.pow_le_pow_right (by decide) (by omega)
    exact Nat.lt_of_lt_of_le (vd_lt m ha) h10
theorem parts_end {l:BS} {i:Nat} (h:l.all dgQ = true) (hi:l.length ≤ 9 * i):lnB 1000000000 (vd l) ≤ i:=by
  rw [← lnB_iff (by decide),nine_pow]
  exact Nat.lt_of_lt_of_le (vd_lt l h) (Nat.pow_le_pow_right (by decide) hi)
def nine (d:Nat):BS:=List.replicate (9 - (ds d).length) 48 ++ ds d
theorem ds_len9 {d:Nat} (h:d < 1000000000):(ds d).length ≤ 9:=by
  rw [ds_len,← lnB_iff (by decide)]; exact h
theorem nine_len {d:Nat} (h:d < 1000000000):(nine d).length = 9:=by
  have:=ds_len9 h
  unfold nine
  rw [List.length_append,List.length_replicate]; omega
theorem zeros_dig (k:Nat):(List.replicate k (48:UInt8)).all dgQ = true:=by
  rw [List.all_eq_true]
  intro x hx
  rw [List.eq_of_mem_replicate hx]; rfl
theorem nine_dig (d:Nat):(nine d).all dgQ = true:=by
  unfold nine
  rw [List.all_append,zeros_dig,ds_all]; rfl
theorem nine_vd (d:Nat):vd (nine d) = d:=by
  unfold nine
  rw [vd_append,vd_zeros,vd_ds,Nat.zero_mul,Nat.zero_add]
def parts9 (n:Nat):Nat → BS
  | 0=>[]
  | k + 1=>nine (bdB 1000000000 n k) ++ parts9 n k
theorem bd9_lt (n k:Nat):bdB 1000000000 n k < 1000000000:=bdB_lt (by decide) n k
theorem parts9_len (n:Nat):∀ k,(parts9 n k).length = 9 * k
  | 0=>rfl
  | k + 1=>by
    unfold parts9
    rw [List.length_append,nine_len (bd9_lt n k),parts9_len n k]; omega
theorem parts9_dig (n:Nat):∀ k,(parts9 n k).all dgQ = true
  | 0=>rfl
  | k + 1=>by
    unfold parts9
    rw [List.all_append,nine_dig,parts9_dig n k]; rfl
theorem parts9_vd (n:Nat):∀ k,vd (parts9 n k) = n % 1000000000 ^ k
  | 0=>by rw [Nat.pow_zero,Nat.mod_one]; rfl
  | k + 1=>by
    unfold parts9
    rw [vd_append,nine_vd,parts9_vd n k,parts9_len,modB_succ,nine_pow,Nat.add_comm]
theorem parts9_all {n k:Nat} (h:lnB 1000000000 n ≤ k):(parts9 n k).dropWhile (· == 48) = ds n:=by
  rw [← ds_vd _ (parts9_dig n k),parts9_vd,Nat.mod_eq_of_lt ((lnB_iff (by decide) k n).2 h)]
end Go.Q
namespace Go.Q
open Go
set_option maxRecDepth 10000
def incR:BS → BS
  | []=>[49]
  | c :: r=>if c < 57 then (c + 1) :: r else 48 :: incR r
def incD (f:BS):BS:=(incR f.reverse).reverse
theorem vd_rev_cons (c:UInt8) (r:BS):vd (c :: r).reverse = vd r.reverse * 10 + cv c:=by
  rw [List.reverse_cons,vd_append,vd_cons,vd_nil]
  simp only [List.length_cons,List.length_nil,Nat.pow_zero,Nat.mul_one,Nat.add_zero,Nat.zero_add,Nat.pow_one]
theorem dgQ_iff (c:UInt8):dgQ c = true ↔ 48 ≤ c.toNat ∧ c.toNat ≤ 57:=by
  unfold dgQ
  rw [Bool.and_eq_true,decide_eq_true_eq,decide_eq_true_eq]
theorem inc_byte {c:UInt8} (h:dgQ c = true) (h9:c < 57):dgQ (c + 1) = true ∧ cv (c + 1) = cv c + 1:=by
  rw [dgQ_iff] at h ⊢
  have h1:c.toNat < 57:=h9
  have h2:(c + 1).toNat = c.toNat + 1:=by
    rw [UInt8.toNat_add,show (1:UInt8).toNat = 1 from rfl]
    omega
  unfold cv
  omega
theorem nine_byte {c:UInt8} (h:dgQ c = true) (h9:¬ c < 57):c = 57:=by
  rw [dgQ_iff] at h
  apply UInt8.toNat_inj.1
  have h1:¬ c.toNat < 57:=h9
  show c.toNat = 57
  omega
theorem incR_ok:∀ r:BS,r.all dgQ = true → (incR r).all dgQ = true ∧ vd (incR r).reverse = vd r.reverse + 1
  | [],_=>⟨rfl,rfl⟩
  | c :: r,h=>by
    rw [List.all_cons,Bool.and_eq_true] at h
    unfold incR
    by_cases h9:c < 57
    · rw [if_pos h9]
      obtain ⟨h1,h2⟩:=inc_byte h.1 h9
      refine ⟨by rw [List.all_cons,h1,h.2]; rfl,?_⟩
      rw [vd_rev_cons,vd_rev_cons,h2]; omega
    · rw [if_neg h9]
      obtain ⟨h1,h2⟩:=incR_ok r h.2
      refine ⟨by rw [List.all_cons,h1]; rfl,?_⟩
      rw [vd_rev_cons,vd_rev_cons,h2,nine_byte h.1 h9,show cv 48 = 0 from rfl,show cv 57 = 9 from rfl]; omega
theorem incD_dig {f:BS} (h:f.all dgQ = true):(incD f).all dgQ = true:=by
  unfold incD
  rw [List.all_reverse]
  exact (incR_ok f.reverse (by rw [List.all_reverse]; exact h)).1
theorem incD_vd {f:BS} (h:f.all dgQ = true):vd (incD f) = vd f + 1:=by
  have:=(incR_ok f.reverse (by rw [List.all_reverse]; exact h)).2
  rwa [List.reverse_reverse] at this
theorem incR_len:∀ r:BS,r.length ≤ (incR r).length ∧ (incR r).length ≤ r.length + 1
  | []=>⟨Nat.zero_le _,Nat.le_refl _⟩
  | c :: r=>by
    unfold incR
    split
    · simp only [List.length_cons]; omega
    · have:=incR_len r
      simp only [List.length_cons]; omega
theorem incD_len (f:BS):f.length ≤ (incD f).length ∧ (incD f).length ≤ f.length + 1:=by
  unfold incD
  have:=incR_len f.reverse
  rw [List.length_reverse] at this ⊢
  exact this
theorem ds_self {f:BS} (h:f.all dgQ = true) (h0:f.head? ≠ some 48):ds (vd f) = f:=by
  rw [ds_vd f h]
  cases f with
  | nil=>rfl
  | cons c r =>
    rw [List.dropWhile_cons]
    have:(c == 48) = false:=by
      rw [beq_eq_false_iff_ne]
      intro e
      exact h0 (by rw [e]; rfl)
    rw [this]; rfl
theorem head_of_len {f:BS} {n:Nat} (h:f.all dgQ = true) (hl:10 ^ n ≤ vd f) (hn:f.length = n + 1):f.head? ≠ some 48:=by
  cases f with
  | nil=>simp at hn
  | cons c r =>
    intro e
    have e2:c = 48:=by simpa using e
    rw [List.all_cons,Bool.and_eq_true] at h
    rw [List.length_cons] at hn
    rw [vd_cons,e2,show cv 48 = 0 from rfl,Nat.zero_mul,Nat.zero_add] at hl
    have:=vd_lt r h.2
    rw [show r.length = n by omega] at this
    omega
theorem vd_head {f:BS} {n:Nat} (h:f.all dgQ = true) (h0:f.head? ≠ some 48) (hn:f.length = n + 1):10 ^ n ≤ vd f:=by
  cases f with
  | nil=>simp at hn
  | cons c r =>
    rw [List.all_cons,Bool.and_eq_true] at h
    rw [List.length_cons] at hn
    have hc:cv c ≠ 0:=fun e=>h0 (by rw [(cv_zero h.1).1 e]; rfl)
    rw [vd_cons,show r.length = n by omega]
    have:1 * 10 ^ n ≤ cv c * 10 ^ n:=Nat.mul_le_mul_right _ (by omega)
    omega
theorem incD_self {f:BS} (h:f.all dgQ = true) (h0:f.head? ≠ some 48):incD f = ds (vd f + 1):=by
  have hd:=incD_dig h
  have hv:=incD_vd h
  rw [← hv]
  symm
  refine ds_self hd ?_
  have hl:=incD_len f
  rcases Nat.lt_or_ge f.length (incD f).length with h1 | h1
  · -- a digit more: a carry
    have hn:(incD f).length = f.length + 1:=by omega
    intro e
    cases hi:incD f with
    | nil=>rw [hi] at hn; simp at hn
    | cons c r =>
      rw [hi] at e hd hn hv
      have e2:c = 48:=by simpa using e
      rw [List.all_cons,Bool.and_eq_true] at hd
      rw [List.length_cons] at hn
      rw [vd_cons,e2,show cv 48 = 0 from rfl,Nat.zero_mul,Nat.zero_add] at hv
      have h3:∀ r:BS,(incR r).length = r.length + 1 → (incR r).reverse.head? = some 49:=by
        intro r
        induction r with
        | nil=>intro _; rfl
        | cons d r ih =>
          intro h4
          unfold incR at h4 ⊢
          by_cases h9:d < 57
          · rw [if_pos h9] at h4; simp at h4
          · rw [if_neg h9] at h4 ⊢
            rw [List.length_cons,List.length_cons] at h4
            have:=ih (by omega)
            rw [List.reverse_cons]
            cases hr:(incR r).reverse with
            | nil=>rw [hr] at this; cases this
            | cons x y=>rw [hr] at this; exact this
      have h5:=h3 f.reverse (by
        have h7:(incD f).length = (incR f.reverse).length:=by unfold incD; rw [List.length_reverse]
        rw [hi,List.length_cons] at h7
        rw [List.length_reverse]; omega)
      have h6:incD f = (incR f.reverse).reverse:=rfl
      rw [← h6,hi] at h5
      have:c = 49:=by simpa using h5
      rw [e2] at this
      exact absurd this (by decide)
  · have hn:(incD f).length = f.length:=by omega
    cases hf:f.length with
    | zero=>have:=List.eq_nil_of_length_eq_zero hf; subst this; simp [incD,incR] at hn
    | succ n =>
      refine head_of_len hd ?_ (hn.trans hf)
      rw [hv]
      have:=vd_head h h0 hf
      omega
theorem tail_half {c:UInt8} {r:BS} (hc:dgQ c = true) (hr:r.all dgQ = true) (hp:r ≠ [] → 0 < vd r) :
    (10 ^ (r.length + 1) < 2 * vd (c :: r) ↔ 53 < c.toNat ∨ c.toNat = 53 ∧ r ≠ []) ∧ (10 ^ (r.length + 1) = 2 * vd (c :: r) ↔ c.toNat = 53 ∧ r = []):=by
  have h1:=vd_lt r hr
  rw [dgQ_iff] at hc
  rw [vd_cons,Nat.pow_succ]
  have hP:0 < 10 ^ r.length:=Nat.pow_pos (by decide)
  have hcv:cv c = c.toNat - 48:=rfl
  have hz:r = [] → vd r = 0:=fun e=>by rw [e]; rfl
  generalize vd r = t at *
  rw [hcv]
  generalize 10 ^ r.length = P at *
  have hq:∃ k,c.toNat = 48 + k ∧ k ≤ 9:=⟨c.toNat - 48,by omega,by omega⟩
  obtain ⟨k,hk,hk9⟩:=hq
  rw [hk,show 48 + k - 48 = k by omega]
  rcases Nat.lt_trichotomy k 5 with h | h | h
  · have:k * P ≤ 4 * P:=Nat.mul_le_mul_right _ (by omega)
    exact ⟨⟨fun _=>by omega,fun e=>by rcases e with e | e <;> omega⟩,⟨fun _=>by omega,fun e=>by omega⟩⟩
  · subst h
    by_cases hr0:r = []
    · have:=hz hr0
      exact ⟨⟨fun _=>by omega,fun e=>by rcases e with e | e; omega; exact absurd hr0 e.2⟩,⟨fun _=>⟨by omega,hr0⟩,fun _=>by omega⟩⟩
    · have:=hp hr0
      exact ⟨⟨fun _=>.inr ⟨by omega,hr0⟩,fun _=>by omega⟩,⟨fun _=>by omega,fun e=>absurd e.2 hr0⟩⟩
  · have:6 * P ≤ k * P:=Nat.mul_le_mul_right _ (by omega)
    exact ⟨⟨fun _=>.inl (by omega),fun _=>by omega⟩,⟨fun _=>by omega,fun e=>by omega⟩⟩
end Go.Q
namespace Go.Q
open Go
set_option maxRecDepth 10000
theorem frac_same {a b c d:Nat} (hb:0 < b) (hd:0 < d) (h:a * d = c * b):a / b = c / d ∧ a % b * d = c % d * b:=by
  have e1:a / b = a * d / (b * d):=(Nat.mul_div_mul_right a b hd).symm
  have e2:c / d = c * b / (d * b):=(Nat.mul_div_mul_right c d hb).symm
  refine ⟨by rw [e1,e2,h,Nat.mul_comm b d],?_⟩
  rw [← Nat.mul_mod_mul_right,← Nat.mul_mod_mul_right,h,Nat.mul_comm b d]
theorem frac_half {r b t d:Nat} (hb:0 < b) (hd:0 < d) (h:r * d = t * b):(b < 2 * r ↔ d < 2 * t) ∧ (b = 2 * r ↔ d = 2 * t) ∧ (r = 0 ↔ t = 0):=by
  have e1:2 * r * d = 2 * t * b:=by rw [Nat.mul_assoc,h,Nat.mul_assoc]
  have c1:∀ {x y z:Nat},0 < z → (x * z < y * z ↔ x < y):=fun hz=>Nat.mul_lt_mul_right hz
  have c2:∀ {x y z:Nat},0 < z → (x * z = y * z ↔ x = y):=fun hz=>⟨fun e=>Nat.eq_of_mul_eq_mul_right hz e,fun e=>by rw [e]⟩
  refine ⟨?_,?_,?_⟩
  · rw [← c1 (x:=b) (y:=2 * r) hd,e1,Nat.mul_comm b d,c1 hb]
  · rw [← c2 (x:=b) (y:=2 * r) hd,e1,Nat.mul_comm b d,c2 hb]
  · rw [← c2 (x:=r) (y:=0) hd,h,Nat.zero_mul]
    constructor
    · intro e
      rcases Nat.mul_eq_zero.1 e with e | e
      · exact e
      · omega
    · rintro rfl; exact Nat.zero_mul b
def Is10 (num den v:Nat) (s:Int):Prop:=num * 10 ^ (-s).toNat = den * v * 10 ^ s.toNat
theorem is10_times {num den v:Nat} {s:Int} (h:Is10 num den v s) (j:Int):Is10 (num * 10 ^ j.toNat) (den * 10 ^ (-j).toNat) v (s + j):=by
  unfold Is10 at h ⊢
  have hp:0 < 10 ^ (-s).toNat:=Nat.pow_pos (by decide)
  refine Nat.eq_of_mul_eq_mul_right hp ?_
  have e1:num * 10 ^ j.toNat * 10 ^ (-(s + j)).toNat * 10 ^ (-s).toNat = num * 10 ^ (-s).toNat * 10 ^ (j.toNat + (-(s + j)).toNat):=by
    rw [Nat.pow_add]
    simp only [Nat.mul_assoc,Nat.mul_comm,Nat.mul_left_comm]
  have e2:den * 10 ^ (-j).toNat * v * 10 ^ (s + j).toNat * 10 ^ (-s).toNat = den * v * 10 ^ ((-j).toNat + (s + j).toNat + (-s).toNat):=by
    rw [Nat.pow_add,Nat.pow_add]
    simp only [Nat.mul_assoc,Nat.mul_comm,Nat.mul_left_comm]
  rw [e1,e2,h,Nat.mul_assoc (den * v),← Nat.pow_add]
  congr 2
  omega
theorem is10_div {num den v:Nat} {t:Int} (hd:0 < den) (h:Is10 num den v t):num / den = v * 10 ^ t.toNat / 10 ^ (-t).toNat ∧ num % den * 10 ^ (-t).toNat = v * 10 ^ t.toNat % 10 ^ (-t).toNat * den:=by
  refine frac_same hd (Nat.pow_pos (by decide)) ?_
  unfold Is10 at h
  rw [h]
  simp only [Nat.mul_assoc,Nat.mul_comm,Nat.mul_left_comm]
def topD (D:BS) (n:Nat):BS:=D.take n ++ List.replicate (n - D.length) 48
theorem topD_len (D:BS) (n:Nat):(topD D n).length = n:=by
  unfold topD
  rw [List.length_append,List.length_take,List.length_replicate]; omega
theorem topD_dig {D:BS} (h:D.all dgQ = true) (n:Nat):(topD D n).all dgQ = true:=by
  unfold topD
  rw [List.all_append,all_take n h,zeros_dig]; rfl
theorem topD_vd {D:BS} (h:D.all dgQ = true) {n:Nat} {t:Int} (ht:t = (n:Int) - D.length) :
    vd (topD D n) = vd D * 10 ^ t.toNat / 10 ^ (-t).toNat ∧ vd D * 10 ^ t.toNat % 10 ^ (-t).toNat = vd (D.drop n) ∧ 10 ^ (-t).toNat = 10 ^ (D.drop n).length:=by
  unfold topD
  rcases Nat.lt_or_ge n D.length with h1 | h1
  · have e1:t.toNat = 0:=by omega
    have e2:(-t).toNat = D.length - n:=by omega
    have hp:=vd_parts h (k:=D.length - n) (by omega)
    rw [show D.length - (D.length - n) = n by omega] at hp
    rw [e1,e2,Nat.pow_zero,Nat.mul_one,show n - D.length = 0 by omega,List.replicate_zero,List.append_nil,List.length_drop]
    exact ⟨hp.1,hp.2.symm,rfl⟩
  · have e1:t.toNat = n - D.length:=by omega
    have e2:(-t).toNat = 0:=by omega
    rw [e1,e2,Nat.pow_zero,Nat.div_one,Nat.mod_one,List.take_of_length_le h1,List.drop_of_length_le h1,vd_append,vd_zeros,List.length_replicate,Nat.add_zero]
    exact ⟨rfl,rfl,rfl⟩
end Go.Q
