import Derived.Test.YtemmhailjfdfdaaGreatFL
namespace Go.Q
open Go
set_option maxRecDepth 100000
set_option maxHeartbeats 4000000
theorem last_gt {p w N:Nat} {e:Int} (h:2 ^ p ≤ N):0 < lastS p w N e - e:=by
  have h1:¬ bl N ≤ p:=fun q=>by have:=bl_le_iff.1 q; omega
  unfold lastS highS
  omega
theorem rnd_more {p w N k r:Nat} {mode sign e:Int} (hb:2 ^ p ≤ N) (hr:r < 2 ^ k):rndS p w mode sign (N * 2 ^ k + r) (e - k) true = rndS p w mode sign N e true:=by
  have h0:0 < N:=Nat.lt_of_lt_of_le (Nat.two_pow_pos p) hb
  have:=rndS_ref (mode:=mode) (sign:=sign) (more:=true) h0 hr (last_gt (w:=w) (e:=e) hb)
  rw [this]; rfl
theorem rnd_rest {p w N k r:Nat} {mode sign e:Int} (hb:2 ^ p ≤ N) (hr:r < 2 ^ k) (h1:0 < r):rndS p w mode sign (N * 2 ^ k + r) (e - k) false = rndS p w mode sign N e true:=by
  have h0:0 < N:=Nat.lt_of_lt_of_le (Nat.two_pow_pos p) hb
  have:=rndS_ref (mode:=mode) (sign:=sign) (more:=false) h0 hr (last_gt (w:=w) (e:=e) hb)
  rw [this,decide_eq_true (by omega:r ≠ 0)]; rfl
theorem pow_split {a b c:Nat} (h:a = b + c):2 ^ a = 2 ^ b * 2 ^ c:=by rw [h,Nat.pow_add]
theorem far_same {p w m n d:Nat} {mode sign e:Int} (hp:0 < p ∧ p ≤ 53) (h1:2 ^ (p - 1) ≤ m) (hn:0 < n) (hn2:n < 2 ^ p) (hd:70 < d) :
    rndS p w mode sign (m * 2 ^ 70) (e - 70) true = rndS p w mode sign (m * 2 ^ d + n) (e - d) false:=by
  have h2:2 ^ p ≤ m * 2:=by
    have:2 ^ p = 2 ^ (p - 1) * 2:=by rw [← Nat.pow_succ]; congr 1; omega
    omega
  have hm:0 < m:=Nat.lt_of_lt_of_le (Nat.two_pow_pos _) h1
  have a1:=rnd_more (w:=w) (mode:=mode) (sign:=sign) (e:=e - 1) (k:=69) (r:=0) h2 (Nat.two_pow_pos _)
  rw [Nat.add_zero,Nat.mul_assoc,show 2 * 2 ^ 69 = 2 ^ 70 from rfl,show e - 1 - ((69:Nat):Int) = e - 70 by omega] at a1
  have a2:=rnd_more (w:=w) (mode:=mode) (sign:=sign) (e:=e - 1) (k:=d - p - 1) (r:=0) h2 (Nat.two_pow_pos _)
  rw [Nat.add_zero,Nat.mul_assoc,Nat.mul_comm 2,← Nat.pow_succ,show (d - p - 1).succ = d - p by omega,show e - 1 - ((d - p - 1:Nat):Int) = e - d + p by omega] at a2
  have h3:2 ^ p ≤ m * 2 ^ (d - p):=by
    refine Nat.le_trans h2 (Nat.mul_le_mul_left _ ?_)
    show 2 ^ 1 ≤ 2 ^ (d - p)
    exact Nat.pow_le_pow_right (by decide) (by omega:1 ≤ d - p)
  have a3:=rnd_rest (w:=w) (mode:=mode) (sign:=sign) (e:=e - d + p) (k:=p) (r:=n) h3 hn2 hn
  rw [Nat.mul_assoc,← Nat.pow_add,show d - p + p = d by omega,show e - d + p - ((p:Nat):Int) = e - d by omega] at a3
  rw [a1,a3,a2]
theorem less_one {a k:Nat} (h:0 < a):a * 2 ^ k - 1 = (a - 1) * 2 ^ k + (2 ^ k - 1):=by
  have:=Nat.two_pow_pos k
  have e:a * 2 ^ k = (a - 1) * 2 ^ k + 2 ^ k:=by
    rw [← Nat.succ_mul]; congr 1; omega
  omega
theorem far_diff {p w m n d:Nat} {mode sign e:Int} (hp:0 < p ∧ p ≤ 53) (h1:2 ^ (p - 1) ≤ m) (hn:0 < n) (hn2:n < 2 ^ p) (hd:70 < d) :
    rndS p w mode sign (m * 2 ^ 70 - 1) (e - 70) true = rndS p w mode sign (m * 2 ^ d - n) (e - d) false:=by
  have hpp:2 ^ p = 2 ^ (p - 1) * 2:=by rw [← Nat.pow_succ]; congr 1; omega
  have hm:0 < m:=Nat.lt_of_lt_of_le (Nat.two_pow_pos _) h1
  have hp1:=Nat.two_pow_pos (p - 1)
  have h2:2 ^ p ≤ m * 4 - 1:=by omega
  have a1:=rnd_more (w:=w) (mode:=mode) (sign:=sign) (e:=e - 2) (k:=68) (r:=2 ^ 68 - 1) h2 (by decide)
  rw [← less_one (by omega),Nat.mul_assoc,show 4 * 2 ^ 68 = 2 ^ 70 from rfl,show e - 2 - ((68:Nat):Int) = e - 70 by omega] at a1
  have a2:=rnd_more (w:=w) (mode:=mode) (sign:=sign) (e:=e - 2) (k:=d - p - 2) (r:=2 ^ (d - p - 2) - 1) h2 (by have:=Nat.two_pow_pos (d - p - 2); omega)
  rw [← less_one (by omega),Nat.mul_assoc,show (4:Nat) = 2 ^ 2 from rfl,← Nat.pow_add,show 2 + (d - p - 2) = d - p by omega,show e - 2 - ((d - p - 2:Nat):Int) = e - d + p by omega] at a2
  have h3:2 ^ p ≤ m * 2 ^ (d - p) - 1:=by
    have:m * 2 ^ 2 ≤ m * 2 ^ (d - p):=Nat.mul_le_mul_left _ (Nat.pow_le_pow_right (by decide) (by omega:2 ≤ d - p))
    omega
  have a3:=rnd_rest (w:=w) (mode:=mode) (sign:=sign) (e:=e - d + p) (k:=p) (r:=2 ^ p - n) h3 (by omega) (by omega)
  have e3:(m * 2 ^ (d - p) - 1) * 2 ^ p + (2 ^ p - n) = m * 2 ^ d - n:=by
    have q:0 < m * 2 ^ (d - p):=Nat.mul_pos hm (Nat.two_pow_pos _)
    have:=less_one (k:=p) q
    rw [Nat.mul_assoc,← Nat.pow_add,show d - p + p = d by omega] at this
    have q2:2 ^ p ≤ m * 2 ^ d:=by
      have:1 * 2 ^ p ≤ m * 2 ^ d:=Nat.mul_le_mul hm (Nat.pow_le_pow_right (by decide) (by omega))
      omega
    omega
  rw [e3,show e - d + p - ((p:Nat):Int) = e - d by omega] at a3
  rw [a1,a3,a2]
theorem left_eq {m n:Nat} (hm:m < 18446744073709551616) (hn:n < 128) (hmn:m * 2 ^ n < 2 ^ 128) :
    Flt.left m n = some (((m * 2 ^ n / 18446744073709551616:Nat):Int),((m * 2 ^ n % 18446744073709551616:Nat):Int)):=by
  unfold Flt.left
  simp only [letk]
  by_cases hc:64 ≤ n
  · rw [decide_eq_true (by omega:(n:Int) ≥ 64)]
    simp only [cond]
    rw [wi (x:=(n:Int) - 64) (by omega) (by omega),chk_pos (by omega),u_shl' (a:=m) (k:=n - 64) rfl (by omega)]
    have e:m * 2 ^ n = m * 2 ^ (n - 64) * 18446744073709551616:=by
      rw [Nat.mul_assoc,← pow64,← Nat.pow_add]; congr 2; omega
    have hb:m * 2 ^ (n - 64) < 18446744073709551616:=by
      rw [e,show (2:Nat) ^ 128 = 18446744073709551616 * 18446744073709551616 from by decide] at hmn
      exact Nat.lt_of_mul_lt_mul_right hmn
    rw [e,Nat.mul_div_cancel _ (by decide),Nat.mul_mod_left,Nat.mod_eq_of_lt hb]; rfl
  · rw [decide_eq_false (by omega:¬ (n:Int) ≥ 64)]
    simp only [cond]
    rw [wi (x:=(64:Int) - n) (by omega) (by omega),chk_pos (by omega),chk_pos (by omega),u_shr' (a:=m) (k:=64 - n) (y:=64 - (n:Int)) rfl (by omega) hm,u_shl' (a:=m) (k:=n) (y:=n) rfl rfl]
    have e:m * 2 ^ n / 18446744073709551616 = m / 2 ^ (64 - n):=by
      rw [← pow64,pow_split (show 64 = (64 - n) + n by omega),Nat.mul_div_mul_right _ _ (Nat.two_pow_pos n)]
    rw [e]
noncomputable def sumS (p w:Nat) (mode:Int) (x y:float.number):Int × Int :=
  let low:=min x.e y.e
  let m:=x.m.toNat * 2 ^ (x.e - low).toNat
  let n:=y.m.toNat * 2 ^ (y.e - low).toNat
  if x.sign = y.sign then rndS p w mode x.sign (m + n) low false
  else if m = n then (packS p w (if mode = 2 then 1 else 0) 0 0,0)
  else if n < m then rndS p w mode x.sign (m - n) low false
  else rndS p w mode y.sign (n - m) low false
theorem Add64_eq {x y:Nat}:Bits.Add64 x y 0 = some ((((x + y) % 18446744073709551616:Nat):Int),(((x + y) / 18446744073709551616:Nat):Int)):=by
  unfold Bits.Add64
  rw [chk_pos (by omega)]
  congr 2 <;> omega
theorem Sub64_no {x y c:Nat} {X Y C:Int} (hX:X = x) (hY:Y = y) (hC:C = c) (hx:x < 18446744073709551616) (hy:y < 18446744073709551616) (hc:c ≤ 1) (h:y + c ≤ x):Bits.Sub64 X Y C = some (((x - y - c:Nat):Int),0):=by
  subst hX hY hC
  unfold Bits.Sub64
  rw [chk_pos (by omega),if_neg (by omega)]
  have e:((x:Int) - y - c) = ((x - y - c:Nat):Int):=by omega
  rw [e,Int.emod_eq_of_lt (Int.natCast_nonneg _) (by omega)]
theorem Sub64_bo {x y c:Nat} {X Y C:Int} (hX:X = x) (hY:Y = y) (hC:C = c) (hx:x < 18446744073709551616) (hy:y < 18446744073709551616) (hc:c ≤ 1) (h:x < y + c):Bits.Sub64 X Y C = some (((x + 18446744073709551616 - y - c:Nat):Int),1):=by
  subst hX hY hC
  unfold Bits.Sub64
  rw [chk_pos (by omega),if_pos (by omega)]
  have e:((x:Int) - y - c) = ((x + 18446744073709551616 - y - c:Nat):Int) - 18446744073709551616:=by omega
  rw [e,Int.sub_emod_right,Int.emod_eq_of_lt (Int.natCast_nonneg _) (by omega)]
theorem Sub64_001:Bits.Sub64 0 0 1 = some (18446744073709551615,1):=by
  unfold Bits.Sub64
  rw [chk_pos (by decide)]; rfl
theorem Sub64_0F1:Bits.Sub64 0 18446744073709551615 1 = some (0,1):=by
  unfold Bits.Sub64
  rw [chk_pos (by decide)]; rfl
theorem Sub64_neg {lo n:Nat} {Y:Int} (h:lo < n) (hn:n < 18446744073709551616) (hY:Y = ((lo + 18446744073709551616 - n - 0:Nat):Int)):Bits.Sub64 0 Y 0 = some (((n - lo:Nat):Int),1):=by
  subst hY
  unfold Bits.Sub64
  rw [chk_pos (by omega),if_pos (by omega)]
  have e:((0:Int) - ((lo + 18446744073709551616 - n - 0:Nat):Int) - 0) = ((n - lo:Nat):Int) - 18446744073709551616:=by omega
  rw [e,Int.sub_emod_right,Int.emod_eq_of_lt (Int.natCast_nonneg _) (by omega)]
theorem words_borrow {B hi lo n:Nat} (h:0 < hi) (_h2:lo < n) (hn:n < B):(hi - 1) * B + (lo + B - n) = hi * B + lo - n ∧ n < hi * B + lo:=by
  obtain ⟨k,rfl⟩:∃ k,hi = k + 1:=⟨hi - 1,by omega⟩
  rw [Nat.add_sub_cancel,Nat.add_mul,Nat.one_mul]
  omega
theorem words_plain {B hi lo n:Nat} (h2:n ≤ lo):hi * B + (lo - n) = hi * B + lo - n ∧ n ≤ hi * B + lo:=by omega
theorem sum_j3 {p w:Nat} (h:OkS p w) {mode sign e:Int} {hi lo:Nat} {more:Bool} (a b:Int) (hs:sign = 0 ∨ sign = 1) (h1:hi < 18446744073709551616) (h2:lo < 18446744073709551616)
    (he:-100000 < e) (he2:e < 100000) (hmore:more = true → 2 ^ p ≤ hi * 18446744073709551616 + lo) :
    Flt.shape.sum.j3 mode p w a b e more lo hi sign = some (if hi * 18446744073709551616 + lo = 0 then (packS p w (if mode = 2 then 1 else 0) 0 0,0) else rndS p w mode sign (hi * 18446744073709551616 + lo) e more):=by
  have fin:Flt.shape.sum.j5 mode p w a b e lo hi sign more (decide (hi * 18446744073709551616 + lo = 0)) = some (if hi * 18446744073709551616 + lo = 0 then (packS p w (if mode = 2 then 1 else 0) 0 0,0) else rndS p w mode sign (hi * 18446744073709551616 + lo) e more):=by
    unfold Flt.shape.sum.j5 Flt.shape.sum.j4
    by_cases hc:hi * 18446744073709551616 + lo = 0
    · rw [decide_eq_true hc,if_pos hc]
      simp only [cond,shp_eta,none_eq h,Option.bind_some]
    · rw [decide_eq_false hc,if_neg hc]
      simp only [cond,shp_eta]
      rw [round_eq h hs h1 h2 (by omega) he he2 (fun q=>last_gt (hmore q))]; rfl
  unfold Flt.shape.sum.j3
  simp only [letk]
  rw [show ((hi:Int) == 0) = decide (hi = 0) from beq_nat hi 0,show ((lo:Int) == 0) = decide (lo = 0) from beq_nat lo 0]
  by_cases c1:hi = 0
  · rw [decide_eq_true c1]
    simp only [cond]
    rw [show decide (lo = 0) = decide (hi * 18446744073709551616 + lo = 0) from by rw [c1]; simp]
    exact fin
  · rw [decide_eq_false c1]
    simp only [cond]
    rw [show false = decide (hi * 18446744073709551616 + lo = 0) from by rw [Eq.comm,decide_eq_false_iff_not]; omega]
    exact fin
theorem sum_j2 {p w:Nat} (h:OkS p w) {mode sx sy e:Int} {hi lo n:Nat} {more:Bool} (c1 c2 c3 c4 c5 c6:Int) (hsx:sx = 0 ∨ sx = 1) (hsy:sy = 0 ∨ sy = 1) (h1:hi < 18446744073709551616) (h2:lo < 18446744073709551616) (h3:n < 18446744073709551616)
    (he:-100000 < e) (he2:e < 100000) (hmore:more = true → n + 2 ^ p ≤ hi * 18446744073709551616 + lo) :
    Flt.shape.sum.j2 mode p w c1 sx c2 c3 c4 sy c5 c6 hi lo e more n = some (if hi * 18446744073709551616 + lo = n then (packS p w (if mode = 2 then 1 else 0) 0 0,0) else if n < hi * 18446744073709551616 + lo then rndS p w mode sx (hi * 18446744073709551616 + lo - n) e more else rndS p w mode sy (n - (hi * 18446744073709551616 + lo)) e more):=by
  unfold Flt.shape.sum.j2
  by_cases c1:lo < n
  · simp only [Sub64_bo (X:=lo) (Y:=n) (C:=0) rfl rfl (c:=0) rfl h2 h3 (by decide) (by omega),Option.bind_some,letk]
    by_cases c2:hi = 0
    · subst c2
      rw [show ((0:Nat):Int) = 0 from rfl,Sub64_001]
      simp only [Option.bind_some]
      rw [show ((1:Int) == 1) = true from rfl]
      simp only [cond]
      rw [Sub64_neg c1 h3 rfl]
      simp only [Option.bind_some]
      rw [Sub64_0F1]
      simp only [Option.bind_some]
      have hm0:more = false:=by
        cases more with
        | false=>rfl
        | true=>have:=hmore rfl; have:=Nat.two_pow_pos p; omega
      have:=sum_j3 h (mode:=mode) (hi:=0) (lo:=n - lo) (more:=more) 0 lo hsy (by decide) (by omega) he he2 (by rw [hm0]; intro q; cases q)
      refine Eq.trans this ?_
      rw [Nat.zero_mul,Nat.zero_add,Nat.zero_add,if_neg (by omega),if_neg (by omega),if_neg (by omega)]
    · rw [Sub64_no (X:=hi) (Y:=0) (C:=1) (x:=hi) (y:=0) (c:=1) rfl rfl rfl h1 (by decide) (by decide) (by omega)]
      simp only [Option.bind_some]
      rw [show ((0:Int) == 1) = false from rfl]
      simp only [cond]
      rw [Nat.sub_zero,Nat.sub_zero]
      obtain ⟨eN,eN2⟩:=words_borrow (Nat.pos_of_ne_zero c2) c1 h3
      rw [sum_j3 h _ _ hsx (by omega) (by omega) he he2 (by intro q; have:=hmore q; rw [eN]; omega)]
      rw [eN]
      generalize hi * 18446744073709551616 + lo = N at eN2 ⊢
      rw [if_neg (by omega),if_neg (by omega),if_pos (by omega)]
  · simp only [Sub64_no (X:=lo) (Y:=n) (C:=0) rfl rfl (c:=0) rfl h2 h3 (by decide) (by omega),Option.bind_some,letk]
    rw [Sub64_no (X:=hi) (Y:=0) (C:=0) (x:=hi) (y:=0) (c:=0) rfl rfl rfl h1 (by decide) (by decide) (by omega)]
    simp only [Option.bind_some]
    rw [show ((0:Int) == 1) = false from rfl]
    simp only [cond]
    rw [Nat.sub_zero,Nat.sub_zero,Nat.sub_zero]
    obtain ⟨eN,eN2⟩:=words_plain (B:=18446744073709551616) (hi:=hi) (Nat.le_of_not_lt c1)
    rw [sum_j3 h _ _ hsx (by omega) (by omega) he he2 (by intro q; have:=hmore q; rw [eN]; omega)]
    rw [eN]
    generalize hi * 18446744073709551616 + lo = N at eN2 ⊢
    by_cases c2:N = n
    · rw [if_pos (by omega),if_pos c2]
    · rw [if_neg (by omega),if_neg c2,if_pos (by omega)]
end Go.Q
namespace Go.Q
open Go
set_option maxRecDepth 100000
set_option maxHeartbeats 4000000
theorem words_add {B hi lo n:Nat}:(hi + (lo + n) / B) * B + (lo + n) % B = hi * B + lo + n:=by
  have:=Nat.div_add_mod (lo + n) B
  rw [Nat.add_mul,Nat.mul_comm ((lo + n) / B),Nat.add_assoc,this,Nat.add_assoc]
theorem Add64_zero {x:Nat} (h:x < 18446744073709551616):Bits.Add64 x 0 0 = some ((x:Int),0):=by
  unfold Bits.Add64
  rw [chk_pos (by omega),Int.add_zero,Int.add_zero,Int.emod_eq_of_lt (by omega) (by omega),Int.ediv_eq_zero_of_lt (by omega) (by omega)]
theorem sumS_of {p w:Nat} {mode sx sy ex ey:Int} {m n:Nat} (hxy:ey ≤ ex) (c d:Int):sumS p w mode ⟨c,sx,m,ex⟩ ⟨d,sy,n,ey⟩ =
    (if sx = sy then rndS p w mode sx (m * 2 ^ (ex - ey).toNat + n) ey false
    else if m * 2 ^ (ex - ey).toNat = n then (packS p w (if mode = 2 then 1 else 0) 0 0,0)
    else if n < m * 2 ^ (ex - ey).toNat then rndS p w mode sx (m * 2 ^ (ex - ey).toNat - n) ey false
    else rndS p w mode sy (n - m * 2 ^ (ex - ey).toNat) ey false):=by
  unfold sumS
  simp only
  rw [Int.min_eq_right hxy,Int.sub_self,Int.toNat_natCast,Int.toNat_natCast]
  simp
theorem sumS_comm {p w:Nat} {mode:Int} (x y:float.number):sumS p w mode x y = sumS p w mode y x:=by
  unfold sumS
  simp only
  rw [Int.min_comm]
  generalize x.m.toNat * 2 ^ (x.e - min y.e x.e).toNat = m
  generalize y.m.toNat * 2 ^ (y.e - min y.e x.e).toNat = n
  by_cases hs:x.sign = y.sign
  · rw [if_pos hs,if_pos hs.symm,Nat.add_comm,hs]
  · rw [if_neg hs,if_neg (show ¬ y.sign = x.sign from fun q=>hs q.symm)]
    by_cases h1:m = n
    · rw [if_pos h1,if_pos (show n = m from h1.symm)]
    · rw [if_neg h1,if_neg (show ¬ n = m from fun q=>h1 q.symm)]
      by_cases h2:n < m
      · rw [if_pos h2,if_neg (by omega)]
      · rw [if_neg h2,if_pos (by omega)]
theorem sum_eq {p w:Nat} (h:OkS p w) {mode:Int} {x y:float.number} (hx:NumOk p w x) (hy:NumOk p w y) (cx:x.class_ = 1) (cy:y.class_ = 1) (hxy:y.e ≤ x.e) :
    Flt.shape.sum (shp p w) mode x y = some (sumS p w mode x y):=by
  obtain ⟨h1,h2,h3,h4,h5,h6⟩:=h.facts
  have hb:0 ≤ biasS w ∧ biasS w < 2000:=by rcases h with ⟨rfl,rfl⟩ | ⟨rfl,rfl⟩ | ⟨rfl,rfl⟩ <;> decide
  have hlst:lstS p w = 2 - biasS w - p:=rfl
  obtain ⟨_,hsx,hmx⟩:=hx
  obtain ⟨_,hsy,hmy⟩:=hy
  obtain ⟨m,em,m0,m1,ex0,ex1,mn⟩:=hmx cx
  obtain ⟨n,en,n0,n1,ey0,ey1,nn⟩:=hmy cy
  obtain ⟨cx',sx,mx,ex⟩:=x
  obtain ⟨cy',sy,my,ey⟩:=y
  simp only at cx cy hxy hsx hsy em en ex0 ex1 ey0 ey1 mn nn
  subst em en
  rw [sumS_of hxy]
  have hp53:2 ^ p ≤ 2 ^ 53:=Nat.pow_le_pow_right (by decide) h4
  have hp53':(2:Nat) ^ 53 = 9007199254740992:=by decide
  unfold Flt.shape.sum
  simp only [letk]
  rw [wi (x:=ex - ey) (by omega) (by omega)]
  by_cases hd:ex - ey > 70
  · rw [decide_eq_true hd]
    simp only [cond]
    have hnorm:2 ^ (p - 1) ≤ m:=by
      rcases mn with q | q
      · omega
      · exact q
    unfold Flt.shape.sum.j0
    simp only [letk]
    rw [wi (x:=ex - 70) (by omega) (by omega)]
    have hV:m * 2 ^ 70 < 2 ^ 128:=by
      have:m * 2 ^ 70 < 2 ^ 53 * 2 ^ 70:=Nat.mul_lt_mul_of_pos_right (by omega) (by decide)
      rw [← Nat.pow_add] at this
      exact Nat.lt_of_lt_of_le this (Nat.pow_le_pow_right (by decide) (by decide))
    have eL:=left_eq (m:=m) (n:=70) (by omega) (by decide) hV
    rw [show ((70:Nat):Int) = 70 from rfl] at eL
    rw [eL]
    simp only [Option.bind_some]
    have eW:m * 2 ^ 70 / 18446744073709551616 * 18446744073709551616 + m * 2 ^ 70 % 18446744073709551616 = m * 2 ^ 70:=by
      rw [Nat.mul_comm]; exact Nat.div_add_mod _ _
    have l1:m * 2 ^ 70 / 18446744073709551616 < 18446744073709551616:=by
      rw [Nat.div_lt_iff_lt_mul (by decide)]
      exact hV
    have l2:m * 2 ^ 70 % 18446744073709551616 < 18446744073709551616:=Nat.mod_lt _ (by decide)
    have hbig:2 ^ p + 1 ≤ m * 2 ^ 70:=by
      have a1:2 ^ p = 2 ^ (p - 1) * 2:=by rw [← Nat.pow_succ]; congr 1; omega
      have a2:m * 4 ≤ m * 2 ^ 70:=Nat.mul_le_mul_left _ (by decide)
      have:=Nat.two_pow_pos (p - 1)
      omega
    generalize hhi:m * 2 ^ 70 / 18446744073709551616 = hi at eW l1
    generalize hlo:m * 2 ^ 70 % 18446744073709551616 = lo at eW l2
    have hdd:70 < (ex - ey).toNat:=by omega
    have hVn:n < m * 2 ^ (ex - ey).toNat:=by
      have:m * 1 ≤ m * 2 ^ (ex - ey).toNat:=Nat.mul_le_mul_left _ (Nat.two_pow_pos _)
      have a:m * 2 ^ 70 ≤ m * 2 ^ (ex - ey).toNat:=Nat.mul_le_mul_left _ (Nat.pow_le_pow_right (by decide) (by omega))
      omega
    unfold Flt.shape.sum.j1
    simp only [letk]
    by_cases hs:sx = sy
    · rw [show (sx == sy) = true from by rw [hs]; exact beq_self_eq_true _,if_pos hs]
      simp only [cond]
      rw [Add64_zero l2,Option.bind_some]
      dsimp only
      rw [Int.add_zero,wu (Int.natCast_nonneg hi) (Int.ofNat_lt.2 l1)]
      have er:=round_eq h (mode:=mode) (e:=ex - 70) (more:=true) hsx l1 l2 (by omega) (by omega) (by omega) (fun _=>last_gt (by omega))
      rw [show (⟨(shp p w).p,(shp p w).w⟩:float.shape) = shp p w from rfl,er,eW]
      have:=far_same (w:=w) (mode:=mode) (sign:=sx) (e:=ex) (by omega) hnorm n0 n1 hdd
      rw [show ex - (((ex - ey).toNat:Nat):Int) = ey by omega] at this
      rw [this]
      generalize rndS p w mode sx (m * 2 ^ (ex - ey).toNat + n) ey false = r
      rfl
    · rw [show (sx == sy) = false from beq_eq_false_iff_ne.2 hs,if_neg hs]
      simp only [cond]
      have e2:=sum_j2 h (mode:=mode) (e:=ex - 70) (n:=1) (more:=true) cx' m ex cy' n ey hsx hsy l1 l2 (by decide) (by omega) (by omega) (by intro _; rw [eW]; omega)
      rw [show ((1:Nat):Int) = 1 from rfl] at e2
      refine Eq.trans e2 ?_
      rw [eW,if_neg (by omega),if_pos (by omega),if_neg (by omega),if_pos hVn]
      have:=far_diff (w:=w) (mode:=mode) (sign:=sx) (e:=ex) (by omega) hnorm n0 n1 hdd
      rw [this,show ex - (((ex - ey).toNat:Nat):Int) = ey by omega]
  · rw [decide_eq_false hd]
    simp only [cond]
    obtain ⟨d,hdE⟩:∃ d:Nat,ex - ey = d:=⟨(ex - ey).toNat,by omega⟩
    rw [hdE,Int.toNat_natCast]
    unfold Flt.shape.sum.j0
    simp only [letk]
    rw [wi (x:=ex - d) (by omega) (by omega)]
    have hV:m * 2 ^ d < 2 ^ 124:=by
      have a1:m * 2 ^ d < 2 ^ 53 * 2 ^ d:=Nat.mul_lt_mul_of_pos_right (by omega) (Nat.two_pow_pos _)
      rw [← Nat.pow_add] at a1
      exact Nat.lt_of_lt_of_le a1 (Nat.pow_le_pow_right (by decide) (by omega))
    have h124:(2:Nat) ^ 124 = 1152921504606846976 * 18446744073709551616:=by decide
    have eL:=left_eq (m:=m) (n:=d) (by omega) (by omega) (Nat.lt_of_lt_of_le hV (Nat.pow_le_pow_right (by decide) (by decide)))
    rw [eL]
    simp only [Option.bind_some]
    have eW:m * 2 ^ d / 18446744073709551616 * 18446744073709551616 + m * 2 ^ d % 18446744073709551616 = m * 2 ^ d:=by
      rw [Nat.mul_comm]; exact Nat.div_add_mod _ _
    have l1:m * 2 ^ d / 18446744073709551616 < 1152921504606846976:=by
      rw [Nat.div_lt_iff_lt_mul (by decide),← h124]
      exact hV
    have l2:m * 2 ^ d % 18446744073709551616 < 18446744073709551616:=Nat.mod_lt _ (by decide)
    have hV0:0 < m * 2 ^ d:=Nat.mul_pos m0 (Nat.two_pow_pos _)
    generalize hhi:m * 2 ^ d / 18446744073709551616 = hi at eW l1
    generalize hlo:m * 2 ^ d % 18446744073709551616 = lo at eW l2
    unfold Flt.shape.sum.j1
    simp only [letk]
    rw [show ex - (d:Int) = ey by omega]
    by_cases hs:sx = sy
    · rw [show (sx == sy) = true from by rw [hs]; exact beq_self_eq_true _,if_pos hs]
      simp only [cond]
      rw [Add64_eq (x:=lo) (y:=n)]
      simp only [Option.bind_some]
      have hc:(lo + n) / 18446744073709551616 ≤ 1:=by
        have:(lo + n) / 18446744073709551616 < 2:=by
          rw [Nat.div_lt_iff_lt_mul (by decide)]; omega
        omega
      have eA:=words_add (B:=18446744073709551616) (hi:=hi) (lo:=lo) (n:=n)
      have hr:(lo + n) % 18446744073709551616 < 18446744073709551616:=Nat.mod_lt _ (by decide)
      generalize (lo + n) / 18446744073709551616 = c at hc eA
      generalize (lo + n) % 18446744073709551616 = r at hr eA
      rw [show (hi:Int) + (c:Int) = ((hi + c:Nat):Int) by omega,wu (by omega) (by omega)]
      have er:=round_eq h (mode:=mode) (e:=ey) (more:=false) (hi:=hi + c) (lo:=r) hsx (by omega) hr (by rw [eA,eW]; omega) (by omega) (by omega) (by intro q; cases q)
      rw [show (⟨(shp p w).p,(shp p w).w⟩:float.shape) = shp p w from rfl,er,eA,eW]
      rfl
    · rw [show (sx == sy) = false from beq_eq_false_iff_ne.2 hs,if_neg hs]
      simp only [cond]
      have e2:=sum_j2 h (mode:=mode) (e:=ey) (n:=n) (more:=false) (hi:=hi) (lo:=lo) cx' m ex cy' n ey hsx hsy (by omega) l2 (by omega) (by omega) (by omega) (by intro q; cases q)
      refine Eq.trans e2 ?_
      rw [eW]
end Go.Q
namespace Go.Q
open Go
set_option maxRecDepth 100000
set_option maxHeartbeats 4000000
def quietS (p w:Nat):Int:=packS p w 0 (2 ^ w - 1) (2 ^ (p - 2))
def infS (p w:Nat) (s:Int):Int:=packS p w s (2 ^ w - 1) 0
def zeroS (p w:Nat) (s:Int):Int:=packS p w s 0 0
noncomputable def addS (p w:Nat) (mode:Int) (x y:float.number):Int × Int :=
  if x.class_ = 3 ∨ y.class_ = 3 then (quietS p w,0)
  else if x.class_ = 2 ∧ y.class_ = 2 ∧ x.sign ≠ y.sign then (quietS p w,1)
  else if x.class_ = 2 then (infS p w x.sign,0)
  else if y.class_ = 2 then (infS p w y.sign,0)
  else if x.class_ = 0 ∧ y.class_ = 0 then (zeroS p w (if x.sign = y.sign then x.sign else if mode = 2 then 1 else 0),0)
  else if x.class_ = 0 then rndS p w mode y.sign y.m.toNat y.e false
  else if y.class_ = 0 then rndS p w mode x.sign x.m.toNat x.e false
  else sumS p w mode x y
theorem bind_pair (q:Option (Int × Int)):(Option.bind q fun (a,b)=>some (a,b)) = q:=by cases q <;> rfl
theorem rnd_small {p w:Nat} (h:OkS p w) {mode:Int} {x:float.number} (hx:NumOk p w x) (c:x.class_ = 1) :
    Flt.shape.round (shp p w) mode x.sign ⟨0,x.m,x.e,false⟩ = some (rndS p w mode x.sign x.m.toNat x.e false):=by
  obtain ⟨h1,h2,h3,h4,h5,h6⟩:=h.facts
  have hb:0 ≤ biasS w ∧ biasS w < 2000:=by rcases h with ⟨rfl,rfl⟩ | ⟨rfl,rfl⟩ | ⟨rfl,rfl⟩ <;> decide
  have hlst:lstS p w = 2 - biasS w - p:=rfl
  obtain ⟨m,em,m0,m1,ex0,ex1,mn⟩:=hx.mag c
  have hp63:2 ^ p < 18446744073709551616:=pw_lt (Nat.le_refl _) (by omega)
  have er:=round_eq h (mode:=mode) (e:=x.e) (more:=false) (hi:=0) (lo:=m) hx.sgn (by decide) (by omega) (by omega) (by omega) (by omega) (by intro q; cases q)
  rw [Nat.zero_mul,Nat.zero_add] at er
  rw [em,Int.toNat_natCast]
  exact er
theorem add_eq {p w:Nat} (h:OkS p w) {mode:Int} {x y:float.number} (hx:NumOk p w x) (hy:NumOk p w y):Flt.shape.add (shp p w) mode x y = some (addS p w mode x y):=by
  have fin:Flt.shape.sum (shp p w) = Flt.shape.sum (shp p w):=rfl
  have ex:(⟨x.class_,x.sign,x.m,x.e⟩:float.number) = x:=rfl
  have ey:(⟨y.class_,y.sign,y.m,y.e⟩:float.number) = y:=rfl
  have es:(⟨(shp p w).p,(shp p w).w⟩:float.shape) = shp p w:=rfl
  have j0:x.class_ = 1 → y.class_ = 1 → Flt.shape.add.j0 mode (shp p w).p (shp p w).w x.class_ x.sign x.m x.e y.class_ y.sign y.m y.e = some (sumS p w mode x y):=by
    intro cx cy
    unfold Flt.shape.add.j0 Flt.shape.add.j1
    simp only [letk,es,ex,ey,bind_pair]
    by_cases hc:x.e < y.e
    · rw [decide_eq_true hc]
      simp only [cond]
      rw [sum_eq h hy hx cy cx (by omega),sumS_comm]
    · rw [decide_eq_false hc]
      simp only [cond]
      rw [sum_eq h hx hy cx cy (by omega)]
  unfold addS quietS infS zeroS
  have bq:∀ s:Int,(Flt.shape.infinite (shp p w) x.sign) = some (packS p w x.sign (2 ^ w - 1) 0):=fun _=>infinite_eq h hx.sgn
  rcases hx.cls with cx | cx | cx | cx <;> rcases hy.cls with cy | cy | cy | cy <;>
  · unfold Flt.shape.add Flt.shape.add.j2 Flt.shape.add.j3 Flt.shape.add.j4 Flt.shape.add.j5
    simp only [letk,es,cx,cy,quiet_eq h,infinite_eq h hx.sgn,infinite_eq h hy.sgn,zero_eq h hx.sgn,none_eq h,bind_pair,Option.bind_some]
    first
      | rfl
      | (rw [cx,cy] at j0; exact j0 rfl rfl)
      | (rw [rnd_small h hx cx]; rfl)
      | (rw [rnd_small h hy cy]; rfl)
      | (by_cases hs:x.sign = y.sign
         · simp [hs]
         · simp [hs,show (x.sign == y.sign) = false from beq_eq_false_iff_ne.2 hs,bne])
end Go.Q
namespace Go.Q
open Go
set_option maxRecDepth 100000
set_option maxHeartbeats 4000000
theorem Add_eq {kind mode:Int} {p w:Nat} (h:kindS kind p w) (hm:0 ≤ mode ∧ mode < 4) {a b:Int} (ha:bitsOk p w a) (hb:bitsOk p w b) :
    Flt.Add kind mode a b = some ((addS p w mode (numS p w a) (numS p w b)).1,(addS p w mode (numS p w a) (numS p w b)).2,0):=by
  unfold Flt.Add
  rw [two_eq h hm ha hb,Option.bind_some]
  simp only [letk,Bool.not_true,cond]
  have:=add_eq h.ok (mode:=mode) (numS_ok h.ok a) (numS_ok h.ok b)
  rw [show (⟨(shp p w).p,(shp p w).w⟩:float.shape) = shp p w from rfl,this]
  generalize addS p w mode (numS p w a) (numS p w b) = r
  rfl
def negN (y:float.number):float.number:=⟨y.class_,1 - y.sign,y.m,y.e⟩
theorem negN_ok {p w:Nat} {y:float.number} (h:NumOk p w y):NumOk p w (negN y) :=
  ⟨h.cls,by have:=h.sgn; unfold negN; simp only; omega,h.mag⟩
theorem Sub_eq {kind mode:Int} {p w:Nat} (h:kindS kind p w) (hm:0 ≤ mode ∧ mode < 4) {a b:Int} (ha:bitsOk p w a) (hb:bitsOk p w b) :
    Flt.Sub kind mode a b = some ((addS p w mode (numS p w a) (negN (numS p w b))).1,(addS p w mode (numS p w a) (negN (numS p w b))).2,0):=by
  unfold Flt.Sub
  rw [two_eq h hm ha hb,Option.bind_some]
  simp only [letk,Bool.not_true,cond]
  have:=add_eq h.ok (mode:=mode) (numS_ok h.ok a) (negN_ok (numS_ok h.ok b))
  have hs:=(numS_ok h.ok b).sgn
  rw [wi (x:=1 - (numS p w b).sign) (by omega) (by omega)]
  rw [show (⟨(shp p w).p,(shp p w).w⟩:float.shape) = shp p w from rfl,show (⟨(numS p w b).class_,1 - (numS p w b).sign,(numS p w b).m,(numS p w b).e⟩:float.number) = negN (numS p w b) from rfl,this]
  generalize addS p w mode (numS p w a) (negN (numS p w b)) = r
  rfl
end Go.Q
namespace Go.Q
open Go
set_option maxRecDepth 100000
set_option maxHeartbeats 4000000
def sgnX (a b:Int):Int:=if a = b then 0 else 1
theorem sgnX_ok (a b:Int):sgnX a b = 0 ∨ sgnX a b = 1:=by unfold sgnX; split <;> simp
theorem xor_sgn {a b:Int} (ha:a = 0 ∨ a = 1) (hb:b = 0 ∨ b = 1):IntKind.i64.wrap (((BitVec.ofInt IntKind.i64.bits a ^^^ BitVec.ofInt IntKind.i64.bits b).toNat:Nat):Int) = sgnX a b:=by
  rcases ha with rfl | rfl <;> rcases hb with rfl | rfl <;> decide
noncomputable def mulS (p w:Nat) (mode:Int) (x y:float.number):Int × Int :=
  if x.class_ = 3 ∨ y.class_ = 3 then (quietS p w,0)
  else if (x.class_ = 2 ∧ y.class_ = 0) ∨ (x.class_ = 0 ∧ y.class_ = 2) then (quietS p w,1)
  else if x.class_ = 2 ∨ y.class_ = 2 then (infS p w (sgnX x.sign y.sign),0)
  else if x.class_ = 0 ∨ y.class_ = 0 then (zeroS p w (sgnX x.sign y.sign),0)
  else rndS p w mode (sgnX x.sign y.sign) (x.m.toNat * y.m.toNat) (x.e + y.e) false
theorem Mul64_eq {m n:Nat} (hm:m < 18446744073709551616) (hn:n < 18446744073709551616):Bits.Mul64 m n = some (((m * n / 18446744073709551616:Nat):Int),((m * n % 18446744073709551616:Nat):Int)):=by
  unfold Bits.Mul64
  rw [chk_pos (by omega)]
  rfl
theorem mul_j0 {p w:Nat} (h:OkS p w) {mode sg:Int} (hs:sg = 0 ∨ sg = 1) {x y:float.number} (hx:NumOk p w x) (hy:NumOk p w y) (cx:x.class_ = 1) (cy:y.class_ = 1) :
    Flt.Mul.j0 mode sg (shp p w).p (shp p w).w x.class_ x.sign x.m x.e y.class_ y.sign y.m y.e = some ((rndS p w mode sg (x.m.toNat * y.m.toNat) (x.e + y.e) false).1,(rndS p w mode sg (x.m.toNat * y.m.toNat) (x.e + y.e) false).2,0):=by
  obtain ⟨h1,h2,h3,h4,h5,h6⟩:=h.facts
  have hb:0 ≤ biasS w ∧ biasS w < 2000:=by rcases h with ⟨rfl,rfl⟩ | ⟨rfl,rfl⟩ | ⟨rfl,rfl⟩ <;> decide
  have hlst:lstS p w = 2 - biasS w - p:=rfl
  obtain ⟨m,em,m0,m1,ex0,ex1,mn⟩:=hx.mag cx
  obtain ⟨n,en,n0,n1,ey0,ey1,nn⟩:=hy.mag cy
  have hp63:2 ^ p < 18446744073709551616:=pw_lt (Nat.le_refl _) (by omega)
  unfold Flt.Mul.j0
  rw [em,en,Mul64_eq (by omega) (by omega),Option.bind_some]
  simp only [letk]
  rw [wi (x:=x.e + y.e) (by omega) (by omega)]
  have eW:m * n / 18446744073709551616 * 18446744073709551616 + m * n % 18446744073709551616 = m * n:=by
    rw [Nat.mul_comm]; exact Nat.div_add_mod _ _
  have l1:m * n / 18446744073709551616 < 18446744073709551616:=by
    rw [Nat.div_lt_iff_lt_mul (by decide)]
    exact Nat.mul_lt_mul_of_lt_of_lt (by omega) (by omega)
  have l2:m * n % 18446744073709551616 < 18446744073709551616:=Nat.mod_lt _ (by decide)
  have l3:0 < m * n:=Nat.mul_pos m0 n0
  have er:=round_eq h (mode:=mode) (e:=x.e + y.e) (more:=false) (hi:=m * n / 18446744073709551616) (lo:=m * n % 18446744073709551616) hs l1 l2 (by rw [eW]; exact l3) (by omega) (by omega) (by intro q; cases q)
  rw [show (⟨(shp p w).p,(shp p w).w⟩:float.shape) = shp p w from rfl,er,eW,Int.toNat_natCast,Int.toNat_natCast]
  generalize rndS p w mode sg (m * n) (x.e + y.e) false = r
  rfl
theorem Mul_eq {kind mode:Int} {p w:Nat} (h:kindS kind p w) (hm:0 ≤ mode ∧ mode < 4) {a b:Int} (ha:bitsOk p w a) (hb:bitsOk p w b) :
    Flt.Mul kind mode a b = some ((mulS p w mode (numS p w a) (numS p w b)).1,(mulS p w mode (numS p w a) (numS p w b)).2,0):=by
  unfold Flt.Mul
  rw [two_eq h hm ha hb,Option.bind_some]
  have hx:=numS_ok h.ok a
  have hy:=numS_ok h.ok b
  generalize numS p w a = x at *
  generalize numS p w b = y at *
  have hk:=h.ok
  have es:(⟨(shp p w).p,(shp p w).w⟩:float.shape) = shp p w:=rfl
  have hsg:=sgnX_ok x.sign y.sign
  simp only [letk,Bool.not_true,cond,xor_sgn hx.sgn hy.sgn]
  have j0:=mul_j0 hk (mode:=mode) hsg hx hy
  unfold mulS quietS infS zeroS
  rcases hx.cls with cx | cx | cx | cx <;> rcases hy.cls with cy | cy | cy | cy <;>
  · unfold Flt.Mul.j1 Flt.Mul.j2 Flt.Mul.j3 Flt.Mul.j4
    simp only [es,cx,cy,quiet_eq hk,infinite_eq hk hsg,zero_eq hk hsg,Option.bind_some,letk]
    first
      | rfl
      | (rw [cx,cy] at j0; exact j0 rfl rfl)
end Go.Q
namespace Go.Q
open Go
set_option maxRecDepth 100000
set_option maxHeartbeats 4000000
noncomputable def fromS (p w:Nat) (mode n:Int):Int × Int :=
  if n = 0 then (zeroS p w 0,0) else rndS p w mode (if n < 0 then 1 else 0) n.natAbs 0 false
theorem FromInt_eq {kind mode:Int} {p w:Nat} (h:kindS kind p w) (hm:0 ≤ mode ∧ mode < 4) {n:Int} (hn:-9223372036854775808 ≤ n ∧ n < 9223372036854775808) :
    Flt.FromInt kind mode n = some ((fromS p w mode n).1,(fromS p w mode n).2,0):=by
  have hk:=h.ok
  have es:(⟨(shp p w).p,(shp p w).w⟩:float.shape) = shp p w:=rfl
  unfold Flt.FromInt
  simp only [of_eq h,Option.bind_some,letk,Bool.not_true,cond]
  rw [decide_eq_false (by omega:¬ mode < 0)]
  simp only
  rw [decide_eq_false (by omega:¬ mode ≥ 4)]
  simp only
  unfold Flt.FromInt.j0 fromS zeroS
  simp only [letk,es]
  by_cases c0:n = 0
  · subst c0
    rw [show ((0:Int) == 0) = true from rfl,zero_eq hk (.inl rfl)]; rfl
  · rw [show (n == 0) = false from beq_eq_false_iff_ne.2 c0,if_neg c0]
    simp only [cond]
    by_cases c1:n < 0
    · rw [decide_eq_true c1,if_pos c1]
      simp only
      have e:IntKind.u64.wrap (0 - IntKind.u64.wrap n) = ((n.natAbs:Nat):Int):=by
        show (0 - n % 18446744073709551616) % 18446744073709551616 = _
        omega
      rw [e]
      have er:=round_eq hk (mode:=mode) (sign:=1) (e:=0) (more:=false) (hi:=0) (lo:=n.natAbs) (.inr rfl) (by decide) (by omega) (by omega) (by decide) (by decide) (by intro q; cases q)
      rw [Nat.zero_mul,Nat.zero_add] at er
      rw [show Flt.shape.round (shp p w) mode 1 ⟨0,(n.natAbs:Int),0,false⟩ = _ from er]
      generalize rndS p w mode 1 n.natAbs 0 false = r
      rfl
    · rw [decide_eq_false c1,if_neg c1]
      simp only
      have e:IntKind.u64.wrap n = ((n.natAbs:Nat):Int):=by
        show n % 18446744073709551616 = _
        omega
      rw [e]
      have er:=round_eq hk (mode:=mode) (sign:=0) (e:=0) (more:=false) (hi:=0) (lo:=n.natAbs) (.inl rfl) (by decide) (by omega) (by omega) (by decide) (by decide) (by intro q; cases q)
      rw [Nat.zero_mul,Nat.zero_add] at er
      rw [show Flt.shape.round (shp p w) mode 0 ⟨0,(n.natAbs:Int),0,false⟩ = _ from er]
      generalize rndS p w mode 0 n.natAbs 0 false = r
      rfl
end Go.Q
namespace Go.Q
open Go
set_option maxRecDepth 100000
set_option maxHeartbeats 4000000
theorem rnd_small2 {p w p2 w2:Nat} (h:OkS p w) (h2:OkS p2 w2) {mode:Int} {x:float.number} (hx:NumOk p w x) (c:x.class_ = 1) :
    Flt.shape.round (shp p2 w2) mode x.sign ⟨0,x.m,x.e,false⟩ = some (rndS p2 w2 mode x.sign x.m.toNat x.e false):=by
  obtain ⟨h1,_,h3,h4,h5,h6⟩:=h.facts
  have hb:0 ≤ biasS w ∧ biasS w < 2000:=by rcases h with ⟨rfl,rfl⟩ | ⟨rfl,rfl⟩ | ⟨rfl,rfl⟩ <;> decide
  have hlst:lstS p w = 2 - biasS w - p:=rfl
  obtain ⟨m,em,m0,m1,ex0,ex1,mn⟩:=hx.mag c
  have hp63:2 ^ p < 18446744073709551616:=pw_lt (Nat.le_refl _) (by omega)
  have er:=round_eq h2 (mode:=mode) (e:=x.e) (more:=false) (hi:=0) (lo:=m) hx.sgn (by decide) (by omega) (by omega) (by omega) (by omega) (by intro q; cases q)
  rw [Nat.zero_mul,Nat.zero_add] at er
  rw [em,Int.toNat_natCast]
  exact er
noncomputable def convS (p2 w2:Nat) (mode:Int) (x:float.number):Int × Int :=
  if x.class_ = 3 then (quietS p2 w2,0)
  else if x.class_ = 2 then (infS p2 w2 x.sign,0)
  else if x.class_ = 0 then (zeroS p2 w2 x.sign,0)
  else rndS p2 w2 mode x.sign x.m.toNat x.e false
theorem Convert_eq {k1 k2 mode:Int} {p w p2 w2:Nat} (h:kindS k1 p w) (h2:kindS k2 p2 w2) (hm:0 ≤ mode ∧ mode < 4) {a:Int} (ha:bitsOk p w a) :
    Flt.Convert k1 k2 mode a = some ((convS p2 w2 mode (numS p w a)).1,(convS p2 w2 mode (numS p w a)).2,0):=by
  unfold Flt.Convert
  rw [two_eq h hm ha ha,Option.bind_some]
  have hx:=numS_ok h.ok a
  generalize numS p w a = x at *
  have es:(⟨(shp p2 w2).p,(shp p2 w2).w⟩:float.shape) = shp p2 w2:=rfl
  have ex:(⟨x.class_,x.sign,x.m,x.e⟩:float.number) = x:=rfl
  simp only [of_eq h2,Option.bind_some,letk,Bool.not_true,cond]
  unfold Flt.Convert.j0 convS quietS infS zeroS
  simp only [letk,es]
  rcases hx.cls with cx | cx | cx | cx
  · simp only [cx,zero_eq h2.ok hx.sgn]; rfl
  · have er:=rnd_small2 h.ok h2.ok (mode:=mode) hx cx
    rw [er]
    simp only [cx]
    generalize rndS p2 w2 mode x.sign x.m.toNat x.e false = r
    rfl
  · simp only [cx,infinite_eq h2.ok hx.sgn]; rfl
  · simp only [cx,quiet_eq h2.ok]; rfl
def sizeS (p w:Nat) (a:Int):Nat:=(a % 18446744073709551616).toNat % 2 ^ (p + w - 1)
def placeS (p w:Nat) (a:Int):Int:=if sgnS p w (a % 18446744073709551616).toNat = 1 then -(sizeS p w a:Int) else sizeS p w a
theorem mask_eq {p w:Nat} (h:OkS p w) (a:Int):IntKind.u64.wrap (((BitVec.ofInt IntKind.u64.bits (IntKind.u64.wrap a) &&& BitVec.ofInt IntKind.u64.bits (IntKind.u64.wrap (IntKind.u64.wrap ((1:Int) * 2 ^ (min (((p:Int) + w - 1)).toNat IntKind.u64.bits)) - 1))).toNat:Nat):Int) = (sizeS p w a:Int):=by
  obtain ⟨h1,h2,h3,h4,h5,h6⟩:=h.facts
  obtain ⟨e1,e2⟩:=wrap_toNat a
  have hp:=pw_lt (a:=p + w - 1) (Nat.le_refl _) (by omega)
  have h0:=Nat.two_pow_pos (p + w - 1)
  rw [e1,u_shl' (a:=1) (k:=p + w - 1) (x:=1) rfl (by omega),Nat.one_mul,Nat.mod_eq_of_lt hp]
  rw [wu (x:=((2 ^ (p + w - 1):Nat):Int) - 1) (by omega) (by omega)]
  rw [u_and' (b:=2 ^ (p + w - 1) - 1) rfl (by omega) e2 (by omega),Nat.and_two_pow_sub_one_eq_mod]
  rfl
theorem size_lt {p w:Nat} (h:OkS p w) (a:Int):(sizeS p w a:Int) < 9223372036854775808:=by
  obtain ⟨h1,h2,h3,h4,h5,h6⟩:=h.facts
  have:sizeS p w a < 2 ^ (p + w - 1):=Nat.mod_lt _ (Nat.two_pow_pos _)
  have h2:2 ^ (p + w - 1) ≤ 2 ^ 63:=Nat.pow_le_pow_right (by decide) (by omega)
  have h3:(2:Nat) ^ 63 = 9223372036854775808:=by decide
  omega
theorem place_eq {p w:Nat} (h:OkS p w) (a:Int):Flt.shape.place (shp p w) a = some (placeS p w a):=by
  obtain ⟨h1,h2,h3,h4,h5,h6⟩:=h.facts
  obtain ⟨e1,e2⟩:=wrap_toNat a
  unfold Flt.shape.place
  simp only [letk]
  rw [show (shp p w).p = (p:Int) from rfl,show (shp p w).w = (w:Int) from rfl,wi (x:=(p:Int) + w) (by omega) (by omega),wi (x:=(p:Int) + w - 1) (by omega) (by omega),chk_pos (by omega),chk_pos (by omega)]
  rw [mask_eq h]
  have hs:=size_lt h a
  rw [wi (x:=(sizeS p w a:Int)) (by omega) (by omega),wi (x:=0 - (sizeS p w a:Int)) (by omega) (by omega)]
  rw [e1,u_shr' (a:=(a % 18446744073709551616).toNat) (k:=p + w - 1) (y:=(p:Int) + w - 1) rfl (by omega) e2]
  have hd1:(a % 18446744073709551616).toNat / 2 ^ (p + w - 1) < 18446744073709551616:=Nat.lt_of_le_of_lt (Nat.div_le_self _ _) e2
  rw [u_and' (b:=1) (y:=1) rfl rfl hd1 (by decide),Nat.and_one_is_mod]
  rw [show (a % 18446744073709551616).toNat / 2 ^ (p + w - 1) % 2 = sgnS p w (a % 18446744073709551616).toNat from rfl]
  unfold placeS
  rw [show ((sgnS p w (a % 18446744073709551616).toNat:Int) == 1) = decide (sgnS p w (a % 18446744073709551616).toNat = 1) from beq_nat _ 1]
  by_cases hc:sgnS p w (a % 18446744073709551616).toNat = 1
  · rw [decide_eq_true hc,if_pos hc]
    simp only [cond]
    rw [Int.zero_sub]
  · rw [decide_eq_false hc,if_neg hc]; rfl
def cmpS (p w:Nat) (a b:Int) (x y:float.number):Int :=
  if x.class_ = 3 ∨ y.class_ = 3 then 2 else if x.class_ = 0 ∧ y.class_ = 0 then 0 else if placeS p w a < placeS p w b then -1 else if placeS p w b < placeS p w a then 1 else 0
theorem Compare_eq {kind:Int} {p w:Nat} (h:kindS kind p w) {a b:Int} (ha:bitsOk p w a) (hb:bitsOk p w b) :
    Flt.Compare kind a b = some (cmpS p w a b (numS p w a) (numS p w b),0):=by
  unfold Flt.Compare
  rw [two_eq h (by decide) ha hb,Option.bind_some]
  have hx:=numS_ok h.ok a
  have hy:=numS_ok h.ok b
  generalize numS p w a = x at *
  generalize numS p w b = y at *
  have es:(⟨(shp p w).p,(shp p w).w⟩:float.shape) = shp p w:=rfl
  have j0:Flt.Compare.j0 a b (shp p w) = some (if placeS p w a < placeS p w b then -1 else if placeS p w b < placeS p w a then 1 else 0,0):=by
    unfold Flt.Compare.j0
    simp only [es,place_eq h.ok,Option.bind_some,letk]
    by_cases c1:placeS p w a < placeS p w b
    · rw [decide_eq_true c1,if_pos c1]; rfl
    · rw [decide_eq_false c1,if_neg c1]
      simp only [cond]
      by_cases c2:placeS p w b < placeS p w a
      · rw [decide_eq_true (show placeS p w a > placeS p w b from c2),if_pos c2]
      · rw [decide_eq_false (show ¬ placeS p w a > placeS p w b from c2),if_neg c2]
  simp only [letk,Bool.not_true,cond]
  unfold Flt.Compare.j1 cmpS
  rcases hx.cls with cx | cx | cx | cx <;> rcases hy.cls with cy | cy | cy | cy <;>
  · simp only [cx,cy,letk]
    first
      | rfl
      | exact j0
noncomputable def signS (p w:Nat) (f:Int → Int) (a:Int) (x:float.number):Int :=
  if x.class_ = 3 then quietS p w else IntKind.i64.wrap ((((f x.sign).toNat * 2 ^ (p + w - 1) + sizeS p w a:Nat)):Int)
end Go.Q
