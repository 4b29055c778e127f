import Derived.Test.YtmfhkipeapdfmaaGreatDoorER
import Derived.Test.YtmfhkipeapdfmaaGreatDoorAB
import Derived.Test.YtmfhkipeapdfmaaGreatDoorAC
import Derived.Test.YtmfhkipeapdfmaaGreatDoorDQ
import Derived.Test.YtmfhkipeapdfmaaGreatDoorDR
namespace Go.Q
open Go
set_option maxRecDepth 10000
def fm (p w:Nat):quadratref02.Form:=⟨p,w⟩
theorem fBias {p w:Nat} (h:OkS p w):Ref2.Form.bias (fm p w) = some (biasS w):=by
  rcases h with ⟨rfl,rfl⟩ | ⟨rfl,rfl⟩ | ⟨rfl,rfl⟩ <;> (unfold Ref2.Form.bias; exact letV rfl (chkE (by decide) (letV rfl (letV rfl rfl))))
theorem fTop {p w:Nat} (h:OkS p w):Ref2.Form.top (fm p w) = some ((2 ^ w - 1:Nat):Int):=by
  rcases h with ⟨rfl,rfl⟩ | ⟨rfl,rfl⟩ | ⟨rfl,rfl⟩ <;> (unfold Ref2.Form.top; exact chkE (by decide) (letV rfl (letV rfl rfl)))
theorem FormOf_eq {kind:Int} {p w:Nat} (h:kindS kind p w):Ref2.FormOf kind = some (fm p w,true):=by
  rcases h with ⟨rfl,rfl,rfl⟩ | ⟨rfl,rfl,rfl⟩ | ⟨rfl,rfl,rfl⟩ <;> rfl
theorem FormOf_no {kind:Int} (h:¬ (kind = 2 ∨ kind = 4 ∨ kind = 8)):Ref2.FormOf kind = some (⟨0,0⟩,false):=by
  unfold Ref2.FormOf
  exact letF (beq_false_of_ne (by omega)) (letF (beq_false_of_ne (by omega)) (letF (beq_false_of_ne (by omega)) rfl))
theorem fBits {p w:Nat} (h:OkS p w) {s e f:Nat} (hs:s < 2) (he:e < 2 ^ w) (hf:f < 2 ^ (p - 1)):Ref2.Form.bits (fm p w) (s:Int) (e:Int) (f:Int) = some (packS p w (s:Int) e f):=by
  obtain ⟨a1,a2,a3,a4,a5,_⟩:=h.facts
  have hpw:2 ^ (p + w - 1) = 2 ^ w * 2 ^ (p - 1):=by rw [← Nat.pow_add]; congr 1; omega
  have h64:2 * 2 ^ (p + w - 1) ≤ 18446744073709551616:=by
    rw [show (18446744073709551616:Nat) = 2 ^ 64 by decide,Nat.mul_comm,← Nat.pow_succ]; exact Nat.pow_le_pow_right (by decide) (by omega)
  have hw:2 ^ w ≤ 2 ^ 11:=Nat.pow_le_pow_right (by decide) a5
  have hef:e * 2 ^ (p - 1) + 2 ^ (p - 1) ≤ 2 ^ (p + w - 1):=by rw [hpw]; have:=Nat.mul_le_mul_right (2 ^ (p - 1)) (show e + 1 ≤ 2 ^ w from he); rw [Nat.add_mul,Nat.one_mul] at this; exact this
  have hss:s * 2 ^ (p + w - 1) ≤ 1 * 2 ^ (p + w - 1):=Nat.mul_le_mul_right _ (by omega)
  rw [Nat.one_mul] at hss
  have o1:s * 2 ^ (p + w - 1) ||| e * 2 ^ (p - 1) = s * 2 ^ (p + w - 1) + e * 2 ^ (p - 1):=by
    rw [Nat.or_comm,or_low (s:=p + w - 1) (by have:=Nat.two_pow_pos (p - 1); omega) (Nat.mul_mod_left _ _),Nat.add_comm]
  have o2:(s * 2 ^ (p + w - 1) + e * 2 ^ (p - 1)) ||| f = s * 2 ^ (p + w - 1) + e * 2 ^ (p - 1) + f:=by
    rw [Nat.or_comm,or_low (s:=p - 1) hf,Nat.add_comm]
    rw [hpw,← Nat.mul_assoc,← Nat.add_mul]; exact Nat.mul_mod_left _ _
  unfold Ref2.Form.bits
  refine letV (wL (by omega)) (letV (y:=((p - 1:Nat):Int)) ?_ (letV (y:=((p + w - 1:Nat):Int)) ?_ (chkE (Int.natCast_nonneg _) (letV (y:=((s * 2 ^ (p + w - 1):Nat):Int)) ((u_shl s (p + w - 1)).trans (by rw [Nat.mod_eq_of_lt (by omega)])) (letV (wL (by omega)) (letV (y:=((p - 1:Nat):Int)) ?_ (chkE (Int.natCast_nonneg _)
    (letV (y:=((e * 2 ^ (p - 1):Nat):Int)) ((u_shl e (p - 1)).trans (by rw [Nat.mod_eq_of_lt (by omega)])) (letV (y:=((s * 2 ^ (p + w - 1) + e * 2 ^ (p - 1):Nat):Int)) ((u_or _ _ (by omega) (by omega)).trans (by rw [o1])) (letV (y:=((s * 2 ^ (p + w - 1) + e * 2 ^ (p - 1) + f:Nat):Int)) ((u_or _ _ (by omega) (by omega)).trans (by rw [o2])) (letV rfl rfl)))))))))))
  · show IntKind.i64.wrap ((p:Int) - 1) = _
    rw [wi (by omega) (by omega)]; omega
  · show IntKind.i64.wrap (((p - 1:Nat):Int) + (w:Int)) = _
    rw [wi (by omega) (by omega)]; omega
  · show IntKind.i64.wrap ((p:Int) - 1) = _
    rw [wi (by omega) (by omega)]; omega
theorem ln_bl (v:Nat):lnB 4294967296 v ≤ bl v / 32 + 1:=by
  refine (lnB_iff h32 _ _).1 (Nat.lt_of_lt_of_le (bl_lt v) ?_)
  rw [show (4294967296:Nat) = 2 ^ 32 by decide,← Nat.pow_mul]
  exact Nat.pow_le_pow_right (by decide) (by omega)
theorem rs_zero {t d:Nat}:rsC t d = 0 ↔ t = 0:=by
  unfold rsC
  split
  · omega
  · split
    · omega
    · split <;> omega
theorem aw0 (mode sign:Int) (odd:Bool):awayS mode sign odd 0 = false:=by
  unfold awayS
  split
  · rfl
  · split
    · rfl
    · split <;> rfl
theorem rAway_eq {mode sign:Int} (hm:0 ≤ mode ∧ mode < 4) {odd:Bool} {t d:Nat} (ht:bl t ≤ 100000) (hd:bl d ≤ 100000):Ref2.away mode sign odd (Nt t) (Nt d) = some (awayS mode sign odd (rsC t d)):=by
  have l1:=ln_bl t
  have l2:=ln_bl d
  have lt2:bl (t * 2 ^ 1) ≤ 100001:=by
    rcases Nat.eq_zero_or_pos t with rfl | h
    · rw [Nat.zero_mul,bl_zero]; omega
    · rw [bl_shift h]; omega
  have l3:=ln_bl (t * 2 ^ 1)
  unfold Ref2.away
  rcases Nat.eq_zero_or_pos t with rfl | h0
  · rw [show rsC 0 d = 0 from rfl,show Nt 0 = [] from dgB_zero _]
    refine letV rfl (letT rfl ?_)
    unfold Ref2.away.j1
    rw [aw0]; rfl
  · have hne:rsC t d ≠ 0:=fun e=>by rw [rs_zero] at e; omega
    have hlen:(Nt t).length ≠ 0:=by rw [Nt_len]; have:=lnB_gt h32 h0; omega
    refine letV rfl (letF (beq_false_of_ne (by omega)) ?_)
    have hpos:decide (0 < rsC t d) = true:=decide_eq_true (by omega)
    obtain rfl | rfl | rfl | rfl:mode = 0 ∨ mode = 1 ∨ mode = 2 ∨ mode = 3:=by omega
    · refine letV rfl ?_
      show Ref2.away.j0 (Nt t) (Nt d) odd = _
      unfold Ref2.away.j0
      refine bindE (up_eq (k:=1) (by omega)) (bindE (ncomp_eq _ _ (by omega) (by omega)) ?_)
      rw [Nat.pow_one]
      by_cases c1:2 * t < d
      · have r1:rsC t d = 1:=by unfold rsC; rw [if_neg (by omega),if_pos c1]
        have r2:cmpI (t * 2) d = -1:=by unfold cmpI; rw [if_pos (by omega)]
        rw [r1,r2]; exact letF rfl (letF rfl rfl)
      · by_cases c2:2 * t = d
        · have r1:rsC t d = 2:=by unfold rsC; rw [if_neg (by omega),if_neg c1,if_pos c2]
          have r2:cmpI (t * 2) d = 0:=by unfold cmpI; rw [if_neg (by omega),if_pos (by omega)]
          rw [r1,r2]; exact letF rfl (letT rfl rfl)
        · have r1:rsC t d = 3:=by unfold rsC; rw [if_neg (by omega),if_neg c1,if_neg c2]
          have r2:cmpI (t * 2) d = 1:=by unfold cmpI; rw [if_neg (by omega),if_neg (by omega)]
          rw [r1,r2]; exact letT rfl rfl
    · exact letV rfl rfl
    · refine letV rfl ?_
      show some (sign == (1:Int)) = some (decide (0 < rsC t d) && decide (sign = 1))
      rw [hpos,Bool.true_and]; rfl
    · refine letV rfl ?_
      show some (sign == (0:Int)) = some (decide (0 < rsC t d) && decide (sign = 0))
      rw [hpos,Bool.true_and]; rfl
def ovB (mode sign:Int):Bool:=mode == 1 || (mode == 2 && sign == 0) || (mode == 3 && sign == 1)
def endS (p w:Nat) (mode sign e flags:Int) (n:Nat):Int × Int :=
  if e + p - 1 > biasS w then (bif ovB mode sign then (packS p w sign (2 ^ w - 2) (2 ^ (p - 1) - 1),20) else (packS p w sign (2 ^ w - 1) 0,20))
  else if n < 2 ^ (p - 1) then (packS p w sign 0 n,flags) else (packS p w sign (e + biasS w + p - 1).toNat (n - 2 ^ (p - 1)),flags)
theorem bias_pow {p w:Nat} (h:OkS p w):2 * biasS w + 1 = ((2 ^ w - 1:Nat):Int) ∧ 1 ≤ biasS w ∧ biasS w ≤ 1023 ∧ 31 ≤ 2 ^ w - 1:=by
  rcases h with ⟨rfl,rfl⟩ | ⟨rfl,rfl⟩ | ⟨rfl,rfl⟩ <;> decide
theorem bias_pow2 {p w:Nat} (h:OkS p w):(2:Int) ^ w = 2 * biasS w + 2:=by
  rcases h with ⟨rfl,rfl⟩ | ⟨rfl,rfl⟩ | ⟨rfl,rfl⟩ <;> decide
theorem pow1_u {p w:Nat} (h:OkS p w) (k:Nat) (hk:k ≤ p):IntKind.u64.wrap ((1:Int) * 2 ^ (min ((k:Nat):Int).toNat IntKind.u64.bits)) = ((2 ^ k:Nat):Int):=by
  have h1:2 ^ k < 18446744073709551616:=by
    obtain ⟨_,_,_,a4,_⟩:=h.facts
    rw [show (18446744073709551616:Nat) = 2 ^ 64 by decide]; exact Nat.pow_lt_pow_right (by decide) (by omega)
  have:=u_shl 1 k
  rw [Nat.one_mul,Nat.mod_eq_of_lt h1] at this
  exact this
theorem rr_j5 {p w:Nat} (h:OkS p w) {s:Nat} (hs:s < 2) (X Y:List Int):Ref2.Form.round.j5 p w (s:Int) X Y true = some (packS p w s (2 ^ w - 2) (2 ^ (p - 1) - 1),20) ∧ Ref2.Form.round.j5 p w (s:Int) X Y false = some (packS p w s (2 ^ w - 1) 0,20):=by
  obtain ⟨a1,a2,a3,a4,a5,_⟩:=h.facts
  obtain ⟨b1,b2,b3,b4⟩:=bias_pow h
  have hp1:=Nat.two_pow_pos (p - 1)
  have hp2:2 ^ (p - 1) < 18446744073709551616:=by rw [show (18446744073709551616:Nat) = 2 ^ 64 by decide]; exact Nat.pow_lt_pow_right (by decide) (by omega)
  have hw:2 ^ w ≤ 2 ^ 11:=Nat.pow_le_pow_right (by decide) a5
  constructor
  · unfold Ref2.Form.round.j5
    refine bindE (fTop h) (letV (y:=((2 ^ w - 2:Nat):Int)) ?_ (letV (y:=((p - 1:Nat):Int)) ?_ (chkE (Int.natCast_nonneg _) (letV (pow1_u h (p - 1) (by omega)) (letV (y:=((2 ^ (p - 1) - 1:Nat):Int)) ?_ (bindE (fBits h hs (by omega) (by omega)) rfl))))))
    · rw [wi (by omega) (by omega)]; omega
    · rw [wi (by omega) (by omega)]; omega
    · rw [wu (by omega) (by omega)]; omega
  · show Ref2.Form.round.j4 p w (s:Int) X Y = _
    unfold Ref2.Form.round.j4
    exact bindE (fTop h) (bindE (fBits (f:=0) h hs (by omega) hp1) rfl)
theorem rr_j3 {p w:Nat} (h:OkS p w) {mode:Int} (hm:0 ≤ mode ∧ mode < 4) {s:Nat} (hs:s < 2) {e flags:Int} {n:Nat} {X Y:List Int} (he:lstS p w ≤ e ∧ e ≤ 200000) (hn:n < 2 ^ p) :
    Ref2.Form.round.j3 mode flags p w (s:Int) X Y e n = some (endS p w mode s e flags n):=by
  obtain ⟨a1,a2,a3,a4,a5,_⟩:=h.facts
  obtain ⟨b1,b2,b3,b4⟩:=bias_pow h
  have hlst:lstS p w = 2 - biasS w - p:=rfl
  obtain ⟨j1,j2⟩:=rr_j5 h hs X Y
  have hp1:=Nat.two_pow_pos (p - 1)
  have hpp:2 ^ p = 2 * 2 ^ (p - 1):=by rw [Nat.mul_comm,← Nat.pow_succ]; congr 1; omega
  have hp2:2 ^ (p - 1) < 9223372036854775808:=by rw [show (9223372036854775808:Nat) = 2 ^ 63 by decide]; exact Nat.pow_lt_pow_right (by decide) (by omega)
  unfold Ref2.Form.round.j3 endS
  refine letV (y:=e + p) (wi (by omega) (by omega)) (letV (y:=e + p - 1) (wi (by omega) (by omega)) (bindE (fBias h) ?_))
  by_cases c:e + p - 1 > biasS w
  · rw [if_pos c]
    refine letT (decide_eq_true c) ?_
    obtain rfl | rfl | rfl | rfl:mode = 0 ∨ mode = 1 ∨ mode = 2 ∨ mode = 3:=by omega
    · exact j2
    · exact j1
    · obtain rfl | rfl:s = 0 ∨ s = 1:=by omega
      · exact j1
      · exact j2
    · obtain rfl | rfl:s = 0 ∨ s = 1:=by omega
      · exact j2
      · exact j1
  · rw [if_neg c]
    refine letF (decide_eq_false c) (letV (y:=((p - 1:Nat):Int)) (by rw [wi (by omega) (by omega)]; omega) (chkE (Int.natCast_nonneg _) (letV (pow1_u h (p - 1) (by omega)) ?_)))
    by_cases c2:n < 2 ^ (p - 1)
    · rw [if_pos c2]
      exact letT (decide_eq_true (by omega)) (bindE (fBits (e:=0) h hs (Nat.two_pow_pos w) c2) rfl)
    · rw [if_neg c2]
      refine letF (decide_eq_false (by omega)) (bindE (fBias h) (letV (y:=e + biasS w) (wi (by omega) (by omega)) (letV (y:=e + biasS w + p) (wi (by omega) (by omega)) (letV (y:=(((e + biasS w + p - 1).toNat:Nat):Int)) ?_ (letV (y:=((p - 1:Nat):Int)) ?_ (chkE (Int.natCast_nonneg _) (letV (pow1_u h (p - 1) (by omega)) (letV (y:=((n - 2 ^ (p - 1):Nat):Int)) ?_ (bindE (fBits h hs (by omega) (by omega)) rfl)))))))))
      · rw [wi (by omega) (by omega)]; omega
      · rw [wi (by omega) (by omega)]; omega
      · rw [wu (by omega) (by omega)]; omega
theorem fin_end {p w:Nat} (h:OkS p w) {mode sign e:Int} {q r:Nat} (he:lstS p w ≤ e) (hbl:bl q ≤ p) (hor:bl q = p ∨ e = lstS p w) {n:Nat} (hn:n = if awayS mode sign (decide (q % 2 = 1)) r = true then q + 1 else q) :
    finS p w mode sign (if q = 0 then lstS p w - 1 else e + bl q - 1) e q r =
      endS p w mode sign (if n = 2 ^ p then e + 1 else e) (if 0 < r then (if q < 2 ^ (p - 1) then 24 else 16) else 0) (if n = 2 ^ p then 2 ^ (p - 1) else n):=by
  obtain ⟨a1,a2,a3,a4,a5,_⟩:=h.facts
  obtain ⟨b1,b2,b3,b4⟩:=bias_pow h
  have hlst:lstS p w = 2 - biasS w - p:=rfl
  have hpp:2 ^ p = 2 * 2 ^ (p - 1):=by rw [Nat.mul_comm,← Nat.pow_succ]; congr 1; omega
  have hp1:=Nat.two_pow_pos (p - 1)
  have hq:q < 2 ^ p:=bl_le_iff.1 hbl
  have hqp:bl q = p → 2 ^ (p - 1) ≤ q:=fun hb=>by
    rcases Nat.eq_zero_or_pos q with rfl | h0
    · rw [bl_zero] at hb; omega
    · have:=bl_le h0; rwa [hb] at this
  have hfl:(if q = 0 then lstS p w - 1 else e + bl q - 1) < lstS p w + p - 1 ↔ q < 2 ^ (p - 1):=by
    have hlt:bl q ≤ p - 1 ↔ q < 2 ^ (p - 1):=bl_le_iff
    split
    · rename_i h0; subst h0; exact ⟨fun _=>hp1,fun _=>by omega⟩
    · rcases hor with hb | hb
      · have:=hqp hb
        exact ⟨fun _=>by omega,fun _=>by omega⟩
      · rw [← hlt]; omega
  have hle:q ≤ n ∧ n ≤ q + 1:=by rw [hn]; split <;> omega
  have b5:=bias_pow2 h
  unfold finS endS
  simp only [← hn]
  have e1:(if (if q = 0 then lstS p w - 1 else e + bl q - 1) < lstS p w + p - 1 then (24:Int) else 16) = if q < 2 ^ (p - 1) then 24 else 16:=by
    by_cases c:q < 2 ^ (p - 1)
    · rw [if_pos c,if_pos (hfl.2 c)]
    · rw [if_neg c,if_neg (fun hh=>c (hfl.1 hh))]
  rw [e1]
  generalize (if 0 < r then (if q < 2 ^ (p - 1) then (24:Int) else 16) else 0) = flags
  generalize hm2:(if n = 2 ^ p then 2 ^ (p - 1) else n) = m2
  generalize hl2:(if n = 2 ^ p then e + 1 else e) = l2
  have hlow:m2 < 2 ^ (p - 1) → l2 = lstS p w:=by
    intro hh
    by_cases c:n = 2 ^ p
    · rw [if_pos c] at hm2; omega
    · rw [if_neg c] at hm2 hl2
      rcases hor with hb | hb
      · have:=hqp hb; omega
      · omega
  have hge:lstS p w ≤ l2:=by rw [← hl2]; split <;> omega
  by_cases c1:m2 < 2 ^ (p - 1)
  · have:=hlow c1
    rw [if_pos c1,if_neg (by omega),if_pos c1]
  · rw [if_neg c1]
    have e2:l2 + p - 1 + biasS w = l2 + biasS w + p - 1:=by omega
    by_cases c2:l2 + p - 1 > biasS w
    · rw [if_neg (by omega),if_pos c2]
      have hov:(mode = 1 ∨ mode = 2 ∧ sign = 0 ∨ mode = 3 ∧ sign = 1) ↔ ovB mode sign = true:=by
        unfold ovB
        simp only [Bool.or_eq_true,Bool.and_eq_true,beq_iff_eq,or_assoc]
      by_cases c3:ovB mode sign = true
      · rw [if_pos (hov.2 c3),c3]; rfl
      · rw [if_neg (fun hh=>c3 (hov.1 hh)),Bool.eq_false_iff.2 c3]; rfl
    · rw [if_pos (by omega),if_neg c2,if_neg c1,e2]
theorem rr_j0 {p w:Nat} (h:OkS p w) {mode:Int} (hm:0 ≤ mode ∧ mode < 4) {s:Nat} (hs:s < 2) {e:Int} {q t d:Nat} {X Y:List Int} (he:lstS p w ≤ e) (he2:e ≤ 100000) (hbl:bl q ≤ p) (hor:bl q = p ∨ e = lstS p w) (ht:bl t ≤ 100000) (hd:bl d ≤ 100000) :
    Ref2.Form.round.j0 mode p w (s:Int) X Y e (Nt q) (Nt t) (Nt d) = some (finS p w mode s (if q = 0 then lstS p w - 1 else e + bl q - 1) e q (rsC t d)):=by
  obtain ⟨a1,a2,a3,a4,a5,_⟩:=h.facts
  obtain ⟨b1,b2,b3,b4⟩:=bias_pow h
  have hlst:lstS p w = 2 - biasS w - p:=rfl
  have hp53:2 ^ p ≤ 9007199254740992:=by rw [show (9007199254740992:Nat) = 2 ^ 53 by decide]; exact Nat.pow_le_pow_right (by decide) a4
  have hpp:2 ^ p = 2 * 2 ^ (p - 1):=by rw [Nat.mul_comm,← Nat.pow_succ]; congr 1; omega
  have hp1:=Nat.two_pow_pos (p - 1)
  have hq:q < 2 ^ p:=bl_le_iff.1 hbl
  obtain ⟨n,hn⟩:∃ n,n = if awayS mode s (decide (q % 2 = 1)) (rsC t d) = true then q + 1 else q:=⟨_,rfl⟩
  have hnle:n ≤ q + 1:=by rw [hn]; split <;> omega
  rw [fin_end h he hbl hor hn]
  have hj2:∀ flags,Ref2.Form.round.j2 mode e flags p w (s:Int) X Y n = some (endS p w mode s (if n = 2 ^ p then e + 1 else e) flags (if n = 2 ^ p then 2 ^ (p - 1) else n)):=by
    intro flags
    unfold Ref2.Form.round.j2
    refine chkE (Int.natCast_nonneg _) (letV (pow1_u h p (Nat.le_refl _)) ?_)
    by_cases c:n = 2 ^ p
    · rw [if_pos c,if_pos c]
      refine letT (by rw [c]; exact beq_self_eq_true _) (chkE (by decide) (letV (y:=((2 ^ (p - 1):Nat):Int)) ?_ (letV (wi (by omega) (by omega)) (rr_j3 h hm hs (by omega) (by omega)))))
      rw [Int.tdiv_eq_ediv_of_nonneg (by omega),wu (by omega) (by omega)]; omega
    · rw [if_neg c,if_neg c]
      exact letF (beq_false_of_ne (by omega)) (rr_j3 h hm hs (by omega) (by omega))
  have hj1:∀ flags,Ref2.Form.round.j1 mode e (Nt t) (Nt d) q p w (s:Int) X Y flags = some (endS p w mode s (if n = 2 ^ p then e + 1 else e) flags (if n = 2 ^ p then 2 ^ (p - 1) else n)):=by
    intro flags
    unfold Ref2.Form.round.j1
    have hodd:(((q:Int)).tmod 2 == (1:Int)) = decide (q % 2 = 1):=by
      rw [Int.tmod_eq_emod_of_nonneg (by omega)]
      by_cases c:q % 2 = 1
      · rw [decide_eq_true c]; exact beq_iff_eq.2 (by omega)
      · rw [decide_eq_false c]; exact beq_false_of_ne (by omega)
    refine chkE (by decide) (letV rfl (letV hodd (bindE (rAway_eq hm ht hd) ?_)))
    by_cases c:awayS mode s (decide (q % 2 = 1)) (rsC t d) = true
    · rw [if_pos c] at hn
      rw [c]
      refine letV (y:=(n:Int)) ?_ (hj2 flags)
      rw [wu (by omega) (by omega)]; omega
    · rw [if_neg c] at hn
      rw [Bool.eq_false_iff.2 c,← hn]
      exact hj2 flags
  unfold Ref2.Form.round.j0
  refine bindE (value_eq (by omega)) (letV (y:=((lnB 4294967296 t:Nat):Int)) (by rw [Nt_len]) ?_)
  by_cases c:t = 0
  · have e0:(if 0 < rsC t d then (if q < 2 ^ (p - 1) then (24:Int) else 16) else 0) = 0:=if_neg (by rw [rs_zero.2 c]; omega)
    rw [e0]
    exact letF (decide_eq_false (by rw [c,lnB_zero]; decide)) (hj1 0)
  · have h0:0 < rsC t d:=Nat.pos_of_ne_zero (fun e=>c (rs_zero.1 e))
    have e0:(if 0 < rsC t d then (if q < 2 ^ (p - 1) then (24:Int) else 16) else 0) = if q < 2 ^ (p - 1) then 24 else 16:=if_pos h0
    rw [e0]
    have:=lnB_gt h32 (show 0 < t by omega)
    refine letT (decide_eq_true (by omega)) (letV (y:=((p - 1:Nat):Int)) (by rw [wi (by omega) (by omega)]; omega) (chkE (Int.natCast_nonneg _) (letV (pow1_u h (p - 1) (by omega)) ?_)))
    by_cases c2:q < 2 ^ (p - 1)
    · rw [if_pos c2]; exact letT (decide_eq_true (by omega)) (hj1 24)
    · rw [if_neg c2]; exact letF (decide_eq_false (by omega)) (hj1 16)
theorem fRound {p w:Nat} (h:OkS p w) {mode:Int} (hm:0 ≤ mode ∧ mode < 4) {s:Nat} (hs:s < 2) {num den:Nat} (hn:0 < num) (hd:0 < den) (h1:bl num ≤ 20000) (h2:bl den ≤ 20000) :
    Ref2.Form.round (fm p w) mode ⟨(s:Int),Nt num,Nt den⟩ = some (rndF p w mode s num den):=by
  obtain ⟨a1,a2,a3,a4,a5,_⟩:=h.facts
  obtain ⟨b1,b2,b3,b4⟩:=bias_pow h
  have hlst:lstS p w = 2 - biasS w - p:=rfl
  have l1:=ln_bl num
  have l2:=ln_bl den
  have n1:=bl_pos hn
  have n2:=bl_pos hd
  have at_e:∀ (e:Int),lstS p w ≤ e → (bl num:Int) - bl den - p ≤ e → e ≤ 50000 →
      ∃ q t d:Nat,num * 2 ^ (-e).toNat = (den * 2 ^ e.toNat) * q + t ∧ d = den * 2 ^ e.toNat ∧ t < d ∧ bl t ≤ 100000 ∧ bl d ≤ 100000 ∧
        Ref2.Form.round.s0 mode p w (s:Int) (Nt num) (Nt den) e = (if bl q ≤ p then (Ref2.Form.round.j0 mode p w (s:Int) (Nt num) (Nt den) e (Nt q) (Nt t) (Nt d)).map .inr else some (.inl ((p:Int),(w:Int),(s:Int),Nt num,Nt den,e + 1))):=by
    intro e he he2 he3
    have hd':0 < den * 2 ^ e.toNat:=Nat.mul_pos hd (Nat.two_pow_pos _)
    have hn':0 < num * 2 ^ (-e).toNat:=Nat.mul_pos hn (Nat.two_pow_pos _)
    have bd:bl (den * 2 ^ e.toNat) = bl den + e.toNat:=bl_shift hd
    have bn:bl (num * 2 ^ (-e).toNat) = bl num + (-e).toNat:=bl_shift hn
    have ld:=ln_bl (den * 2 ^ e.toNat)
    have lnn:=ln_bl (num * 2 ^ (-e).toNat)
    have ht:num * 2 ^ (-e).toNat % (den * 2 ^ e.toNat) < den * 2 ^ e.toNat:=Nat.mod_lt _ hd'
    have bt:bl (num * 2 ^ (-e).toNat % (den * 2 ^ e.toNat)) ≤ bl (den * 2 ^ e.toNat):=bl_le_iff.2 (Nat.lt_trans ht (bl_lt _))
    have hq:lnB 4294967296 (num * 2 ^ (-e).toNat / (den * 2 ^ e.toNat)) ≤ 3000:=Nat.le_trans (lnB_mono h32 (Nat.div_le_self _ _)) (by omega)
    refine ⟨num * 2 ^ (-e).toNat / (den * 2 ^ e.toNat),num * 2 ^ (-e).toNat % (den * 2 ^ e.toNat),den * 2 ^ e.toNat,(Nat.div_add_mod _ _).symm,rfl,ht,by omega,by omega,?_⟩
    have hj6:Ref2.Form.round.j6 mode e p w (s:Int) (Nt num) (Nt den) (Nt (den * 2 ^ e.toNat)) (Nt (num * 2 ^ (-e).toNat)) = (if bl (num * 2 ^ (-e).toNat / (den * 2 ^ e.toNat)) ≤ p then (Ref2.Form.round.j0 mode p w (s:Int) (Nt num) (Nt den) e (Nt (num * 2 ^ (-e).toNat / (den * 2 ^ e.toNat))) (Nt (num * 2 ^ (-e).toNat % (den * 2 ^ e.toNat))) (Nt (den * 2 ^ e.toNat))).map .inr else some (.inl ((p:Int),(w:Int),(s:Int),Nt num,Nt den,e + 1))):=by
      unfold Ref2.Form.round.j6
      refine bindE (divide_eq hd' (by omega) (by omega)) (bindE (bits_eq (by omega)) ?_)
      by_cases c:bl (num * 2 ^ (-e).toNat / (den * 2 ^ e.toNat)) ≤ p
      · rw [if_pos c]; exact letT (decide_eq_true (by omega)) rfl
      · rw [if_neg c]; exact letF (decide_eq_false (by omega)) (letV (wi (by omega) (by omega)) rfl)
    unfold Ref2.Form.round.s0
    by_cases c:e < 0
    · have e0:e.toNat = 0:=by omega
      have e1:Nt den = Nt (den * 2 ^ e.toNat):=by rw [e0,Nat.pow_zero,Nat.mul_one]
      have hu:Ref2.up (Nt num) (((-e).toNat:Nat):Int) = some (Nt (num * 2 ^ (-e).toNat)):=up_eq (by omega)
      refine letT (decide_eq_true c) (letV (y:=(((-e).toNat:Nat):Int)) (by rw [wi (by omega) (by omega)]; omega) (bindE hu ?_))
      rw [← hj6,← e1]
    · have e0:(-e).toNat = 0:=by omega
      have e1:Nt num = Nt (num * 2 ^ (-e).toNat):=by rw [e0,Nat.pow_zero,Nat.mul_one]
      have hu:Ref2.up (Nt den) ((e.toNat:Nat):Int) = some (Nt (den * 2 ^ e.toNat)):=up_eq (by omega)
      rw [Int.toNat_of_nonneg (by omega)] at hu
      refine letF (decide_eq_false c) (bindE hu ?_)
      rw [← hj6,← e1]
  have len:∀ (e:Int) (q t d:Nat),num * 2 ^ (-e).toNat = (den * 2 ^ e.toNat) * q + t → d = den * 2 ^ e.toNat → t < d → (q = 0 ∨ (bl q:Int) ≤ bl num - bl den - e + 1) ∧ ((bl num:Int) - bl den - e ≤ bl q):=by
    intro e q t d hq hdd ht
    have bd:bl (den * 2 ^ e.toNat) = bl den + e.toNat:=bl_shift hd
    have bn:bl (num * 2 ^ (-e).toNat) = bl num + (-e).toNat:=bl_shift hn
    rw [← hdd] at hq bd
    have hd0:0 < d:=by omega
    have k1:=bl_lt d
    have k2:=bl_le hd0
    have k3:=bl_lt (num * 2 ^ (-e).toNat)
    have k4:=bl_le (show 0 < num * 2 ^ (-e).toNat from Nat.mul_pos hn (Nat.two_pow_pos _))
    rw [hq] at bn k3 k4
    constructor
    · rcases Nat.eq_zero_or_pos q with rfl | hq0
      · exact .inl rfl
      · have k5:=bl_le hq0
        have:bl d - 1 + (bl q - 1) < bl (d * q + t):=by
          rcases Nat.lt_or_ge (bl d - 1 + (bl q - 1)) (bl (d * q + t)) with hh | hh
          · exact hh
          · have h6:d * q + t < 2 ^ (bl d - 1 + (bl q - 1)):=bl_le_iff.1 hh
            rw [Nat.pow_add] at h6
            have:=Nat.mul_le_mul k2 k5
            omega
        have:=bl_pos hd0
        have:=bl_pos hq0
        exact .inr (by omega)
    · have k5:=bl_lt q
      have h7:d * q + t < d * (q + 1):=by rw [Nat.mul_succ]; omega
      have h8:d * (q + 1) ≤ 2 ^ bl d * 2 ^ bl q:=Nat.mul_le_mul (Nat.le_of_lt k1) k5
      rw [← Nat.pow_add] at h8
      have:bl (d * q + t) ≤ bl d + bl q:=bl_le_iff.2 (by omega)
      omega
  have fin:∀ (e:Int) (q t d:Nat),lstS p w ≤ e → e ≤ 50000 → num * 2 ^ (-e).toNat = (den * 2 ^ e.toNat) * q + t → d = den * 2 ^ e.toNat → t < d → bl t ≤ 100000 → bl d ≤ 100000 → bl q ≤ p → (bl q = p ∨ e = lstS p w) →
      Ref2.Form.round.j0 mode p w (s:Int) (Nt num) (Nt den) e (Nt q) (Nt t) (Nt d) = some (rndF p w mode s num den):=by
    intro e q t d he he2 hq hdd ht bt bd hbl hor
    rw [rr_j0 h hm hs he (by omega) hbl hor bt bd,ref_rnd hd hn hq hdd ht he hbl hor (by omega)]
  unfold Ref2.Form.round
  have hmax:(if (2:Int) - biasS w - p < (bl num:Int) - bl den - p then (bl num:Int) - bl den - p else (2:Int) - biasS w - p) = if lstS p w < (bl num:Int) - bl den - p then (bl num:Int) - bl den - p else lstS p w:=rfl
  refine bindE (fBias h) (letV (wi (by omega) (by omega)) (letV (y:=(2:Int) - biasS w - p) (wi (by show _ ≤ (2:Int) - biasS w - (p:Int); omega) (by show (2:Int) - biasS w - (p:Int) < _; omega)) (bindE (bits_eq (by show lnB 4294967296 num ≤ _; omega)) (bindE (bits_eq (by show lnB 4294967296 den ≤ _; omega)) (letV (wi (by omega) (by omega)) (letV (y:=(bl num:Int) - bl den - p) (wi (by show _ ≤ (bl num:Int) - bl den - (p:Int); omega) (by show (bl num:Int) - bl den - (p:Int) < _; omega)) ?_))))))
  by_cases c:lstS p w ≤ (bl num:Int) - bl den - p
  · refine letV (y:=(bl num:Int) - bl den - p) ?_ ?_
    · split <;> omega
    · obtain ⟨e,he⟩:∃ e:Int,e = (bl num:Int) - bl den - p:=⟨_,rfl⟩
      rw [← he]
      obtain ⟨q,t,d,k1,k2,k3,k4,k5,k6⟩:=at_e e (by omega) (by omega) (by omega)
      obtain ⟨k7,k8⟩:=len e q t d k1 k2 k3
      by_cases cq:bl q ≤ p
      · rw [if_pos cq,fin e q t d (by omega) (by omega) k1 k2 k3 k4 k5 cq (.inl (by omega))] at k6
        exact loopO_end k6
      · rw [if_neg cq] at k6
        refine loopO_next (t:=((p:Int),(w:Int),(s:Int),Nt num,Nt den,e + 1)) k6 ?_
        obtain ⟨q2,t2,d2,m1,m2,m3,m4,m5,m6⟩:=at_e (e + 1) (by omega) (by omega) (by omega)
        obtain ⟨m7,m8⟩:=len (e + 1) q2 t2 d2 m1 m2 m3
        have hq2:2 ^ (p - 1) ≤ q2:=by
          rcases Nat.lt_or_ge q2 (2 ^ (p - 1)) with hlt | hge
          · exfalso
            have x1:2 ^ p ≤ q:=by
              have hq0:0 < q:=by
                rcases Nat.eq_zero_or_pos q with h0 | h0
                · rw [h0,bl_zero] at cq; omega
                · exact h0
              exact Nat.le_trans (Nat.pow_le_pow_right (by decide) (by omega)) (bl_le hq0)
            have x2:d * 2 ^ p ≤ num * 2 ^ (-e).toNat:=by rw [k1,← k2]; exact Nat.le_trans (Nat.mul_le_mul_left d x1) (Nat.le_add_right _ _)
            have x3:num * 2 ^ (-(e + 1)).toNat < d2 * 2 ^ (p - 1):=by
              rw [m1,← m2]
              have:=Nat.mul_le_mul_left d2 (show q2 + 1 ≤ 2 ^ (p - 1) from hlt)
              rw [Nat.mul_succ] at this; omega
            have x4:num * 2 ^ (-e).toNat * 2 ^ (e + 1).toNat = num * 2 ^ (-(e + 1)).toNat * 2 ^ (e.toNat + 1):=by
              rw [Nat.mul_assoc,Nat.mul_assoc,← Nat.pow_add,← Nat.pow_add]; congr 2; omega
            have x5:d * 2 ^ p * 2 ^ (e + 1).toNat = d2 * 2 ^ (p - 1) * 2 ^ (e.toNat + 1):=by
              rw [k2,m2]
              have:den * 2 ^ e.toNat * 2 ^ p * 2 ^ (e + 1).toNat = den * 2 ^ (e.toNat + p + (e + 1).toNat):=by rw [Nat.mul_assoc,Nat.mul_assoc,← Nat.pow_add,← Nat.pow_add]; congr 2; omega
              rw [this]
              have:den * 2 ^ (e + 1).toNat * 2 ^ (p - 1) * 2 ^ (e.toNat + 1) = den * 2 ^ ((e + 1).toNat + (p - 1) + (e.toNat + 1)):=by rw [Nat.mul_assoc,Nat.mul_assoc,← Nat.pow_add,← Nat.pow_add]; congr 2; omega
              rw [this]; congr 2; omega
            have x6:=Nat.mul_le_mul_right (2 ^ (e + 1).toNat) x2
            rw [x4,x5] at x6
            have:=Nat.lt_of_lt_of_le (Nat.mul_lt_mul_of_pos_right x3 (Nat.two_pow_pos (e.toNat + 1))) x6
            omega
          · exact hge
        have hq20:0 < q2:=by have:=Nat.two_pow_pos (p - 1); omega
        have hbl2:p ≤ bl q2:=by
          rcases Nat.lt_or_ge (bl q2) p with hlt | hge
          · have:=bl_le_iff.1 (show bl q2 ≤ p - 1 by omega); omega
          · exact hge
        have hbl3:bl q2 = p:=by omega
        rw [if_pos (by omega),fin (e + 1) q2 t2 d2 (by omega) (by omega) m1 m2 m3 m4 m5 (by omega) (.inl hbl3)] at m6
        exact loopO_end m6
  · refine letV (y:=lstS p w) ?_ ?_
    · split <;> omega
    · obtain ⟨e,he⟩:∃ e:Int,e = lstS p w:=⟨_,rfl⟩
      rw [← he]
      obtain ⟨q,t,d,k1,k2,k3,k4,k5,k6⟩:=at_e e (by omega) (by omega) (by omega)
      obtain ⟨k7,k8⟩:=len e q t d k1 k2 k3
      have cq:bl q ≤ p:=by
        rcases k7 with h0 | h0
        · rw [h0,bl_zero]; omega
        · omega
      rw [if_pos cq,fin e q t d (by omega) (by omega) k1 k2 k3 k4 k5 cq (.inr he)] at k6
      exact loopO_end k6
end Go.Q
namespace Go.Q
open Go
set_option maxRecDepth 10000
theorem frac_len {num den:Nat} (hn:0 < num) (hd:0 < den) {e:Int} {q t d:Nat} (hq:num * 2 ^ (-e).toNat = (den * 2 ^ e.toNat) * q + t) (hdd:d = den * 2 ^ e.toNat) (ht:t < d):(bl num:Int) - bl den - e ≤ bl q:=by
  have bd:bl (den * 2 ^ e.toNat) = bl den + e.toNat:=bl_shift hd
  have bn:bl (num * 2 ^ (-e).toNat) = bl num + (-e).toNat:=bl_shift hn
  rw [← hdd] at hq bd
  have k1:=bl_lt d
  rw [hq] at bn
  have k5:=bl_lt q
  have h7:d * q + t < d * (q + 1):=by rw [Nat.mul_succ]; omega
  have h8:d * (q + 1) ≤ 2 ^ bl d * 2 ^ bl q:=Nat.mul_le_mul (Nat.le_of_lt k1) k5
  rw [← Nat.pow_add] at h8
  have:bl (d * q + t) ≤ bl d + bl q:=bl_le_iff.2 (by omega)
  omega
theorem frac_half2 {num den p:Nat} (hp:0 < p) {e:Int} {q t q2 t2:Nat} (k1:num * 2 ^ (-e).toNat = (den * 2 ^ e.toNat) * q + t) (m1:num * 2 ^ (-(e + 1)).toNat = (den * 2 ^ (e + 1).toNat) * q2 + t2) (ht:t2 < den * 2 ^ (e + 1).toNat) (hq:p < bl q):2 ^ (p - 1) ≤ q2:=by
  rcases Nat.lt_or_ge q2 (2 ^ (p - 1)) with hlt | hge
  · exfalso
    have x1:2 ^ p ≤ q:=by
      have hq0:0 < q:=by
        rcases Nat.eq_zero_or_pos q with h0 | h0
        · rw [h0,bl_zero] at hq; omega
        · exact h0
      exact Nat.le_trans (Nat.pow_le_pow_right (by decide) (by omega)) (bl_le hq0)
    have x2:den * 2 ^ e.toNat * 2 ^ p ≤ num * 2 ^ (-e).toNat:=by rw [k1]; exact Nat.le_trans (Nat.mul_le_mul_left _ x1) (Nat.le_add_right _ _)
    have x3:num * 2 ^ (-(e + 1)).toNat < den * 2 ^ (e + 1).toNat * 2 ^ (p - 1):=by
      rw [m1]
      have:=Nat.mul_le_mul_left (den * 2 ^ (e + 1).toNat) (show q2 + 1 ≤ 2 ^ (p - 1) from hlt)
      rw [Nat.mul_succ] at this; omega
    have x4:num * 2 ^ (-e).toNat * 2 ^ (e + 1).toNat = num * 2 ^ (-(e + 1)).toNat * 2 ^ (e.toNat + 1):=by
      rw [Nat.mul_assoc,Nat.mul_assoc,← Nat.pow_add,← Nat.pow_add]; congr 2; omega
    have x5:den * 2 ^ e.toNat * 2 ^ p * 2 ^ (e + 1).toNat = den * 2 ^ (e + 1).toNat * 2 ^ (p - 1) * 2 ^ (e.toNat + 1):=by
      have y1:den * 2 ^ e.toNat * 2 ^ p * 2 ^ (e + 1).toNat = den * 2 ^ (e.toNat + p + (e + 1).toNat):=by rw [Nat.mul_assoc,Nat.mul_assoc,← Nat.pow_add,← Nat.pow_add]; congr 2; omega
      rw [y1]
      have y2:den * 2 ^ (e + 1).toNat * 2 ^ (p - 1) * 2 ^ (e.toNat + 1) = den * 2 ^ ((e + 1).toNat + (p - 1) + (e.toNat + 1)):=by rw [Nat.mul_assoc,Nat.mul_assoc,← Nat.pow_add,← Nat.pow_add]; congr 2; omega
      rw [y2]; congr 2; omega
    have x6:=Nat.mul_le_mul_right (2 ^ (e + 1).toNat) x2
    rw [x4,x5] at x6
    have:=Nat.lt_of_lt_of_le (Nat.mul_lt_mul_of_pos_right x3 (Nat.two_pow_pos (e.toNat + 1))) x6
    omega
  · exact hge
theorem frac_parts {p w num den:Nat} (hp:0 < p) (hn:0 < num) (hd:0 < den):∃ (e:Int) (q t d:Nat),num * 2 ^ (-e).toNat = (den * 2 ^ e.toNat) * q + t ∧ d = den * 2 ^ e.toNat ∧ t < d ∧ lstS p w ≤ e ∧ bl q ≤ p ∧ (bl q = p ∨ e = lstS p w) ∧ (bl num:Int) - bl den - p ≤ e:=by
  obtain ⟨k,hk,hmin⟩:=least (P:=fun k:Nat=>bl (num * 2 ^ (-(lstS p w + k)).toNat / (den * 2 ^ (lstS p w + k).toNat)) ≤ p) ⟨(lstS p w).natAbs + bl num,by
    have e0:(-(lstS p w + (((lstS p w).natAbs + bl num:Nat):Int))).toNat = 0:=by omega
    have e1:num < den * 2 ^ (lstS p w + (((lstS p w).natAbs + bl num:Nat):Int)).toNat:=by
      have h1:=bl_lt num
      have h2:2 ^ bl num ≤ 2 ^ (lstS p w + (((lstS p w).natAbs + bl num:Nat):Int)).toNat:=Nat.pow_le_pow_right (by decide) (by omega)
      have h3:=Nat.mul_le_mul_right (2 ^ (lstS p w + (((lstS p w).natAbs + bl num:Nat):Int)).toNat) (show 1 ≤ den from hd)
      omega
    show bl (num * 2 ^ (-(lstS p w + (((lstS p w).natAbs + bl num:Nat):Int))).toNat / _) ≤ p
    rw [e0,Nat.pow_zero,Nat.mul_one,Nat.div_eq_of_lt e1,bl_zero]; omega⟩
  have hd':∀ e:Int,0 < den * 2 ^ e.toNat:=fun e=>Nat.mul_pos hd (Nat.two_pow_pos _)
  have hq:=(Nat.div_add_mod (num * 2 ^ (-(lstS p w + k)).toNat) (den * 2 ^ (lstS p w + k).toNat)).symm
  have ht:=Nat.mod_lt (num * 2 ^ (-(lstS p w + k)).toNat) (hd' (lstS p w + k))
  refine ⟨lstS p w + k,_,_,_,hq,rfl,ht,by omega,hk,?_,?_⟩
  · cases k with
    | zero=>exact .inr (by omega)
    | succ m =>
      left
      have hm:=hmin m (by omega)
      have hq1:=(Nat.div_add_mod (num * 2 ^ (-(lstS p w + m)).toNat) (den * 2 ^ (lstS p w + m).toNat)).symm
      have e1:lstS p w + ((m + 1:Nat):Int) = lstS p w + m + 1:=by omega
      rw [e1] at hq ht hk ⊢
      have h1:=frac_half2 hp hq1 hq ht (Nat.lt_of_not_le hm)
      have h2:p ≤ bl (num * 2 ^ (-(lstS p w + m + 1)).toNat / (den * 2 ^ (lstS p w + m + 1).toNat)):=by
        rcases Nat.lt_or_ge (bl (num * 2 ^ (-(lstS p w + m + 1)).toNat / (den * 2 ^ (lstS p w + m + 1).toNat))) p with hlt | hge
        · have:=bl_le_iff.1 (show bl (num * 2 ^ (-(lstS p w + m + 1)).toNat / (den * 2 ^ (lstS p w + m + 1).toNat)) ≤ p - 1 by omega); omega
        · exact hge
      omega
  · have:=frac_len hn hd hq rfl ht
    have hk':bl (num * 2 ^ (-(lstS p w + k)).toNat / (den * 2 ^ (lstS p w + k).toNat)) ≤ p:=hk
    omega
theorem rnd_great {p w:Nat} (h:OkS p w) {mode sign:Int} {num den:Nat} (hn:0 < num) (hd:0 < den) (hg:1100 ≤ (bl num:Int) - bl den) :
    rndF p w mode sign num den = bif ovB mode sign then (packS p w sign (2 ^ w - 2) (2 ^ (p - 1) - 1),20) else (packS p w sign (2 ^ w - 1) 0,20):=by
  obtain ⟨a1,a2,a3,a4,a5,_⟩:=h.facts
  obtain ⟨b1,b2,b3,b4⟩:=bias_pow h
  have hlst:lstS p w = 2 - biasS w - p:=rfl
  obtain ⟨e,q,t,d,h1,h2,h3,h4,h5,h6,h7⟩:=frac_parts (p:=p) (w:=w) (by omega) hn hd
  rw [ref_rnd hd hn h1 h2 h3 h4 h5 h6 (by omega),fin_end h h4 h5 h6 rfl]
  unfold endS
  rw [if_pos]
  split <;> omega
theorem rnd_tiny {p w:Nat} (h:OkS p w) {mode sign:Int} {num den:Nat} (hn:0 < num) (hd:0 < den) {K:Nat} (hK:K = 1100) (hg:num * 2 ^ K < den):rndF p w mode sign num den = finS p w mode sign (lstS p w - 1) (lstS p w) 0 1:=by
  obtain ⟨a1,a2,a3,a4,a5,_⟩:=h.facts
  obtain ⟨b1,b2,b3,b4⟩:=bias_pow h
  have hlst:lstS p w = 2 - biasS w - p:=rfl
  have e0:(lstS p w).toNat = 0:=by omega
  have hlt:2 * (num * 2 ^ (-lstS p w).toNat) < den:=by
    have:2 * (num * 2 ^ (-lstS p w).toNat) = num * 2 ^ ((-lstS p w).toNat + 1):=by rw [Nat.pow_succ,Nat.mul_comm (2 ^ (-lstS p w).toNat) 2,Nat.mul_left_comm]
    rw [this]
    exact Nat.lt_of_le_of_lt (Nat.mul_le_mul_left num (Nat.pow_le_pow_right (by decide) (by omega))) hg
  have hr:rsC (num * 2 ^ (-lstS p w).toNat) den = 1:=by
    unfold rsC
    rw [if_neg (by have:=Nat.mul_pos hn (Nat.two_pow_pos (-lstS p w).toNat); omega),if_pos hlt]
  have:=ref_rnd (p:=p) (w:=w) (mode:=mode) (sign:=sign) (e:=lstS p w) (q:=0) (t:=num * 2 ^ (-lstS p w).toNat) (d:=den) hd hn (by rw [Nat.mul_zero,Nat.zero_add]) (by rw [e0,Nat.pow_zero,Nat.mul_one]) (by omega) (Int.le_refl _) (by rw [bl_zero]; omega) (.inr rfl) (by omega)
  rw [this,hr]; rfl
end Go.Q
namespace Go.Q
open Go
set_option maxRecDepth 10000
theorem loopO_stop [_KN:Know] {σ ρ:Type} {step:σ → Option (σ ⊕ ρ)} {s:σ} {X:Option ρ} (h:step s = X.map .inr):loopO step s = X:=by
  rw [loopO_eq,h]; cases X <;> rfl
theorem isDigit_eq (c:UInt8):Ref2.isDigit (c.toNat:Int) = some (dgQ c):=by
  rw [dgQ_int]
  by_cases h:(c.toNat:Int) ≥ 48
  · rw [decide_eq_true h,Bool.true_and]; exact letT (decide_eq_true h) (letV rfl rfl)
  · rw [decide_eq_false h,Bool.false_and]; exact letF (decide_eq_false h) rfl
theorem beqN (c:UInt8) (n:Nat) (hn:n < 256):(((c.toNat:Nat):Int) == (n:Int)) = (c == UInt8.ofNat n):=by
  rw [Bool.eq_iff_iff,beq_iff_eq,beq_iff_eq]
  constructor
  · intro h; apply UInt8.toNat_inj.1; rw [UInt8.toNat_ofNat_of_lt' hn]; omega
  · rintro rfl; rw [UInt8.toNat_ofNat_of_lt' hn]
theorem cv_u8 {c:UInt8} (h:dgQ c = true):IntKind.u8.wrap ((c.toNat:Int) - 48) = (cv c:Int):=by
  have:=dgQ_b h
  show ((c.toNat:Int) - 48) % 256 = ((c.toNat - 48:Nat):Int)
  omega
theorem bt_at {l a r:BS} {c:UInt8} (h:l = a ++ c :: r):bt (B l) (a.length:Int) = (c.toNat:Int):=by
  subst h
  rw [bt_B _ _ (by rw [List.length_append,List.length_cons]; omega)]
  congr 2
  simp
theorem exp_run {t:BS} (ht:t.length ≤ 1000) (m:Bool):∀ (r a:BS),t = a ++ r → a.all dgQ = true → a.length ≤ 4 →
    Ref2.exponent.l0 (B t) m (vd a:Int) (a.length:Int) = some (if t.all dgQ = true ∧ t.length ≤ 4 then ((if m = true then -(vd t:Int) else (vd t:Int)),decide (t ≠ [])) else (0,false)):=by
  have hsz:(B t).size = t.length:=B_size t
  intro r
  induction r with
  | nil =>
    intro a h1 h2 h3
    rw [List.append_nil] at h1
    subst h1
    rw [if_pos ⟨h2,h3⟩]
    have hv:=vd_lt t h2
    have hv4:10 ^ t.length ≤ 10 ^ 4:=Nat.pow_le_pow_right (by decide) h3
    have hne:(!((B t).toList == (⟨#[]⟩:ByteArray).toList)) = decide (t ≠ []):=by
      rw [nil_eq]; by_cases c:t = [] <;> simp [c]
    unfold Ref2.exponent.l0
    refine loopO_end ?_
    show Ref2.exponent.s0 (B t) m (vd t:Int) (t.length:Int) = _
    unfold Ref2.exponent.s0
    refine letV (y:=(t.length:Int)) (by rw [hsz]) (letF (decide_eq_false (by omega)) (congrArg (Option.map Sum.inr) (?_:_ = some ((if m = true then -(vd t:Int) else (vd t:Int)),decide (t ≠ [])))))
    cases m with
    | true=>exact condT rfl (letV (y:=-(vd t:Int)) (by rw [wi (by omega) (by omega)]; omega) (letV hne rfl))
    | false=>exact condF rfl (letV hne rfl)
  | cons c r ih =>
    intro a h1 h2 h3
    have hb:bt (B t) (a.length:Int) = (c.toNat:Int):=bt_at h1
    have hl:t.length = a.length + (r.length + 1):=by rw [h1,List.length_append,List.length_cons]
    unfold Ref2.exponent.l0
    have hall:t.all dgQ = (dgQ c && r.all dgQ):=by rw [h1,List.all_append,h2,List.all_cons,Bool.true_and]
    cases hd:dgQ c with
    | false =>
      rw [if_neg (by rw [hall,hd]; rintro ⟨h,_⟩; cases h)]
      refine loopO_end ?_
      show Ref2.exponent.s0 (B t) m (vd a:Int) (a.length:Int) = _
      unfold Ref2.exponent.s0
      refine letV (y:=(t.length:Int)) (by rw [hsz]) (letT (decide_eq_true (by omega)) (chkE ⟨Int.natCast_nonneg _,by omega⟩ (letV hb (bindE (isDigit_eq c) ?_))))
      rw [hd]; exact letT rfl rfl
    | true =>
      by_cases h4:a.length = 4
      · rw [if_neg (by rintro ⟨_,h⟩; omega)]
        refine loopO_end ?_
        show Ref2.exponent.s0 (B t) m (vd a:Int) (a.length:Int) = _
        unfold Ref2.exponent.s0
        refine letV (y:=(t.length:Int)) (by rw [hsz]) (letT (decide_eq_true (by omega)) (chkE ⟨Int.natCast_nonneg _,by omega⟩ (letV hb (bindE (isDigit_eq c) ?_))))
        rw [hd]; exact letF rfl (letT (by rw [h4]; rfl) rfl)
      · have hv:=vd_lt a h2
        have hv4:10 ^ a.length ≤ 10 ^ 4:=Nat.pow_le_pow_right (by decide) h3
        have hcv:=cv_lt hd
        have e:vd (a ++ [c]) = 10 * vd a + cv c:=by rw [vd_append]; show vd a * 10 ^ 1 + (10 * 0 + cv c) = _; omega
        have key:=ih (a ++ [c]) (by rw [h1,List.append_assoc]; rfl) (by rw [List.all_append,h2,List.all_cons,hd]; rfl) (by rw [List.length_append]; show a.length + 1 ≤ 4; omega)
        refine loopO_next (t:=(m,((vd (a ++ [c]):Nat):Int),(((a ++ [c]).length:Nat):Int))) ?_ key
        show Ref2.exponent.s0 (B t) m (vd a:Int) (a.length:Int) = _
        unfold Ref2.exponent.s0
        refine letV (y:=(t.length:Int)) (by rw [hsz]) (letT (decide_eq_true (by omega)) (chkE ⟨Int.natCast_nonneg _,by omega⟩ (letV hb (bindE (isDigit_eq c) ?_))))
        rw [hd]
        refine letF rfl (letF (beq_false_of_ne (by omega)) ?_)
        unfold Ref2.exponent.j1
        refine letV (y:=10 * (vd a:Int)) (wi (by omega) (by omega)) (chkE ⟨Int.natCast_nonneg _,by omega⟩ (letV hb (letV (cv_u8 hd) (letV (wi (by omega) (by omega)) (letV (y:=((vd (a ++ [c]):Nat):Int)) ?_ (letV (y:=(((a ++ [c]).length:Nat):Int)) ?_ rfl))))))
        · rw [wi (by omega) (by omega),e]; omega
        · rw [List.length_append,wi (by omega) (by omega)]; rfl
theorem head_sz (c:UInt8) (r:BS):(B (c :: r)).size = r.length + 1 ∧ bt (B (c :: r)) 0 = (c.toNat:Int) ∧ (B (c :: r)).extract (1:Int).toNat (B (c :: r)).size = B r :=
  ⟨B_size _,bt_B (c :: r) 0 (by simp),drop_B (c :: r) 1⟩
theorem rexp_eq {e:BS} (he:e.length ≤ 1000):(exT e = none → ∃ n,-10000 ≤ n ∧ n ≤ 10000 ∧ Ref2.exponent (B e) = some (n,false)) ∧ (∀ n,exT e = some n → -10000 ≤ n ∧ n ≤ 10000 ∧ Ref2.exponent (B e) = some (n,true)):=by
  have go:Ref2.exponent (B e) = Ref2.exponent.l0 (B (if hd 45 e || hd 43 e then e.tail else e)) (hd 45 e) 0 0:=by
    unfold Ref2.exponent
    cases e with
    | nil=>exact letF (by rw [nil_eq]; rfl) rfl
    | cons c r =>
      obtain ⟨h1,h2,h3⟩:=head_sz c r
      refine letT (by rw [nil_eq]; rfl) (chkE (by omega) (letV h2 ?_))
      have e43:=beqN c 43 (by decide)
      have e45:=beqN c 45 (by decide)
      have hh45:hd 45 (c :: r) = (c == 45):=rfl
      have hh43:hd 43 (c :: r) = (c == 43):=rfl
      rw [hh45,hh43]
      cases h43:(c == 43) with
      | true =>
        have hc:c = 43:=beq_iff_eq.1 h43
        subst hc
        refine letT rfl ?_
        unfold Ref2.exponent.j2
        exact condT rfl (chkE (by omega) (letV h2 (letV (y:=false) rfl (chkE (by omega) (letV h3 rfl)))))
      | false =>
        refine letF (e43.trans h43) (chkE (by omega) (letV h2 ?_))
        cases h45:(c == 45) with
        | true =>
          refine letV (e45.trans h45) ?_
          unfold Ref2.exponent.j2
          exact condT rfl (chkE (by omega) (letV h2 (letV (e45.trans h45) (chkE (by omega) (letV h3 rfl)))))
        | false =>
          refine letV (e45.trans h45) ?_
          unfold Ref2.exponent.j2
          exact condF rfl rfl
  have ht:(if hd 45 e || hd 43 e then e.tail else e).length ≤ 1000:=by
    split
    · have:=List.length_tail (l:=e); omega
    · exact he
  have key:=exp_run ht (hd 45 e) (if hd 45 e || hd 43 e then e.tail else e) [] rfl rfl (by decide)
  have key2:Ref2.exponent.l0 (B (if hd 45 e || hd 43 e then e.tail else e)) (hd 45 e) 0 0 = _:=key
  rw [← go] at key2
  rw [key2]
  unfold exT
  simp only
  generalize (if (hd 45 e || hd 43 e) = true then e.tail else e) = t at *
  by_cases c:t = [] ∨ 4 < t.length ∨ t.all dgQ = false
  · rw [if_pos c]
    refine ⟨fun _=>?_,fun n h=>by cases h⟩
    by_cases c2:t.all dgQ = true ∧ t.length ≤ 4
    · have c3:t = []:=by
        rcases c with c | c | c
        · exact c
        · omega
        · rw [c2.1] at c; cases c
      rw [if_pos c2,c3]
      refine ⟨0,by decide,by decide,?_⟩
      cases hd 45 e <;> rfl
    · rw [if_neg c2]; exact ⟨0,by decide,by decide,rfl⟩
  · rw [if_neg c]
    refine ⟨fun h=>(by cases h),fun n h=>?_⟩
    have c2:t.all dgQ = true ∧ t.length ≤ 4:=⟨by cases hh:t.all dgQ with | true=>rfl | false=>exact absurd (.inr (.inr hh)) c,by rcases Nat.lt_or_ge 4 t.length with hh | hh; exact absurd (.inr (.inl hh)) c; exact hh⟩
    have hv:=vd_lt t c2.1
    have hv4:10 ^ t.length ≤ 10 ^ 4:=Nat.pow_le_pow_right (by decide) c2.2
    cases h
    rw [if_pos c2]
    refine ⟨by split <;> omega,by split <;> omega,?_⟩
    rw [decide_eq_true (show t ≠ [] from fun hh=>c (.inl hh))]
def spt (sg:Int) (d:BS) (x:Int) (pt:Bool) (i:Int):Int × ByteArray × Int × ByteArray × Int × ByteArray × Int × ByteArray × Bool × Int:=(0,B [],0,B [],sg,B d,x,B [],pt,i)
theorem rj7 {s a r:BS} {c:UInt8} (hs:s = a ++ c :: r) (hl:s.length ≤ 1000) {sg x:Int} (hx:-1000 ≤ x ∧ x ≤ 1000) {d:BS} (hd:d.length ≤ 1000) {pt:Bool} (hc:dgQ c = true) :
    Ref2.parse.j7 (B s) (a.length:Int) 0 (B []) 0 (B []) sg (B d) x (B []) pt = some (.inl (spt sg (d ++ [c]) (if pt = true then x - 1 else x) pt ((a.length + 1:Nat):Int))):=by
  have hsz:(B s).size = s.length:=B_size s
  have hb:=bt_at hs
  have hlen:s.length = a.length + (r.length + 1):=by rw [hs,List.length_append,List.length_cons]
  have hdg:=dgQ_b hc
  have e46:(((c.toNat:Nat):Int) == 46) = false:=beq_false_of_ne (by omega)
  have hex:(B s).extract a.length (a.length + 1) = B [c]:=by
    rw [← B_L ((B s).extract a.length (a.length + 1))]
    congr 1
    show ((B s).extract a.length (a.length + 1)).data.toList = _
    rw [ByteArray.data_extract,Array.toList_extract,List.extract_eq_take_drop]
    show ((s.drop a.length).take (a.length + 1 - a.length)) = _
    rw [hs,List.drop_left,show a.length + 1 - a.length = 1 by omega]; rfl
  unfold Ref2.parse.j7
  refine chkE ⟨Int.natCast_nonneg _,by omega⟩ (letV hb (letF e46 (letV (iadd a.length 1 (by omega)) (chkE ⟨Int.natCast_nonneg _,by omega,by omega⟩ (letV hex (chkE ?_ (letV (B_app _ _) ?_)))))))
  · rw [B_size,B_size]; show ((d.length + 1:Nat):Int) ≤ _; omega
  · cases pt with
    | true=>exact condT rfl (letV (y:=x - 1) (wi (by omega) (by omega)) (letV (iadd a.length 1 (by omega)) rfl))
    | false=>exact condF rfl (letV (iadd a.length 1 (by omega)) rfl)
theorem rphase2 {s:BS} (hl:s.length ≤ 1000) {sg:Int}:∀ (r a d:BS) (x:Int),s = a ++ r → d.length ≤ a.length → -(a.length:Int) ≤ x ∧ x ≤ 0 →
    Ref2.parse.l0 (B s) 0 (B []) 0 (B []) sg (B d) x (B []) true (a.length:Int) = Ref2.parse.j2 (B s) 0 (B []) 0 (B []) sg (B (d ++ r.takeWhile dgQ)) (x - (r.takeWhile dgQ).length) (B []) ((a.length + (r.takeWhile dgQ).length:Nat):Int):=by
  have hsz:(B s).size = s.length:=B_size s
  intro r
  induction r with
  | nil =>
    intro a d x h1 hd hx
    rw [List.append_nil] at h1
    subst h1
    unfold Ref2.parse.l0
    refine loopO_stop ?_
    show Ref2.parse.s0 (B s) 0 (B []) 0 (B []) sg (B d) x (B []) true (s.length:Int) = _
    unfold Ref2.parse.s0
    rw [show ([]:BS).takeWhile dgQ = [] from rfl,List.append_nil,show x - (([]:BS).length:Int) = x by show x - 0 = x; omega]
    exact letV (y:=(s.length:Int)) (by rw [hsz]) (letF (decide_eq_false (by omega)) rfl)
  | cons c r ih =>
    intro a d x h1 hd hx
    have hb:=bt_at h1
    have hlen:s.length = a.length + (r.length + 1):=by rw [h1,List.length_append,List.length_cons]
    unfold Ref2.parse.l0
    cases hc:dgQ c with
    | true =>
      have key:=ih (a ++ [c]) (d ++ [c]) (x - 1) (by rw [h1,List.append_assoc]; rfl) (by rw [List.length_append,List.length_append]; show d.length + 1 ≤ a.length + 1; omega) (by rw [List.length_append]; show -((a.length + 1:Nat):Int) ≤ _ ∧ _; omega)
      refine loopO_next (t:=spt sg (d ++ [c]) (x - 1) true ((a.length + 1:Nat):Int)) ?_ ?_
      · show Ref2.parse.s0 (B s) 0 (B []) 0 (B []) sg (B d) x (B []) true (a.length:Int) = _
        unfold Ref2.parse.s0
        refine letV (y:=(s.length:Int)) (by rw [hsz]) (letT (decide_eq_true (by omega)) (chkE ⟨Int.natCast_nonneg _,by omega⟩ (letV hb (bindE (isDigit_eq c) ?_))))
        rw [hc]
        exact rj7 h1 hl (by omega) (by omega) hc
      · rw [List.takeWhile_cons,hc]
        have e1:d ++ (if true = true then c :: r.takeWhile dgQ else []) = d ++ [c] ++ r.takeWhile dgQ:=by rw [if_pos rfl,List.append_assoc]; rfl
        have e2:((if true = true then c :: r.takeWhile dgQ else []:BS)).length = (r.takeWhile dgQ).length + 1:=by rw [if_pos rfl]; rfl
        rw [e1,e2]
        have e3:x - (((r.takeWhile dgQ).length + 1:Nat):Int) = x - 1 - ((r.takeWhile dgQ).length:Int):=by omega
        have e4:a.length + ((r.takeWhile dgQ).length + 1) = (a ++ [c]).length + (r.takeWhile dgQ).length:=by rw [List.length_append]; show _ = a.length + 1 + _; omega
        rw [e3,e4,← key]
        rw [List.length_append]; rfl
    | false =>
      refine loopO_stop ?_
      show Ref2.parse.s0 (B s) 0 (B []) 0 (B []) sg (B d) x (B []) true (a.length:Int) = _
      unfold Ref2.parse.s0
      rw [List.takeWhile_cons,hc,if_neg (by decide),List.append_nil,show x - (([]:BS).length:Int) = x by show x - 0 = x; omega]
      refine letV (y:=(s.length:Int)) (by rw [hsz]) (letT (decide_eq_true (by omega)) (chkE ⟨Int.natCast_nonneg _,by omega⟩ (letV hb (bindE (isDigit_eq c) ?_))))
      rw [hc]
      refine chkE ⟨Int.natCast_nonneg _,by omega⟩ (letV hb ?_)
      cases h46:(((c.toNat:Nat):Int) == 46) with
      | true=>exact letT rfl (letF rfl rfl)
      | false=>exact letF rfl rfl
theorem rphase1 {s:BS} (hl:s.length ≤ 1000) {sg:Int}:∀ (r a d:BS),s = a ++ r → d.length ≤ a.length →
    Ref2.parse.l0 (B s) 0 (B []) 0 (B []) sg (B d) 0 (B []) false (a.length:Int) =
      if hd 46 (r.dropWhile dgQ) = true then Ref2.parse.l0 (B s) 0 (B []) 0 (B []) sg (B (d ++ r.takeWhile dgQ)) 0 (B []) true ((a.length + (r.takeWhile dgQ).length + 1:Nat):Int)
      else Ref2.parse.j2 (B s) 0 (B []) 0 (B []) sg (B (d ++ r.takeWhile dgQ)) 0 (B []) ((a.length + (r.takeWhile dgQ).length:Nat):Int):=by
  have hsz:(B s).size = s.length:=B_size s
  intro r
  induction r with
  | nil =>
    intro a d h1 hd0
    rw [List.append_nil] at h1
    subst h1
    rw [if_neg (by decide)]
    unfold Ref2.parse.l0
    refine loopO_stop ?_
    show Ref2.parse.s0 (B s) 0 (B []) 0 (B []) sg (B d) 0 (B []) false (s.length:Int) = _
    unfold Ref2.parse.s0
    rw [show ([]:BS).takeWhile dgQ = [] from rfl,List.append_nil]
    exact letV (y:=(s.length:Int)) (by rw [hsz]) (letF (decide_eq_false (by omega)) rfl)
  | cons c r ih =>
    intro a d h1 hd0
    have hb:=bt_at h1
    have hlen:s.length = a.length + (r.length + 1):=by rw [h1,List.length_append,List.length_cons]
    cases hc:dgQ c with
    | true =>
      have key:=ih (a ++ [c]) (d ++ [c]) (by rw [h1,List.append_assoc]; rfl) (by rw [List.length_append,List.length_append]; show d.length + 1 ≤ a.length + 1; omega)
      have e0:Ref2.parse.l0 (B s) 0 (B []) 0 (B []) sg (B d) 0 (B []) false (a.length:Int) = Ref2.parse.l0 (B s) 0 (B []) 0 (B []) sg (B (d ++ [c])) 0 (B []) false ((a ++ [c]).length:Int):=by
        show loopO _ _ = _
        refine loopO_next (t:=spt sg (d ++ [c]) 0 false ((a.length + 1:Nat):Int)) ?_ ?_
        · show Ref2.parse.s0 (B s) 0 (B []) 0 (B []) sg (B d) 0 (B []) false (a.length:Int) = _
          unfold Ref2.parse.s0
          refine letV (y:=(s.length:Int)) (by rw [hsz]) (letT (decide_eq_true (by omega)) (chkE ⟨Int.natCast_nonneg _,by omega⟩ (letV hb (bindE (isDigit_eq c) ?_))))
          rw [hc]
          exact rj7 h1 hl (by omega) (by omega) hc
        · rw [List.length_append]; rfl
      rw [e0,key,List.takeWhile_cons,List.dropWhile_cons,hc,if_pos rfl,if_pos rfl,List.append_assoc,List.length_append]
      have e4:a.length + (c :: r.takeWhile dgQ).length = a.length + [c].length + (r.takeWhile dgQ).length:=by rw [List.length_cons]; show _ = a.length + 1 + _; omega
      rw [e4]; rfl
    | false =>
      have w1:(c :: r).takeWhile dgQ = []:=by rw [List.takeWhile_cons,hc]; rfl
      have w2:(c :: r).dropWhile dgQ = c :: r:=by rw [List.dropWhile_cons,hc]; rfl
      rw [w1,w2,List.append_nil]
      have e46:=beqN c 46 (by decide)
      have hst:Ref2.parse.s0 (B s) 0 (B []) 0 (B []) sg (B d) 0 (B []) false (a.length:Int) = if (c == 46) = true then some (.inl (spt sg d 0 true ((a.length + 1:Nat):Int))) else (Ref2.parse.j2 (B s) 0 (B []) 0 (B []) sg (B d) 0 (B []) (a.length:Int)).map .inr:=by
        unfold Ref2.parse.s0
        refine letV (y:=(s.length:Int)) (by rw [hsz]) (letT (decide_eq_true (by omega)) (chkE ⟨Int.natCast_nonneg _,by omega⟩ (letV hb (bindE (isDigit_eq c) ?_))))
        rw [hc]
        refine chkE ⟨Int.natCast_nonneg _,by omega⟩ (letV hb ?_)
        cases h46:(c == 46) with
        | true =>
          refine letT (e46.trans h46) (letT rfl ?_)
          unfold Ref2.parse.j7
          exact chkE ⟨Int.natCast_nonneg _,by omega⟩ (letV hb (letT (e46.trans h46) (letV (iadd a.length 1 (by omega)) rfl)))
        | false=>exact letF (e46.trans h46) rfl
      show loopO _ _ = _
      have hh:hd 46 (c :: r) = (c == 46):=rfl
      rw [hh]
      cases h46:(c == 46) with
      | true =>
        rw [h46,if_pos rfl] at hst
        rw [if_pos rfl]
        exact loopO_next (t:=spt sg d 0 true ((a.length + 1:Nat):Int)) hst rfl
      | false =>
        rw [h46,if_neg (by decide)] at hst
        rw [if_neg (by decide)]
        exact loopO_stop hst
end Go.Q
namespace Go.Q
open Go
set_option maxRecDepth 10000
theorem rj3 {s a r:BS} (hs:s = a ++ r) (hl:s.length ≤ 1000) {sg x:Int} (hx:-1000 ≤ x ∧ x ≤ 1000) {d:BS} :
    (∀ n,tlT r = some n → Ref2.parse.j3 (B s) (a.length:Int) 0 (B []) 0 (B []) sg (B d) x (B []) = some (⟨sg,B d,x + n,B []⟩,true)) ∧
    (tlT r = none → ∃ q,Ref2.parse.j3 (B s) (a.length:Int) 0 (B []) 0 (B []) sg (B d) x (B []) = some (q,false)):=by
  have hsz:(B s).size = s.length:=B_size s
  cases r with
  | nil =>
    rw [List.append_nil] at hs
    subst hs
    refine ⟨fun n h=>?_,fun h=>(by cases h)⟩
    cases h
    unfold Ref2.parse.j3
    rw [show x + 0 = x by omega]
    exact letV (y:=(s.length:Int)) (by rw [hsz]) (letT (beq_self_eq_true _) rfl)
  | cons c e =>
    have hb:=bt_at hs
    have hlen:s.length = a.length + (e.length + 1):=by rw [hs,List.length_append,List.length_cons]
    have hdr:(B s).extract (a.length + 1) (B s).size = B e:=by
      rw [drop_B,hs,show a ++ c :: e = (a ++ [c]) ++ e by rw [List.append_assoc]; rfl,show a.length + 1 = (a ++ [c]).length by rw [List.length_append]; rfl,List.drop_left]
    have hj:∀ X,Ref2.parse.j5 (B s) (a.length:Int) 0 (B []) 0 (B []) sg (B d) x (B []) (!isE c) = X → Ref2.parse.j3 (B s) (a.length:Int) 0 (B []) 0 (B []) sg (B d) x (B []) = X:=by
      intro X hX
      unfold Ref2.parse.j3
      refine letV (y:=(s.length:Int)) (by rw [hsz]) (letF (beq_false_of_ne (by omega)) (chkE ⟨Int.natCast_nonneg _,by omega⟩ (letV hb ?_)))
      have e1:((c.toNat:Int) != 101) = !(c == 101):=congrArg not (beqN c 101 (by decide))
      have e2:((c.toNat:Int) != 69) = !(c == 69):=congrArg not (beqN c 69 (by decide))
      have e3:((c.toNat:Int) != 100) = !(c == 100):=congrArg not (beqN c 100 (by decide))
      have e4:((c.toNat:Int) != 68) = !(c == 68):=congrArg not (beqN c 68 (by decide))
      have hE:isE c = (c == 101 || c == 69 || c == 100 || c == 68):=rfl
      rw [hE] at hX
      cases h1:(c == 101) with
      | true=>rw [h1] at hX; exact letF (e1.trans (by rw [h1]; rfl)) hX
      | false =>
        rw [h1] at hX
        refine letT (e1.trans (by rw [h1]; rfl)) ?_
        cases h2:(c == 69) with
        | true=>rw [h2] at hX; exact letF (e2.trans (by rw [h2]; rfl)) hX
        | false =>
          rw [h2] at hX
          refine letT (e2.trans (by rw [h2]; rfl)) ?_
          cases h3:(c == 100) with
          | true=>rw [h3] at hX; exact letF (e3.trans (by rw [h3]; rfl)) hX
          | false =>
            rw [h3] at hX
            exact letT (e3.trans (by rw [h3]; rfl)) (letV e4 hX)
    obtain ⟨x1,x2⟩:=rexp_eq (e:=e) (by omega)
    have hj4:∀ n b,-10000 ≤ n ∧ n ≤ 10000 → Ref2.exponent (B e) = some (n,b) → Ref2.parse.j4 (B s) (a.length:Int) 0 (B []) 0 (B []) sg (B d) x (B []) = some (⟨sg,B d,x + n,B []⟩,b):=by
      intro n b hn hh
      unfold Ref2.parse.j4
      exact letV (iadd a.length 1 (by omega)) (chkE ⟨Int.natCast_nonneg _,by omega⟩ (letV hdr (bindE hh (letV (wi (by omega) (by omega)) rfl))))
    cases hE:isE c with
    | false =>
      have ht:tlT (c :: e) = none:=by show (if isE c = true then exT e else none) = none; rw [hE]; rfl
      refine ⟨fun n h=>(by rw [ht] at h; cases h),fun _=>⟨_,hj _ (by rw [hE]; rfl)⟩⟩
    | true =>
      have ht:tlT (c :: e) = exT e:=by show (if isE c = true then exT e else none) = _; rw [hE]; rfl
      rw [ht]
      have h5:∀ X,Ref2.parse.j4 (B s) (a.length:Int) 0 (B []) 0 (B []) sg (B d) x (B []) = X → Ref2.parse.j3 (B s) (a.length:Int) 0 (B []) 0 (B []) sg (B d) x (B []) = X:=fun X hX=>hj X (by rw [hE]; exact hX)
      refine ⟨fun n h=>?_,fun h=>?_⟩
      · obtain ⟨n1,n2,n3⟩:=x2 n h
        exact h5 _ (hj4 n true ⟨n1,n2⟩ n3)
      · obtain ⟨n,n1,n2,n3⟩:=x1 h
        exact ⟨_,h5 _ (hj4 n false ⟨n1,n2⟩ n3)⟩
theorem rj2 {s a r:BS} (hs:s = a ++ r) (hl:s.length ≤ 1000) {sg x:Int} (hx:-1000 ≤ x ∧ x ≤ 1000) {d:BS} (hd:d.length ≤ 1000) :
    (∀ n,¬ (d = [] ∨ 60 < d.length) → tlT r = some n → Ref2.parse.j2 (B s) 0 (B []) 0 (B []) sg (B d) x (B []) (a.length:Int) = some (⟨sg,B d,x + n,B []⟩,true)) ∧
    ((d = [] ∨ 60 < d.length) ∨ tlT r = none → ∃ q,Ref2.parse.j2 (B s) 0 (B []) 0 (B []) sg (B d) x (B []) (a.length:Int) = some (q,false)):=by
  have hds:(B d).size = d.length:=B_size d
  obtain ⟨h1,h2⟩:=rj3 hs hl hx (sg:=sg) (d:=d)
  have go:∀ X,¬ (d = [] ∨ 60 < d.length) → Ref2.parse.j3 (B s) (a.length:Int) 0 (B []) 0 (B []) sg (B d) x (B []) = X → Ref2.parse.j2 (B s) 0 (B []) 0 (B []) sg (B d) x (B []) (a.length:Int) = X:=by
    intro X hc hX
    have:d.length ≠ 0:=fun h=>hc (.inl (List.length_eq_zero_iff.1 h))
    have:¬ 60 < d.length:=fun h=>hc (.inr h)
    unfold Ref2.parse.j2
    exact letV (y:=(d.length:Int)) (by rw [hds]) (letF (beq_false_of_ne (by omega)) (letV (y:=(d.length:Int)) (by rw [hds]) (letV (decide_eq_false (by omega)) hX)))
  refine ⟨fun n hc ht=>go _ hc (h1 n ht),fun h=>?_⟩
  by_cases hc:d = [] ∨ 60 < d.length
  · rcases hc with rfl | hc
    · exact ⟨_,rfl⟩
    · refine ⟨_,(?_:_ = some (⟨0,⟨#[]⟩,0,⟨#[]⟩⟩,false))⟩
      unfold Ref2.parse.j2
      exact letV (y:=(d.length:Int)) (by rw [hds]) (letF (beq_false_of_ne (by omega)) (letV (y:=(d.length:Int)) (by rw [hds]) (letV (decide_eq_true (by omega)) rfl)))
  · obtain ⟨q,hq⟩:=h2 (h.resolve_left hc)
    exact ⟨q,go _ hc hq⟩
theorem rj1 {s:BS} (hl:s.length ≤ 1000) (sg:Int) :
    (∀ d x,dgT s = some (d,x) → Ref2.parse.j1 (B s) 0 (B []) 0 (B []) sg (B []) 0 (B []) = some (⟨sg,B d,x,B []⟩,true)) ∧ (dgT s = none → ∃ q,Ref2.parse.j1 (B s) 0 (B []) 0 (B []) sg (B []) 0 (B []) = some (q,false)):=by
  have hsp:s = s.takeWhile dgQ ++ s.dropWhile dgQ:=(List.takeWhile_append_dropWhile).symm
  have hl1:(s.takeWhile dgQ).length + (s.dropWhile dgQ).length = s.length:=by rw [← List.length_append,← hsp]
  have p1:=rphase1 hl (sg:=sg) s [] [] rfl (Nat.le_refl _)
  obtain ⟨A,r,bh,ha,hr,hnm,hbl⟩:∃ (a r bh:BS),s = a ++ r ∧ Ref2.parse.j1 (B s) 0 (B []) 0 (B []) sg (B []) 0 (B []) = Ref2.parse.j2 (B s) 0 (B []) 0 (B []) sg (B (s.takeWhile dgQ ++ bh)) (-(bh.length:Int)) (B []) (a.length:Int) ∧ nmT s = (s.takeWhile dgQ,bh,r) ∧ (s.takeWhile dgQ).length + bh.length ≤ s.length:=by
    have hn:=nmT_of s
    by_cases h46:hd 46 (s.dropWhile dgQ) = true
    · rw [if_pos h46] at hn p1
      cases hdw:s.dropWhile dgQ with
      | nil=>rw [hdw] at h46; cases h46
      | cons c q =>
        rw [hdw] at hn hsp hl1
        rw [List.length_cons] at hl1
        have hq:q = q.takeWhile dgQ ++ q.dropWhile dgQ:=(List.takeWhile_append_dropWhile).symm
        have hq2:(q.takeWhile dgQ).length + (q.dropWhile dgQ).length = q.length:=by rw [← List.length_append,← hq]
        have p2:=rphase2 hl (sg:=sg) q (s.takeWhile dgQ ++ [c]) (s.takeWhile dgQ) 0 (by rw [List.append_assoc]; exact hsp) (by rw [List.length_append]; omega) (by omega)
        refine ⟨s.takeWhile dgQ ++ [c] ++ q.takeWhile dgQ,q.dropWhile dgQ,q.takeWhile dgQ,?_,?_,hn,by omega⟩
        · rw [List.append_assoc,List.append_assoc,← hq]; exact hsp
        · show Ref2.parse.l0 (B s) 0 (B []) 0 (B []) sg (B []) 0 (B []) false 0 = _
          refine p1.trans ?_
          have e1:((([]:BS).length + (s.takeWhile dgQ).length + 1:Nat):Int) = ((s.takeWhile dgQ ++ [c]).length:Int):=by rw [List.length_append,List.length_nil,Nat.zero_add]; rfl
          rw [e1,List.nil_append,p2]
          have e2:(0:Int) - ((q.takeWhile dgQ).length:Int) = -((q.takeWhile dgQ).length:Int):=by omega
          have e3:(s.takeWhile dgQ ++ [c] ++ q.takeWhile dgQ).length = (s.takeWhile dgQ ++ [c]).length + (q.takeWhile dgQ).length:=List.length_append
          rw [e2,e3]
    · rw [if_neg h46] at hn p1
      refine ⟨s.takeWhile dgQ,s.dropWhile dgQ,[],hsp,?_,hn,by show _ + 0 ≤ _; omega⟩
      show Ref2.parse.l0 (B s) 0 (B []) 0 (B []) sg (B []) 0 (B []) false 0 = _
      refine p1.trans ?_
      rw [List.append_nil,List.nil_append,List.length_nil,Nat.zero_add]; rfl
  obtain ⟨h1,h2⟩:=rj2 (sg:=sg) (x:=-(bh.length:Int)) (d:=s.takeWhile dgQ ++ bh) ha hl (by omega) (by rw [List.length_append]; omega)
  have hdg:=dgT_eq s
  rw [hnm] at hdg
  simp only at hdg
  rw [hr]
  by_cases c:s.takeWhile dgQ ++ bh = [] ∨ 60 < (s.takeWhile dgQ ++ bh).length
  · rw [if_pos c] at hdg
    exact ⟨fun d x h=>(by rw [hdg] at h; cases h),fun _=>h2 (.inl c)⟩
  · rw [if_neg c] at hdg
    refine ⟨fun d x h=>?_,fun h=>?_⟩
    · rw [hdg] at h
      cases ht:tlT r with
      | none=>rw [ht] at h; cases h
      | some n =>
        rw [ht] at h
        cases h
        rw [h1 n c ht,show -(bh.length:Int) + n = n - (bh.length:Int) by omega]
    · rw [hdg,Option.map_eq_none_iff] at h
      exact h2 (.inr h)
theorem rparse_eq {l:BS} (hl:l.length ≤ 1000) :
    (prsS l = none → ∃ q,Ref2.parse (B l) = some (q,false)) ∧ (∀ sg w,prsS l = some (.word sg w) → Ref2.parse (B l) = some (⟨sg,B [],0,B w⟩,true)) ∧
    (∀ sg d x,prsS l = some (.num sg d x) → Ref2.parse (B l) = some (⟨sg,B d,x,B []⟩,true)):=by
  have hu:(untD l).length ≤ 1000:=by
    unfold untD; split
    · have:=List.length_tail (l:=l); omega
    · exact hl
  have go:Ref2.parse (B l) = Ref2.parse.j0 (B (untD l)) 0 (B []) 0 (B []) (sgnD l) (B []) 0 (B []):=by
    unfold Ref2.parse
    cases l with
    | nil=>exact letF (by rw [nil_eq]; rfl) rfl
    | cons c r =>
      obtain ⟨h1,h2,h3⟩:=head_sz c r
      refine letT (by rw [nil_eq]; rfl) (chkE (by omega) (letV h2 ?_))
      have e43:=beqN c 43 (by decide)
      have e45:=beqN c 45 (by decide)
      have hun:untD (c :: r) = if (c == 45 || c == 43) = true then r else c :: r:=rfl
      have hsg:sgnD (c :: r) = if (c == 45) = true then 1 else 0:=rfl
      rw [hun,hsg]
      cases h43:(c == 43) with
      | true =>
        have hc:c = 43:=beq_iff_eq.1 h43
        subst hc
        refine letT rfl ?_
        unfold Ref2.parse.j9
        exact condT rfl (chkE (by omega) (letV h2 (letF rfl (chkE (by omega) (letV h3 rfl)))))
      | false =>
        refine letF (e43.trans h43) (chkE (by omega) (letV h2 ?_))
        cases h45:(c == 45) with
        | true =>
          refine letV (e45.trans h45) ?_
          unfold Ref2.parse.j9
          exact condT rfl (chkE (by omega) (letV h2 (letT (e45.trans h45) (chkE (by omega) (letV h3 rfl)))))
        | false =>
          refine letV (e45.trans h45) ?_
          unfold Ref2.parse.j9
          exact condF rfl rfl
  rw [go]
  unfold prsS
  by_cases c:untD l = infB ∨ untD l = nanB
  · rw [if_pos c]
    refine ⟨fun h=>(by cases h),fun sg w h=>?_,fun sg d x h=>(by cases h)⟩
    cases h
    unfold Ref2.parse.j0
    by_cases hi:untD l = infB
    · exact letT (by rw [show (⟨#[105,110,102]⟩:ByteArray) = B infB from rfl,eqB]; exact decide_eq_true hi) rfl
    · refine letF (by rw [show (⟨#[105,110,102]⟩:ByteArray) = B infB from rfl,eqB]; exact decide_eq_false hi) (letV (y:=true) ?_ rfl)
      rw [show (⟨#[110,97,110]⟩:ByteArray) = B nanB from rfl,eqB]; exact decide_eq_true (c.resolve_left hi)
  · rw [if_neg c]
    have hj0:Ref2.parse.j0 (B (untD l)) 0 (B []) 0 (B []) (sgnD l) (B []) 0 (B []) = Ref2.parse.j1 (B (untD l)) 0 (B []) 0 (B []) (sgnD l) (B []) 0 (B []):=by
      unfold Ref2.parse.j0
      refine letF (by rw [show (⟨#[105,110,102]⟩:ByteArray) = B infB from rfl,eqB]; exact decide_eq_false fun hh=>c (.inl hh)) (letV (y:=false) ?_ rfl)
      rw [show (⟨#[110,97,110]⟩:ByteArray) = B nanB from rfl,eqB]; exact decide_eq_false fun hh=>c (.inr hh)
    rw [hj0]
    obtain ⟨h1,h2⟩:=rj1 hu (sgnD l)
    refine ⟨fun h=>?_,fun sg w h=>?_,fun sg d x h=>?_⟩
    · rw [Option.map_eq_none_iff] at h; exact h2 h
    · rw [Option.map_eq_some_iff] at h
      obtain ⟨p,_,h⟩:=h
      cases h
    · rw [Option.map_eq_some_iff] at h
      obtain ⟨⟨d',x'⟩,hp,h⟩:=h
      cases h
      exact h1 _ _ hp
theorem bl_mul (a b:Nat):bl (a * b) ≤ bl a + bl b:=by
  refine bl_le_iff.2 ?_
  rw [Nat.pow_add]
  exact Nat.mul_lt_mul'' (bl_lt a) (bl_lt b)
theorem bl_ten (k:Nat):bl (10 ^ k) ≤ 4 * k + 1:=by
  refine bl_le_iff.2 (Nat.lt_of_le_of_lt (ten_le_two k) (Nat.pow_lt_pow_right (by decide) (by omega)))
theorem bl_mono {a b:Nat} (h:a ≤ b):bl a ≤ bl b:=bl_le_iff.2 (Nat.lt_of_le_of_lt h (bl_lt b))
theorem bl_vd {l:BS} (h:l.all dgQ = true):bl (vd l) ≤ 4 * l.length + 1:=Nat.le_trans (bl_mono (Nat.le_of_lt (vd_lt l h))) (bl_ten _)
theorem tim {a b:Nat} (ha:bl a ≤ 60000) (hb:bl b ≤ 60000):Ref2.times (Nt a) (Nt b) = some (Nt (a * b)):=by
  have h1:=ln_bl a
  have h2:=ln_bl b
  exact ntimes_eq a b (by omega)
theorem rpower_eq {n:Nat} (hn:n ≤ 5000):Ref2.power (n:Int) = some (Nt (10 ^ n)):=by
  have t9:∀ k:Nat,k ≤ 10000 → Ref2.times (Nt (10 ^ k)) (Nt 1000000000) = some (Nt (10 ^ (k + 9))):=fun k hk=>by
    have h1:=bl_ten k
    rw [Nat.pow_add]; exact tim (by omega) (by decide)
  have t1:∀ k:Nat,k ≤ 10000 → Ref2.times (Nt (10 ^ k)) (Nt 10) = some (Nt (10 ^ (k + 1))):=fun k hk=>by
    have h1:=bl_ten k
    rw [Nat.pow_succ]; exact tim (by omega) (by decide)
  have hl1:∀ r k:Nat,r ≤ 100 → k + r ≤ 9100 → Ref2.power.l1 (r:Int) (Nt (10 ^ k)) = some (Nt (10 ^ (k + r))):=by
    intro r
    induction r with
    | zero =>
      intro k _ _
      unfold Ref2.power.l1
      refine loopO_end ?_
      show Ref2.power.s1 ((0:Nat):Int) (Nt (10 ^ k)) = _
      unfold Ref2.power.s1
      exact letF rfl rfl
    | succ r ih =>
      intro k h1 h2
      unfold Ref2.power.l1
      refine loopO_next (t:=((r:Int),Nt (10 ^ (k + 1)))) ?_ ?_
      · show Ref2.power.s1 ((r + 1:Nat):Int) (Nt (10 ^ k)) = _
        unfold Ref2.power.s1
        exact letT (decide_eq_true (by omega)) (bindE (small_eq (n:=10) (by decide)) (bindE (t1 k (by omega)) (letV (isub r (by omega)) rfl)))
      · have:=ih (k + 1) (by omega) (by omega)
        rw [show k + 1 + r = k + (r + 1) by omega] at this
        exact this
  have hl0:∀ m r k:Nat,r < 9 → k + 9 * m + r ≤ 9000 → Ref2.power.l0 ((9 * m + r:Nat):Int) (Nt (10 ^ k)) = some (Nt (10 ^ (k + (9 * m + r)))):=by
    intro m
    induction m with
    | zero =>
      intro r k h1 h2
      rw [Nat.mul_zero,Nat.zero_add]
      unfold Ref2.power.l0
      refine loopO_end ?_
      show Ref2.power.s0 (r:Int) (Nt (10 ^ k)) = _
      unfold Ref2.power.s0
      refine letF (decide_eq_false (by omega)) ?_
      rw [hl1 r k (by omega) (by omega)]; rfl
    | succ m ih =>
      intro r k h1 h2
      unfold Ref2.power.l0
      refine loopO_next (t:=(((9 * m + r:Nat):Int),Nt (10 ^ (k + 9)))) ?_ ?_
      · show Ref2.power.s0 ((9 * (m + 1) + r:Nat):Int) (Nt (10 ^ k)) = _
        unfold Ref2.power.s0
        refine letT (decide_eq_true (by omega)) (bindE (small_eq (n:=1000000000) (by decide)) (bindE (t9 k (by omega)) (letV (y:=((9 * m + r:Nat):Int)) ?_ rfl)))
        rw [wi (by omega) (by omega)]; omega
      · have:=ih r (k + 9) h1 (by omega)
        rw [show k + 9 + (9 * m + r) = k + (9 * (m + 1) + r) by omega] at this
        exact this
  unfold Ref2.power
  refine bindE (small_eq (n:=1) (by decide)) ?_
  have:=hl0 (n / 9) (n % 9) 0 (by omega) (by omega)
  rw [show 9 * (n / 9) + n % 9 = n by omega,Nat.zero_add] at this
  exact this
end Go.Q
