import Derived.Test.YtmfhkipeapdfmaaGreatDoorER
import Derived.Test.YtmfhkipeapdfmaaGreatDoorAB
import Derived.Test.YtmfhkipeapdfmaaGreatDoorAC
import Derived.Test.YtmfhkipeapdfmaaGreatDoorDQ
import Derived.Test.YtmfhkipeapdfmaaGreatDoorDR
namespace Go.Q
open Go
set_option maxRecDepth 10000
def fm (p w:Nat):quadratref02.Form:=⟨p,w⟩
theorem fBias {p w:Nat} (h:OkS p w):Ref2.Form.bias (fm p w) = some (biasS w):=by
  rcases h with ⟨rfl,rfl⟩ | ⟨rfl,rfl⟩ | ⟨rfl,rfl⟩ <;> (unfold Ref2.Form.bias; exact letV rfl (chkE (by decide) (letV rfl (letV rfl rfl))))
theorem fTop {p w:Nat} (h:OkS p w):Ref2.Form.top (fm p w) = some ((2 ^ w - 1:Nat):Int):=by
  rcases h with ⟨rfl,rfl⟩ | ⟨rfl,rfl⟩ | ⟨rfl,rfl⟩ <;> (unfold Ref2.Form.top; exact chkE (by decide) (letV rfl (letV rfl rfl)))
theorem FormOf_eq {kind:Int} {p w:Nat} (h:kindS kind p w):Ref2.FormOf kind = some (fm p w,true):=by
  rcases h with ⟨rfl,rfl,rfl⟩ | ⟨rfl,rfl,rfl⟩ | ⟨rfl,rfl,rfl⟩ <;> rfl
theorem FormOf_no {kind:Int} (h:¬ (kind = 2 ∨ kind = 4 ∨ kind = 8)):Ref2.FormOf kind = some (⟨0,0⟩,false):=by
  unfold Ref2.FormOf
  exact letF (beq_false_of_ne (by omega)) (letF (beq_false_of_ne (by omega)) (letF (beq_false_of_ne (by omega)) rfl))
theorem fBits {p w:Nat} (h:OkS p w) {s e f:Nat} (hs:s < 2) (he:e < 2 ^ w) (hf:f < 2 ^ (p - 1)):Ref2.Form.bits (fm p w) (s:Int) (e:Int) (f:Int) = some (packS p w (s:Int) e f):=by
  obtain ⟨a1,a2,a3,a4,a5,_⟩:=h.facts
  have hpw:2 ^ (p + w - 1) = 2 ^ w * 2 ^ (p - 1):=by rw [← Nat.pow_add]; congr 1; omega
  have h64:2 * 2 ^ (p + w - 1) ≤ 18446744073709551616:=by
    rw [show (18446744073709551616:Nat) = 2 ^ 64 by decide,Nat.mul_comm,← Nat.pow_succ]; exact Nat.pow_le_pow_right (by decide) (by omega)
  have hw:2 ^ w ≤ 2 ^ 11:=Nat.pow_le_pow_right (by decide) a5
  have hef:e * 2 ^ (p - 1) + 2 ^ (p - 1) ≤ 2 ^ (p + w - 1):=by rw [hpw]; have:=Nat.mul_le_mul_right (2 ^ (p - 1)) (show e + 1 ≤ 2 ^ w from he); rw [Nat.add_mul,Nat.one_mul] at this; exact this
  have hss:s * 2 ^ (p + w - 1) ≤ 1 * 2 ^ (p + w - 1):=Nat.mul_le_mul_right _ (by omega)
  rw [Nat.one_mul] at hss
  have o1:s * 2 ^ (p + w - 1) ||| e * 2 ^ (p - 1) = s * 2 ^ (p + w - 1) + e * 2 ^ (p - 1):=by
    rw [Nat.or_comm,or_low (s:=p + w - 1) (by have:=Nat.two_pow_pos (p - 1); omega) (Nat.mul_mod_left _ _),Nat.add_comm]
  have o2:(s * 2 ^ (p + w - 1) + e * 2 ^ (p - 1)) ||| f = s * 2 ^ (p + w - 1) + e * 2 ^ (p - 1) + f:=by
    rw [Nat.or_comm,or_low (s:=p - 1) hf,Nat.add_comm]
    rw [hpw,← Nat.mul_assoc,← Nat.add_mul]; exact Nat.mul_mod_left _ _
  unfold Ref2.Form.bits
  refine letV (wL (by omega)) (letV (y:=((p - 1:Nat):Int)) ?_ (letV (y:=((p + w - 1:Nat):Int)) ?_ (chkE (Int.natCast_nonneg _) (letV (y:=((s * 2 ^ (p + w - 1):Nat):Int)) ((u_shl s (p + w - 1)).trans (by rw [Nat.mod_eq_of_lt (by omega)])) (letV (wL (by omega)) (letV (y:=((p - 1:Nat):Int)) ?_ (chkE (Int.natCast_nonneg _)
    (letV (y:=((e * 2 ^ (p - 1):Nat):Int)) ((u_shl e (p - 1)).trans (by rw [Nat.mod_eq_of_lt (by omega)])) (letV (y:=((s * 2 ^ (p + w - 1) + e * 2 ^ (p - 1):Nat):Int)) ((u_or _ _ (by omega) (by omega)).trans (by rw [o1])) (letV (y:=((s * 2 ^ (p + w - 1) + e * 2 ^ (p - 1) + f:Nat):Int)) ((u_or _ _ (by omega) (by omega)).trans (by rw [o2])) (letV rfl rfl)))))))))))
  · show IntKind.i64.wrap ((p:Int) - 1) = _
    rw [wi (by omega) (by omega)]; omega
  · show IntKind.i64.wrap (((p - 1:Nat):Int) + (w:Int)) = _
    rw [wi (by omega) (by omega)]; omega
  · show IntKind.i64.wrap ((p:Int) - 1) = _
    rw [wi (by omega) (by omega)]; omega
theorem ln_bl (v:Nat):lnB 4294967296 v ≤ bl v / 32 + 1:=by
  refine (lnB_iff h32 _ _).1 (Nat.lt_of_lt_of_le (bl_lt v) ?_)
  rw [show (4294967296:Nat) = 2 ^ 32 by decide,← Nat.pow_mul]
  exact Nat.pow_le_pow_right (by decide) (by omega)
theorem rs_zero {t d:Nat}:rsC t d = 0 ↔ t = 0:=by
  unfold rsC
  split
  · omega
  · split
    · omega
    · split <;> omega
theorem aw0 (mode sign:Int) (odd:Bool):awayS mode sign odd 0 = false:=by
  unfold awayS
  split
  · rfl
  · split
    · rfl
    · split <;> rfl
theorem rAway_eq {mode sign:Int} (hm:0 ≤ mode ∧ mode < 4) {odd:Bool} {t d:Nat} (ht:bl t ≤ 100000) (hd:bl d ≤ 100000):Ref2.away mode sign odd (Nt t) (Nt d) = some (awayS mode sign odd (rsC t d)):=by
  have l1:=ln_bl t
  have l2:=ln_bl d
  have lt2:bl (t * 2 ^ 1) ≤ 100001:=by
    rcases Nat.eq_zero_or_pos t with rfl | h
    · rw [Nat.zero_mul,bl_zero]; omega
    · rw [bl_shift h]; omega
  have l3:=ln_bl (t * 2 ^ 1)
  unfold Ref2.away
  rcases Nat.eq_zero_or_pos t with rfl | h0
  · rw [show rsC 0 d = 0 from rfl,show Nt 0 = [] from dgB_zero _]
    refine letV rfl (letT rfl ?_)
    unfold Ref2.away.j1
    rw [aw0]; rfl
  · have hne:rsC t d ≠ 0:=fun e=>by rw [rs_zero] at e; omega
    have hlen:(Nt t).length ≠ 0:=by rw [Nt_len]; have:=lnB_gt h32 h0; omega
    refine letV rfl (letF (beq_false_of_ne (by omega)) ?_)
    have hpos:decide (0 < rsC t d) = true:=decide_eq_true (by omega)
    obtain rfl | rfl | rfl | rfl:mode = 0 ∨ mode = 1 ∨ mode = 2 ∨ mode = 3:=by omega
    · refine letV rfl ?_
      show Ref2.away.j0 (Nt t) (Nt d) odd = _
      unfold Ref2.away.j0
      refine bindE (up_eq (k:=1) (by omega)) (bindE (ncomp_eq _ _ (by omega) (by omega)) ?_)
      rw [Nat.pow_one]
      by_cases c1:2 * t < d
      · have r1:rsC t d = 1:=by unfold rsC; rw [if_neg (by omega),if_pos c1]
        have r2:cmpI (t * 2) d = -1:=by unfold cmpI; rw [if_pos (by omega)]
        rw [r1,r2]; exact letF rfl (letF rfl rfl)
      · by_cases c2:2 * t = d
        · have r1:rsC t d = 2:=by unfold rsC; rw [if_neg (by omega),if_neg c1,if_pos c2]
          have r2:cmpI (t * 2) d = 0:=by unfold cmpI; rw [if_neg (by omega),if_pos (by omega)]
          rw [r1,r2]; exact letF rfl (letT rfl rfl)
        · have r1:rsC t d = 3:=by unfold rsC; rw [if_neg (by omega),if_neg c1,if_neg c2]
          have r2:cmpI (t * 2) d = 1:=by unfold cmpI; rw [if_neg (by omega),if_neg (by omega)]
          rw [r1,r2]; exact letT rfl rfl
    · exact letV rfl rfl
    · refine letV rfl ?_
      show some (sign == (1:Int)) = some (decide (0 < rsC t d) && decide (sign = 1))
      rw [hpos,Bool.true_and]; rfl
    · refine letV rfl ?_
      show some (sign == (0:Int)) = some (decide (0 < rsC t d) && decide (sign = 0))
      rw [hpos,Bool.true_and]; rfl
def ovB (mode sign:Int):Bool:=mode == 1 || (mode == 2 && sign == 0) || (mode == 3 && sign == 1)
def endS (p w:Nat) (mode sign e flags:Int) (n:Nat):Int × Int :=
  if e + p - 1 > biasS w then (bif ovB mode sign then (packS p w sign (2 ^ w - 2) (2 ^ (p - 1) - 1),20) else (packS p w sign (2 ^ w - 1) 0,20))
  else if n < 2 ^ (p - 1) then (packS p w sign 0 n,flags) else (packS p w sign (e + biasS w + p - 1).toNat (n - 2 ^ (p - 1)),flags)
theorem bias_pow {p w:Nat} (h:OkS p w):2 * biasS w + 1 = ((2 ^ w - 1:Nat):Int) ∧ 1 ≤ biasS w ∧ biasS w ≤ 1023 ∧ 31 ≤ 2 ^ w - 1:=by
  rcases h with ⟨rfl,rfl⟩ | ⟨rfl,rfl⟩ | ⟨rfl,rfl⟩ <;> decide
theorem bias_pow2 {p w:Nat} (h:OkS p w):(2:Int) ^ w = 2 * biasS w + 2:=by
  rcases h with ⟨rfl,rfl⟩ | ⟨rfl,rfl⟩ | ⟨rfl,rfl⟩ <;> decide
theorem pow1_u {p w:Nat} (h:OkS p w) (k:Nat) (hk:k ≤ p):IntKind.u64.wrap ((1:Int) * 2 ^ (min ((k:Nat):Int).toNat IntKind.u64.bits)) = ((2 ^ k:Nat):Int):=by
  have h1:2 ^ k < 18446744073709551616:=by
    obtain ⟨_,_,_,a4,_⟩:=h.facts
    rw [show (18446744073709551616:Nat) = 2 ^ 64 by decide]; exact Nat.pow_lt_pow_right (by decide) (by omega)
  have:=u_shl 1 k
  rw [Nat.one_mul,Nat.mod_eq_of_lt h1] at this
  exact this
theorem rr_j5 {p w:Nat} (h:OkS p w) {s:Nat} (hs:s < 2) (X Y:List Int):Ref2.Form.round.j5 p w (s:Int) X Y true = some (packS p w s (2 ^ w - 2) (2 ^ (p - 1) - 1),20) ∧ Ref2.Form.round.j5 p w (s:Int) X Y false = some (packS p w s (2 ^ w - 1) 0,20):=by
  obtain ⟨a1,a2,a3,a4,a5,_⟩:=h.facts
  obtain ⟨b1,b2,b3,b4⟩:=bias_pow h
  have hp1:=Nat.two_pow_pos (p - 1)
  have hp2:2 ^ (p - 1) < 18446744073709551616:=by rw [show (18446744073709551616:Nat) = 2 ^ 64 by decide]; exact Nat.pow_lt_pow_right (by decide) (by omega)
  have hw:2 ^ w ≤ 2 ^ 11:=Nat.pow_le_pow_right (by decide) a5
  constructor
  · unfold Ref2.Form.round.j5
    refine bindE (fTop h) (letV (y:=((2 ^ w - 2:Nat):Int)) ?_ (letV (y:=((p - 1:Nat):Int)) ?_ (chkE (Int.natCast_nonneg _) (letV (pow1_u h (p - 1) (by omega)) (letV (y:=((2 ^ (p - 1) - 1:Nat):Int)) ?_ (bindE (fBits h hs (by omega) (by omega)) rfl))))))
    · rw [wi (by omega) (by omega)]; omega
    · rw [wi (by omega) (by omega)]; omega
    · rw [wu (by omega) (by omega)]; omega
  · show Ref2.Form.round.j4 p w (s:Int) X Y = _
    unfold Ref2.Form.round.j4
    exact bindE (fTop h) (bindE (fBits (f:=0) h hs (by omega) hp1) rfl)
theorem rr_j3 {p w:Nat} (h:OkS p w) {mode:Int} (hm:0 ≤ mode ∧ mode < 4) {s:Nat} (hs:s < 2) {e flags:Int} {n:Nat} {X Y:List Int} (he:lstS p w ≤ e ∧ e ≤ 200000) (hn:n < 2 ^ p) :
    Ref2.Form.round.j3 mode flags p w (s:Int) X Y e n = some (endS p w mode s e flags n):=by
  obtain ⟨a1,a2,a3,a4,a5,_⟩:=h.facts
  obtain ⟨b1,b2,b3,b4⟩:=bias_pow h
  have hlst:lstS p w = 2 - biasS w - p:=rfl
  obtain ⟨j1,j2⟩:=rr_j5 h hs X Y
  have hp1:=Nat.two_pow_pos (p - 1)
  have hpp:2 ^ p = 2 * 2 ^ (p - 1):=by rw [Nat.mul_comm,← Nat.pow_succ]; congr 1; omega
  have hp2:2 ^ (p - 1) < 9223372036854775808:=by rw [show (9223372036854775808:Nat) = 2 ^ 63 by decide]; exact Nat.pow_lt_pow_right (by decide) (by omega)
  unfold Ref2.Form.round.j3 endS
  refine letV (y:=e + p) (wi (by omega) (by omega)) (letV (y:=e + p - 1) (wi (by omega) (by omega)) (bindE (fBias h) ?_))
  by_cases c:e + p - 1 > biasS w
  · rw [if_pos c]
    refine letT (decide_eq_true c) ?_
    obtain rfl | rfl | rfl | rfl:mode = 0 ∨ mode = 1 ∨ mode = 2 ∨ mode = 3:=by omega
    · exact j2
    · exact j1
    · obtain rfl | rfl:s = 0 ∨ s = 1:=by omega
      · exact j1
      · exact j2
    · obtain rfl | rfl:s = 0 ∨ s = 1:=by omega
      · exact j2
      · exact j1
  · rw [if_neg c]
    refine letF (decide_eq_false c) (letV (y:=((p - 1:Nat):Int)) (by rw [wi (by omega) (by omega)]; omega) (chkE (Int.natCast_nonneg _) (letV (pow1_u h (p - 1) (by omega)) ?_)))
    by_cases c2:n < 2 ^ (p - 1)
    · rw [if_pos c2]
      exact letT (decide_eq_true (by omega)) (bindE (fBits (e:=0) h hs (Nat.two_pow_pos w) c2) rfl)
    · rw [if_neg c2]
      refine letF (decide_eq_false (by omega)) (bindE (fBias h) (letV (y:=e + biasS w) (wi (by omega) (by omega)) (letV (y:=e + biasS w + p) (wi (by omega) (by omega)) (letV (y:=(((e + biasS w + p - 1).toNat:Nat):Int)) ?_ (letV (y:=((p - 1:Nat):Int)) ?_ (chkE (Int.natCast_nonneg _) (letV (pow1_u h (p - 1) (by omega)) (letV (y:=((n - 2 ^ (p - 1):Nat):Int)) ?_ (bindE (fBits h hs (by omega) (by omega)) rfl)))))))))
      · rw [wi (by omega) (by omega)]; omega
      · rw [wi (by omega) (by omega)]; omega
      · rw [wu (by omega) (by omega)]; omega
theorem fin_end {p w:Nat} (h:OkS p w) {mode sign e:Int} {q r:Nat} (he:lstS p w ≤ e) (hbl:bl q ≤ p) (hor:bl q = p ∨ e = lstS p w) {n:Nat} (hn:n = if awayS mode sign (decide (q % 2 = 1)) r = true then q + 1 else q) :
    finS p w mode sign (if q = 0 then lstS p w - 1 else e + bl q - 1) e q r =
      endS p w mode sign (if n = 2 ^ p then e + 1 else e) (if 0 < r then (if q < 2 ^ (p - 1) then 24 else 16) else 0) (if n = 2 ^ p then 2 ^ (p - 1) else n):=by
  obtain ⟨a1,a2,a3,a4,a5,_⟩:=h.facts
  obtain ⟨b1,b2,b3,b4⟩:=bias_pow h
  have hlst:lstS p w = 2 - biasS w - p:=rfl
  have hpp:2 ^ p = 2 * 2 ^ (p - 1):=by rw [Nat.mul_comm,← Nat.pow_succ]; congr 1; omega
  have hp1:=Nat.two_pow_pos (p - 1)
  have hq:q < 2 ^ p:=bl_le_iff.1 hbl
  have hqp:bl q = p → 2 ^ (p - 1) ≤ q:=fun hb=>by
    rcases Nat.eq_zero_or_pos q with rfl | h0
    · rw [bl_zero] at hb; omega
    · have:=bl_le h0; rwa [hb] at this
  have hfl:(if q = 0 then lstS p w - 1 else e + bl q - 1) < lstS p w + p - 1 ↔ q < 2 ^ (p - 1):=by
    have hlt:bl q ≤ p - 1 ↔ q < 2 ^ (p - 1):=bl_le_iff
    split
    · rename_i h0; subst h0; exact ⟨fun _=>hp1,fun _=>by omega⟩
    · rcases hor with hb | hb
      · have:=hqp hb
        exact ⟨fun _=>by omega,fun _=>by omega⟩
      · rw [← hlt]; omega
  have hle:q ≤ n ∧ n ≤ q + 1:=by rw [hn]; split <;> omega
  have b5:=bias_pow2 h
  unfold finS endS
  simp only [← hn]
  have e1:(if (if q = 0 then lstS p w - 1 else e + bl q - 1) < lstS p w + p - 1 then (24:Int) else 16) = if q < 2 ^ (p - 1) then 24 else 16:=by
    by_cases c:q < 2 ^ (p - 1)
    · rw [if_pos c,if_pos (hfl.2 c)]
    · rw [if_neg c,if_neg (fun hh=>c (hfl.1 hh))]
  rw [e1]
  generalize (if 0 < r then (if q < 2 ^ (p - 1) then (24:Int) else 16) else 0) = flags
  generalize hm2:(if n = 2 ^ p then 2 ^ (p - 1) else n) = m2
  generalize hl2:(if n = 2 ^ p then e + 1 else e) = l2
  have hlow:m2 < 2 ^ (p - 1) → l2 = lstS p w:=by
    intro hh
    by_cases c:n = 2 ^ p
    · rw [if_pos c] at hm2; omega
    · rw [if_neg c] at hm2 hl2
      rcases hor with hb | hb
      · have:=hqp hb; omega
      · omega
  have hge:lstS p w ≤ l2:=by rw [← hl2]; split <;> omega
  by_cases c1:m2 < 2 ^ (p - 1)
  · have:=hlow c1
    rw [if_pos c1,if_neg (by omega),if_pos c1]
  · rw [if_neg c1]
    have e2:l2 + p - 1 + biasS w = l2 + biasS w + p - 1:=by omega
    by_cases c2:l2 + p - 1 > biasS w
    · rw [if_neg (by omega),if_pos c2]
      have hov:(mode = 1 ∨ mode = 2 ∧ sign = 0 ∨ mode = 3 ∧ sign = 1) ↔ ovB mode sign = true:=by
        unfold ovB
        simp only [Bool.or_eq_true,Bool.and_eq_true,beq_iff_eq,or_assoc]
      by_cases c3:ovB mode sign = true
      · rw [if_pos (hov.2 c3),c3]; rfl
      · rw [if_neg (fun hh=>c3 (hov.1 hh)),Bool.eq_false_iff.2 c3]; rfl
    · rw [if_pos (by omega),if_neg c2,if_neg c1,e2]
theorem rr_j0 {p w:Nat} (h:OkS p w) {mode:Int} (hm:0 ≤ mode ∧ mode < 4) {s:Nat} (hs:s < 2) {e:Int} {q t d:Nat} {X Y:List Int} (he:lstS p w ≤ e) (he2:e ≤ 100000) (hbl:bl q ≤ p) (hor:bl q = p ∨ e = lstS p w) (ht:bl t ≤ 100000) (hd:bl d ≤ 100000) :
    Ref2.Form.round.j0 mode p w (s:Int) X Y e (Nt q) (Nt t) (Nt d) = some (finS p w mode s (if q = 0 then lstS p w - 1 else e + bl q - 1) e q (rsC t d)):=by
  obtain ⟨a1,a2,a3,a4,a5,_⟩:=h.facts
  obtain ⟨b1,b2,b3,b4⟩:=bias_pow h
  have hlst:lstS p w = 2 - biasS w - p:=rfl
  have hp53:2 ^ p ≤ 9007199254740992:=by rw [show (9007199254740992:Nat) = 2 ^ 53 by decide]; exact Nat.pow_le_pow_right (by decide) a4
  have hpp:2 ^ p = 2 * 2 ^ (p - 1):=by rw [Nat.mul_comm,← Nat.pow_succ]; congr 1; omega
  have hp1:=Nat.two_pow_pos (p - 1)
  have hq:q < 2 ^ p:=bl_le_iff.1 hbl
  obtain ⟨n,hn⟩:∃ n,n = if awayS mode s (decide (q % 2 = 1)) (rsC t d) = true then q + 1 else q:=⟨_,rfl⟩
  have hnle:n ≤ q + 1:=by rw [hn]; split <;> omega
  rw [fin_end h he hbl hor hn]
  have hj2:∀ flags,Ref2.Form.round.j2 mode e flags p w (s:Int) X Y n = some (endS p w mode s (if n = 2 ^ p then e + 1 else e) flags (if n = 2 ^ p then 2 ^ (p - 1) else n)):=by
    intro flags
    unfold Ref2.Form.round.j2
    refine chkE (Int.natCast_nonneg _) (letV (pow1_u h p (Nat.le_refl _)) ?_)
    by_cases c:n = 2 ^ p
    · rw [if_pos c,if_pos c]
      refine letT (by rw [c]; exact beq_self_eq_true _) (chkE (by decide) (letV (y:=((2 ^ (p - 1):Nat):Int)) ?_ (letV (wi (by omega) (by omega)) (rr_j3 h hm hs (by omega) (by omega)))))
      rw [Int.tdiv_eq_ediv_of_nonneg (by omega),wu (by omega) (by omega)]; omega
    · rw [if_neg c,if_neg c]
      exact letF (beq_false_of_ne (by omega)) (rr_j3 h hm hs (by omega) (by omega))
  have hj1:∀ flags,Ref2.Form.round.j1 mode e (Nt t) (Nt d) q p w (s:Int) X Y flags = some (endS p w mode s (if n = 2 ^ p then e + 1 else e) flags (if n = 2 ^ p then 2 ^ (p - 1) else n)):=by
    intro flags
    unfold Ref2.Form.round.j1
    have hodd:(((q:Int)).tmod 2 == (1:Int)) = decide (q % 2 = 1):=by
      rw [Int.tmod_eq_emod_of_nonneg (by omega)]
      by_cases c:q % 2 = 1
      · rw [decide_eq_true c]; exact beq_iff_eq.2 (by omega)
      · rw [decide_eq_false c]; exact beq_false_of_ne (by omega)
    refine chkE (by decide) (letV rfl (letV hodd (bindE (rAway_eq hm ht hd) ?_)))
    by_cases c:awayS mode s (decide (q % 2 = 1)) (rsC t d) = true
    · rw [if_pos c] at hn
      rw [c]
      refine letV (y:=(n:Int)) ?_ (hj2 flags)
      rw [wu (by omega) (by omega)]; omega
    · rw [if_neg c] at hn
      rw [Bool.eq_false_iff.2 c,← hn]
      exact hj2 flags
  unfold Ref2.Form.round.j0
  refine bindE (value_eq (by omega)) (letV (y:=((lnB 4294967296 t:Nat):Int)) (by rw [Nt_len]) ?_)
  by_cases c:t = 0
  · have e0:(if 0 < rsC t d then (if q < 2 ^ (p - 1) then (24:Int) else 16) else 0) = 0:=if_neg (by rw [rs_zero.2 c]; omega)
    rw [e0]
    exact letF (decide_eq_false (by rw [c,lnB_zero]; decide)) (hj1 0)
  · have h0:0 < rsC t d:=Nat.pos_of_ne_zero (fun e=>c (rs_zero.1 e))
    have e0:(if 0 < rsC t d then (if q < 2 ^ (p - 1) then (24:Int) else 16) else 0) = if q < 2 ^ (p - 1) then 24 else 16:=if_pos h0
    rw [e0]
    have:=lnB_gt h32 (show 0 < t by omega)
    refine letT (decide_eq_true (by omega)) (letV (y:=((p - 1:Nat):Int)) (by rw [wi (by omega) (by omega)]; omega) (chkE (Int.natCast_nonneg _) (letV (pow1_u h (p - 1) (by omega)) ?_)))
    by_cases c2:q < 2 ^ (p - 1)
    · rw [if_pos c2]; exact letT (decide_eq_true (by omega)) (hj1 24)
    · rw [if_neg c2]; exact letF (decide_eq_false (by omega)) (hj1 16)
theorem fRound {p w:Nat} (h:OkS p w) {mode:Int} (hm:0 ≤ mode ∧ mode < 4) {s:Nat} (hs:s < 2) {num den:Nat} (hn:0 < num) (hd:0 < den) (h1:bl num ≤ 20000) (h2:bl den ≤ 20000) :
    Ref2.Form.round (fm p w) mode ⟨(s:Int),Nt num,Nt den⟩ = some (rndF p w mode s num den):=by
  obtain ⟨a1,a2,a3,a4,a5,_⟩:=h.facts
  obtain ⟨b1,b2,b3,b4⟩:=bias_pow h
  have hlst:lstS p w = 2 - biasS w - p:=rfl
  have l1:=ln_bl num
  have l2:=ln_bl den
  have n1:=bl_pos hn
  have n2:=bl_pos hd
  have at_e:∀ (e:Int),lstS p w ≤ e → (bl num:Int) - bl den - p ≤ e → e ≤ 50000 →
      ∃ q t d:Nat,num * 2 ^ (-e).toNat = (den * 2 ^ e.toNat) * q + t ∧ d = den * 2 ^ e.toNat ∧ t < d ∧ bl t ≤ 100000 ∧ bl d ≤ 100000 ∧
        Ref2.Form.round.s0 mode p w (s:Int) (Nt num) (Nt den) e = (if bl q ≤ p then (Ref2.Form.round.j0 mode p w (s:Int) (Nt num) (Nt den) e (Nt q) (Nt t) (Nt d)).map .inr else some (.inl ((p:Int),(w:Int),(s:Int),Nt num,Nt den,e + 1))):=by
    intro e he he2 he3
    have hd':0 < den * 2 ^ e.toNat:=Nat.mul_pos hd (Nat.two_pow_pos _)
    have hn':0 < num * 2 ^ (-e).toNat:=Nat.mul_pos hn (Nat.two_pow_pos _)
    have bd:bl (den * 2 ^ e.toNat) = bl den + e.toNat:=bl_shift hd
    have bn:bl (num * 2 ^ (-e).toNat) = bl num + (-e).toNat:=bl_shift hn
    have ld:=ln_bl (den * 2 ^ e.toNat)
    have lnn:=ln_bl (num * 2 ^ (-e).toNat)
    have ht:num * 2 ^ (-e).toNat % (den * 2 ^ e.toNat) < den * 2 ^ e.toNat:=Nat.mod_lt _ hd'
    have bt:bl (num * 2 ^ (-e).toNat % (den * 2 ^ e.toNat)) ≤ bl (den * 2 ^ e.toNat):=bl_le_iff.2 (Nat.lt_trans ht (bl_lt _))
    have hq:lnB 4294967296 (num * 2 ^ (-e).toNat / (den * 2 ^ e.toNat)) ≤ 3000:=Nat.le_trans (lnB_mono h32 (Nat.div_le_self _ _)) (by omega)
    refine ⟨num * 2 ^ (-e).toNat / (den * 2 ^ e.toNat),num * 2 ^ (-e).toNat % (den * 2 ^ e.toNat),den * 2 ^ e.toNat,(Nat.div_add_mod _ _).symm,rfl,ht,by omega,by omega,?_⟩
    have hj6:Ref2.Form.round.j6 mode e p w (s:Int) (Nt num) (Nt den) (Nt (den * 2 ^ e.toNat)) (Nt (num * 2 ^ (-e).toNat)) = (if bl (num * 2 ^ (-e).toNat / (den * 2 ^ e.toNat)) ≤ p then (Ref2.Form.round.j0 mode p w (s:Int) (Nt num) (Nt den) e (Nt (num * 2 ^ (-e).toNat / (den * 2 ^ e.toNat))) (Nt (num * 2 ^ (-e).toNat % (den * 2 ^ e.toNat))) (Nt (den * 2 ^ e.toNat))).map .inr else some (.inl ((p:Int),(w:Int),(s:Int),Nt num,Nt den,e + 1))):=by
      unfold Ref2.Form.round.j6
      refine bindE (divide_eq hd' (by omega) (by omega)) (bindE (bits_eq (by omega)) ?_)
      by_cases c:bl (num * 2 ^ (-e).toNat / (den * 2 ^ e.toNat)) ≤ p
      · rw [if_pos c]; exact letT (decide_eq_true (by omega)) rfl
      · rw [if_neg c]; exact letF (decide_eq_false (by omega)) (letV (wi (by omega) (by omega)) rfl)
    unfold Ref2.Form.round.s0
    by_cases c:e < 0
    · have e0:e.toNat = 0:=by omega
      have e1:Nt den = Nt (den * 2 ^ e.toNat):=by rw [e0,Nat.pow_zero,Nat.mul_one]
      have hu:Ref2.up (Nt num) (((-e).toNat:Nat):Int) = some (Nt (num * 2 ^ (-e).toNat)):=up_eq (by omega)
      refine letT (decide_eq_true c) (letV (y:=(((-e).toNat:Nat):Int)) (by rw [wi (by omega) (by omega)]; omega) (bindE hu ?_))
      rw [← hj6,← e1]
    · have e0:(-e).toNat = 0:=by omega
      have e1:Nt num = Nt (num * 2 ^ (-e).toNat):=by rw [e0,Nat.pow_zero,Nat.mul_one]
      have hu:Ref2.up (Nt den) ((e.toNat:Nat):Int) = some (Nt (den * 2 ^ e.toNat)):=up_eq (by omega)
      rw [Int.toNat_of_nonneg (by omega)] at hu
      refine letF (decide_eq_false c) (bindE hu ?_)
      rw [← hj6,← e1]
  have len:∀ (e:Int) (q t d:Nat),num * 2 ^ (-e).toNat = (den * 2 ^ e.toNat) * q + t → d = den * 2 ^ e.toNat → t < d → (q = 0 ∨ (bl q:Int) ≤ bl num - bl den - e + 1) ∧ ((bl num:Int) - bl den - e ≤ bl q):=by
    intro e q t d hq hdd ht
    have bd:bl (den * 2 ^ e.toNat) = bl den + e.toNat:=bl_shift hd
    have bn:bl (num * 2 ^ (-e).toNat) = bl num + (-e).toNat:=bl_shift hn
    rw [← hdd] at hq bd
    have hd0:0 < d:=by omega
    have k1:=bl_lt d
    have k2:=bl_le hd0
    have k3:=bl_lt (num * 2 ^ (-e).toNat)
    have k4:=bl_le (show 0 < num * 2 ^ (-e).toNat from Nat.mul_pos hn (Nat.two_pow_pos _))
    rw [hq] at bn k3 k4
    constructor
    · rcases Nat.eq_zero_or_pos q with rfl | hq0
      · exact .inl rfl
      · have k5:=bl_le hq0
        have:bl d - 1 + (bl q - 1) < bl (d * q + t):=by
          rcases Nat.lt_or_ge (bl d - 1 + (bl q - 1)) (bl (d * q + t)) with hh | hh
          · exact hh
          · have h6:d * q + t < 2 ^ (bl d - 1 + (bl q - 1)):=bl_le_iff.1 hh
            rw [Nat.pow_add] at h6
            have:=Nat.mul_le_mul k2 k5
            omega
        have:=bl_pos hd0
        have:=bl_pos hq0
        exact .inr (by omega)
    · have k5:=bl_lt q
      have h7:d * q + t < d * (q + 1):=by rw [Nat.mul_succ]; omega
      have h8:d * (q + 1) ≤ 2 ^ bl d * 2 ^ bl q:=Nat.mul_le_mul (Nat.le_of_lt k1) k5
      rw [← Nat.pow_add] at h8
      have:bl (d * q + t) ≤ bl d + bl q:=bl_le_iff.2 (by omega)
      omega
  have fin:∀ (e:Int) (q t d:Nat),lstS p w ≤ e → e ≤ 50000 → num * 2 ^ (-e).toNat = (den * 2 ^ e.toNat) * q + t → d = den * 2 ^ e.toNat → t < d → bl t ≤ 100000 → bl d ≤ 100000 → bl q ≤ p → (bl q = p ∨ e = lstS p w) →
      Ref2.Form.round.j0 mode p w (s:Int) (Nt num) (Nt den) e (Nt q) (Nt t) (Nt d) = some (rndF p w mode s num den):=by
    intro e q t d he he2 hq hdd ht bt bd hbl hor
    rw [rr_j0 h hm hs he (by omega) hbl hor bt bd,ref_rnd hd hn hq hdd ht he hbl hor (by omega)]
  unfold Ref2.Form.round
  have hmax:(if (2:Int) - biasS w - p < (bl num:Int) - bl den - p then (bl num:Int) - bl den - p else (2:Int) - biasS w - p) = if lstS p w < (bl num:Int) - bl den - p then (bl num:Int) - bl den - p else lstS p w:=rfl
  refine bindE (fBias h) (letV (wi (by omega) (by omega)) (letV (y:=(2:Int) - biasS w - p) (wi (by show _ ≤ (2:Int) - biasS w - (p:Int); omega) (by show (2:Int) - biasS w - (p:Int) < _; omega)) (bindE (bits_eq (by show lnB 4294967296 num ≤ _; omega)) (bindE (bits_eq (by show lnB 4294967296 den ≤ _; omega)) (letV (wi (by omega) (by omega)) (letV (y:=(bl num:Int) - bl den - p) (wi (by show _ ≤ (bl num:Int) - bl den - (p:Int); omega) (by show (bl num:Int) - bl den - (p:Int) < _; omega)) ?_))))))
  by_cases c:lstS p w ≤ (bl num:Int) - bl den - p
  · refine letV (y:=(bl num:Int) - bl den - p) ?_ ?_
    · split <;> omega
    · obtain ⟨e,he⟩:∃ e:Int,e = (bl num:Int) - bl den - p:=⟨_,rfl⟩
      rw [← he]
      obtain ⟨q,t,d,k1,k2,k3,k4,k5,k6⟩:=at_e e (by omega) (by omega) (by omega)
      obtain ⟨k7,k8⟩:=len e q t d k1 k2 k3
      by_cases cq:bl q ≤ p
      · rw [if_pos cq,fin e q t d (by omega) (by omega) k1 k2 k3 k4 k5 cq (.inl (by omega))] at k6
        exact loopO_end k6
      · rw [if_neg cq] at k6
        refine loopO_next (t:=((p:Int),(w:Int),(s:Int),Nt num,Nt den,e + 1)) k6 ?_
        obtain ⟨q2,t2,d2,m1,m2,m3,m4,m5,m6⟩:=at_e (e + 1) (by omega) (by omega) (by omega)
        obtain ⟨m7,m8⟩:=len (e + 1) q2 t2 d2 m1 m2 m3
        have hq2:2 ^ (p - 1) ≤ q2:=by
          rcases Nat.lt_or_ge q2 (2 ^ (p - 1)) with hlt | hge
          · exfalso
            have x1:2 ^ p ≤ q:=by
              have hq0:0 < q:=by
                rcases Nat.eq_zero_or_pos q with h0 | h0
                · rw [h0,bl_zero] at cq; omega
                · exact h0
              exact Nat.le_trans (Nat.pow_le_pow_right (by decide) (by omega)) (bl_le hq0)
            have x2:d * 2 ^ p ≤ num * 2 ^ (-e).toNat:=by rw [k1,← k2]; exact Nat.le_trans (Nat.mul_le_mul_left d x1) (Nat.le_add_right _ _)
            have x3:num * 2 ^ (-(e + 1)).toNat < d2 * 2 ^ (p - 1):=by
              rw [m1,← m2]
              have:=Nat.mul_le_mul_left d2 (show q2 + 1 ≤ 2 ^ (p - 1) from hlt)
              rw [Nat.mul_succ] at this; omega
            have x4:num * 2 ^ (-e).toNat * 2 ^ (e + 1).toNat = num * 2 ^ (-(e + 1)).toNat * 2 ^ (e.toNat + 1):=by
              rw [Nat.mul_assoc,Nat.mul_assoc,← Nat.pow_add,← Nat.pow_add]; congr 2; omega
            have x5:d * 2 ^ p * 2 ^ (e + 1).toNat = d2 * 2 ^ (p - 1) * 2 ^ (e.toNat + 1):=by
              rw [k2,m2]
              have:den * 2 ^ e.toNat * 2 ^ p * 2 ^ (e + 1).toNat = den * 2 ^ (e.toNat + p + (e + 1).toNat):=by rw [Nat.mul_assoc,Nat.mul_assoc,← Nat.pow_add,← Nat.pow_add]; congr 2; omega
              rw [this]
              have:den * 2 ^ (e + 1).toNat * 2 ^ (p - 1) * 2 ^ (e.toNat + 1) = den * 2 ^ ((e + 1).toNat + (p - 1) + (e.toNat + 1)):=by rw [Nat.mul_assoc,Nat.mul_assoc,← Nat.pow_add,← Nat.pow_add]; congr 2; omega
              rw [this]; congr 2; omega
            have x6:=Nat.mul_le_mul_right (2 ^ (e + 1).toNat) x2
            rw [x4,x5] at x6
            have:=Nat.lt_of_lt_of_le (Nat.mul_lt_mul_of_pos_right x3 (Nat.two_pow_pos (e.toNat + 1))) x6
            omega
          · exact hge
        have hq20:0 < q2:=by have:=Nat.two_pow_pos (p - 1); omega
        have hbl2:p ≤ bl q2:=by
          rcases Nat.lt_or_ge (bl q2) p with hlt | hge
          · have:=bl_le_iff.1 (show bl q2 ≤ p - 1 by omega); omega
          · exact hge
        have hbl3:bl q2 = p:=by omega
        rw [if_pos (by omega),fin (e + 1) q2 t2 d2 (by omega) (by omega) m1 m2 m3 m4 m5 (by omega) (.inl hbl3)] at m6
        exact loopO_end m6
  · refine letV (y:=lstS p w) ?_ ?_
    · split <;> omega
    · obtain ⟨e,he⟩:∃ e:Int,e = lstS p w:=⟨_,rfl⟩
      rw [← he]
      obtain ⟨q,t,d,k1,k2,k3,k4,k5,k6⟩:=at_e e (by omega) (by omega) (by omega)
      obtain ⟨k7,k8⟩:=len e q t d k1 k2 k3
      have cq:bl q ≤ p:=by
        rcases k7 with h0 | h0
        · rw [h0,bl_zero]; omega
        · omega
      rw [if_pos cq,fin e q t d (by omega) (by omega) k1 k2 k3 k4 k5 cq (.inr he)] at k6
      exact loopO_end k6
end Go.Q
namespace Go.Q
open Go
set_option maxRecDepth 10000
theorem frac_len {num den:Nat} (hn:0 < num) (hd:0 < den) {e:Int} {q t d:Nat} (hq:num * 2 ^ (-e).toNat = (den * 2 ^ e.toNat) * q + t) (hdd:d = den * 2 ^ e.toNat) (ht:t < d):(bl num:Int) - bl den - e ≤ bl q:=by
  have bd:bl (den * 2 ^ e.toNat) = bl den + e.toNat:=bl_shift hd
  have bn:bl (num * 2 ^ (-e).toNat) = bl num + (-e).toNat:=bl_shift hn
  rw [← hdd] at hq bd
  have k1:=bl_lt d
  rw [hq] at bn
  have k5:=bl_lt q
  have h7:d * q + t < d * (q + 1):=by rw [Nat.mul_succ]; omega
  have h8:d * (q + 1) ≤ 2 ^ bl d * 2 ^ bl q:=Nat.mul_le_mul (Nat.le_of_lt k1) k5
  rw [← Nat.pow_add] at h8
  have:bl (d * q + t) ≤ bl d + bl q:=bl_le_iff.2 (by omega)
  omega
theorem frac_half2 {num den p:Nat} (hp:0 < p) {e:Int} {q t q2 t2:Nat} (k1:num * 2 ^ (-e).toNat = (den * 2 ^ e.toNat) * q + t) (m1:num * 2 ^ (-(e + 1)).toNat = (den * 2 ^ (e + 1).toNat) * q2 + t2) (ht:t2 < den * 2 ^ (e + 1).toNat) (hq:p < bl q):2 ^ (p - 1) ≤ q2:=by
  rcases Nat.lt_or_ge q2 (2 ^ (p - 1)) with hlt | hge
  · exfalso
    have x1:2 ^ p ≤ q:=by
      have hq0:0 < q:=by
        rcases Nat.eq_zero_or_pos q with h0 | h0
        · rw [h0,bl_zero] at hq; omega
        · exact h0
      exact Nat.le_trans (Nat.pow_le_pow_right (by decide) (by omega)) (bl_le hq0)
    have x2:den * 2 ^ e.toNat * 2 ^ p ≤ num * 2 ^ (-e).toNat:=by rw [k1]; exact Nat.le_trans (Nat.mul_le_mul_left _ x1) (Nat.le_add_right _ _)
    have x3:num * 2 ^ (-(e + 1)).toNat < den * 2 ^ (e + 1).toNat * 2 ^ (p - 1):=by
      rw [m1]
      have:=Nat.mul_le_mul_left (den * 2 ^ (e + 1).toNat) (show q2 + 1 ≤ 2 ^ (p - 1) from hlt)
      rw [Nat.mul_succ] at this; omega
    have x4:num * 2 ^ (-e).toNat * 2 ^ (e + 1).toNat = num * 2 ^ (-(e + 1)).toNat * 2 ^ (e.toNat + 1):=by
      rw [Nat.mul_assoc,Nat.mul_assoc,← Nat.pow_add,← Nat.pow_add]; congr 2; omega
    have x5:den * 2 ^ e.toNat * 2 ^ p * 2 ^ (e + 1).toNat = den * 2 ^ (e + 1).toNat * 2 ^ (p - 1) * 2 ^ (e.toNat + 1):=by
      have y1:den * 2 ^ e.toNat * 2 ^ p * 2 ^ (e + 1).toNat = den * 2 ^ (e.toNat + p + (e + 1).toNat):=by rw [Nat.mul_assoc,Nat.mul_assoc,← Nat.pow_add,← Nat.pow_add]; congr 2; omega
      rw [y1]
      have y2:den * 2 ^ (e + 1).toNat * 2 ^ (p - 1) * 2 ^ (e.toNat + 1) = den * 2 ^ ((e + 1).toNat + (p - 1) + (e.toNat + 1)):=by rw [Nat.mul_assoc,Nat.mul_assoc,← Nat.pow_add,← Nat.pow_add]; congr 2; omega
      rw [y2]; congr 2; omega
    have x6:=Nat.mul_le_mul_right (2 ^ (e + 1).toNat) x2
    rw [x4,x5] at x6
    have:=Nat.lt_of_lt_of_le (Nat.mul_lt_mul_of_pos_right x3 (Nat.two_pow_pos (e.toNat + 1))) x6
    omega
  · exact hge
theorem frac_parts {p w num den:Nat} (hp:0 < p) (hn:0 < num) (hd:0 < den):∃ (e:Int) (q t d:Nat),num * 2 ^ (-e).toNat = (den * 2 ^ e.toNat) * q + t ∧ d = den * 2 ^ e.toNat ∧ t < d ∧ lstS p w ≤ e ∧ bl q ≤ p ∧ (bl q = p ∨ e = lstS p w) ∧ (bl num:Int) - bl den - p ≤ e:=by
  obtain ⟨k,hk,hmin⟩:=least (P:=fun k:Nat=>bl (num * 2 ^ (-(lstS p w + k)).toNat / (den * 2 ^ (lstS p w + k).toNat)) ≤ p) ⟨(lstS p w).natAbs + bl num,by
    have e0:(-(lstS p w + (((lstS p w).natAbs + bl num:Nat):Int))).toNat = 0:=by omega
    have e1:num < den * 2 ^ (lstS p w + (((lstS p w).natAbs + bl num:Nat):Int)).toNat:=by
      have h1:=bl_lt num
      have h2:2 ^ bl num ≤ 2 ^ (lstS p w + (((lstS p w).natAbs + bl num:Nat):Int)).toNat:=Nat.pow_le_pow_right (by decide) (by omega)
      have h3:=Nat.mul_le_mul_right (2 ^ (lstS p w + (((lstS p w).natAbs + bl num:Nat):Int)).toNat) (show 1 ≤ den from hd)
      omega
    show bl (num * 2 ^ (-(lstS p w + (((lstS p w).natAbs + bl num:Nat):Int))).toNat / _) ≤ p
    rw [e0,Nat.pow_zero,Nat.mul_one,Nat.div_eq_of_lt e1,bl_zero]; omega⟩
  have hd':∀ e:Int,0 < den * 2 ^ e.toNat:=fun e=>Nat.mul_pos hd (Nat.two_pow_pos _)
  have hq:=(Nat.div_add_mod (num * 2 ^ (-(lstS p w + k)).toNat) (den * 2 ^ (lstS p w + k).toNat)).symm
  have ht:=Nat.mod_lt (num * 2 ^ (-(lstS p w + k)).toNat) (hd' (lstS p w + k))
  refine ⟨lstS p w + k,_,_,_,hq,rfl,ht,by omega,hk,?_,?_⟩
  · cases k with
    | zero=>exact .inr (by omega)
    | succ m =>
      left
      have hm:=hmin m (by omega)
      have hq1:=(Nat.div_add_mod (num * 2 ^ (-(lstS p w + m)).toNat) (den * 2 ^ (lstS p w + m).toNat)).symm
      have e1:lstS p w + ((m + 1:Nat):Int) = lstS p w + m + 1:=by omega
      rw [e1] at hq ht hk ⊢
      have h1:=frac_half2 hp hq1 hq ht (Nat.lt_of_not_le hm)
      have h2:p ≤ bl (num * 2 ^ (-(lstS p w + m + 1)).toNat / (den * 2 ^ (lstS p w + m + 1).toNat)):=by
        rcases Nat.lt_or_ge (bl (num * 2 ^ (-(lstS p w + m + 1)).toNat / (den * 2 ^ (lstS p w + m + 1).toNat))) p with hlt | hge
        · have:=bl_le_iff.1 (show bl (num * 2 ^ (-(lstS p w + m + 1)).toNat / (den * 2 ^ (lstS p w + m + 1).toNat)) ≤ p - 1 by omega); omega
        · exact hge
      omega
  · have:=frac_len hn hd hq rfl ht
    have hk':bl (num * 2 ^ (-(lstS p w + k)).toNat / (den * 2 ^ (lstS p w + k).toNat)) ≤ p:=hk
    omega
theorem rnd_great {p w:Nat} (h:OkS p w) {mode sign:Int} {num den:Nat} (hn:0 < num) (hd:0 < den) (hg:1100 ≤ (bl num:Int) - bl den) :
    rndF p w mode sign num den = bif ovB mode sign then (packS p w sign (2 ^ w - 2) (2 ^ (p - 1) - 1),20) else (packS p w sign (2 ^ w - 1) 0,20):=by
  obtain ⟨a1,a2,a3,a4,a5,_⟩:=h.facts
  obtain ⟨b1,b2,b3,b4⟩:=bias_pow h
  have hlst:lstS p w = 2 - biasS w - p:=rfl
  obtain ⟨e,q,t,d,h1,h2,h3,h4,h5,h6,h7⟩:=frac_parts (p:=p) (w:=w) (by omega) hn hd
  rw [ref_rnd hd hn h1 h2 h3 h4 h5 h6 (by omega),fin_end h h4 h5 h6 rfl]
  unfold endS
  rw [if_pos]
  split <;> omega
theorem rnd_tiny {p w:Nat} (h:OkS p w) {mode sign:Int} {num den:Nat} (hn:0 < num) (hd:0 < den) {K:Nat} (hK:K = 1100) (hg:num * 2 ^ K < den):rndF p w mode sign num den = finS p w mode sign (lstS p w - 1) (lstS p w) 0 1:=by
  obtain ⟨a1,a2,a3,a4,a5,_⟩:=h.facts
  obtain ⟨b1,b2,b3,b4⟩:=bias_pow h
  have hlst:lstS p w = 2 - biasS w - p:=rfl
  have e0:(lstS p w).toNat = 0:=by omega
  have hlt:2 * (num * 2 ^ (-lstS p w).toNat) < den:=by
    have:2 * (num * 2 ^ (-lstS p w).toNat) = num * 2 ^ ((-lstS p w).toNat + 1):=by rw [Nat.pow_succ,Nat.mul_comm (2 ^ (-lstS p w).toNat) 2,Nat.mul_left_comm]
    rw [this]
    exact Nat.lt_of_le_of_lt (Nat.mul_le_mul_left num (Nat.pow_le_pow_right (by decide) (by omega))) hg
  have hr:rsC (num * 2 ^ (-lstS p w).toNat) den = 1:=by
    unfold rsC
    rw [if_neg (by have:=Nat.mul_pos hn (Nat.two_pow_pos (-lstS p w).toNat); omega),if_pos hlt]
  have:=ref_rnd (p:=p) (w:=w) (mode:=mode) (sign:=sign) (e:=lstS p w) (q:=0) (t:=num * 2 ^ (-lstS p w).toNat) (d:=den) hd hn (by rw [Nat.mul_zero,Nat.zero_add]) (by rw [e0,Nat.pow_zero,Nat.mul_one]) (by omega) (Int.le_refl _) (by rw [bl_zero]; omega) (.inr rfl) (by omega)
  rw [this,hr]; rfl
end Go.Q
namespace Go.Q
open Go
set_option maxRecDepth 10000
theorem loopO_stop [_KN:Know] {σ ρ:Type} {step:σ → Option (σ ⊕ ρ)} {s:σ} {X:Option ρ} (h:step s = X.map .inr):loopO step s = X:=by
  rw [loopO_eq,h]; cases X <;> rfl
theorem beqN (c:UInt8) (n:Nat) (hn:n < 256):(((c.toNat:Nat):Int) == (n:Int)) = (c == UInt8.ofNat n):=by
  rw [Bool.eq_iff_iff,beq_iff_eq,beq_iff_eq]
  constructor
  · intro h; apply UInt8.toNat_inj.1; rw [UInt8.toNat_ofNat_of_lt' hn]; omega
  · rintro rfl; rw [UInt8.toNat_ofNat_of_lt' hn]
theorem cv_u8 {c:UInt8} (h:dgQ c = true):IntKind.u8.wrap ((c.toNat:Int) - 48) = (cv c:Int):=by
  have:=dgQ_b h
  show ((c.toNat:Int) - 48) % 256 = ((c.toNat - 48:Nat):Int)
  omega
theorem bt_at {l a r:BS} {c:UInt8} (h:l = a ++ c :: r):bt (B l) (a.length:Int) = (c.toNat:Int):=by
  subst h
  rw [bt_B _ _ (by rw [List.length_append,List.length_cons]; omega)]
  congr 2
  simp
theorem head_sz (c:UInt8) (r:BS):(B (c :: r)).size = r.length + 1 ∧ bt (B (c :: r)) 0 = (c.toNat:Int) ∧ (B (c :: r)).extract (1:Int).toNat (B (c :: r)).size = B r :=
  ⟨B_size _,bt_B (c :: r) 0 (by simp),drop_B (c :: r) 1⟩
end Go.Q
namespace Go.Q
open Go
set_option maxRecDepth 10000
theorem bl_mul (a b:Nat):bl (a * b) ≤ bl a + bl b:=by
  refine bl_le_iff.2 ?_
  rw [Nat.pow_add]
  exact Nat.mul_lt_mul'' (bl_lt a) (bl_lt b)
theorem bl_ten (k:Nat):bl (10 ^ k) ≤ 4 * k + 1:=by
  refine bl_le_iff.2 (Nat.lt_of_le_of_lt (ten_le_two k) (Nat.pow_lt_pow_right (by decide) (by omega)))
theorem bl_mono {a b:Nat} (h:a ≤ b):bl a ≤ bl b:=bl_le_iff.2 (Nat.lt_of_le_of_lt h (bl_lt b))
theorem bl_vd {l:BS} (h:l.all dgQ = true):bl (vd l) ≤ 4 * l.length + 1:=Nat.le_trans (bl_mono (Nat.le_of_lt (vd_lt l h))) (bl_ten _)
theorem tim {a b:Nat} (ha:bl a ≤ 60000) (hb:bl b ≤ 60000):Ref2.times (Nt a) (Nt b) = some (Nt (a * b)):=by
  have h1:=ln_bl a
  have h2:=ln_bl b
  exact ntimes_eq a b (by omega)
theorem rpower_eq {n:Nat} (hn:n ≤ 5000):Ref2.power (n:Int) = some (Nt (10 ^ n)):=by
  have t9:∀ k:Nat,k ≤ 10000 → Ref2.times (Nt (10 ^ k)) (Nt 1000000000) = some (Nt (10 ^ (k + 9))):=fun k hk=>by
    have h1:=bl_ten k
    rw [Nat.pow_add]; exact tim (by omega) (by decide)
  have t1:∀ k:Nat,k ≤ 10000 → Ref2.times (Nt (10 ^ k)) (Nt 10) = some (Nt (10 ^ (k + 1))):=fun k hk=>by
    have h1:=bl_ten k
    rw [Nat.pow_succ]; exact tim (by omega) (by decide)
  have hl1:∀ r k:Nat,r ≤ 100 → k + r ≤ 9100 → Ref2.power.l1 (r:Int) (Nt (10 ^ k)) = some (Nt (10 ^ (k + r))):=by
    intro r
    induction r with
    | zero =>
      intro k _ _
      unfold Ref2.power.l1
      refine loopO_end ?_
      show Ref2.power.s1 ((0:Nat):Int) (Nt (10 ^ k)) = _
      unfold Ref2.power.s1
      exact letF rfl rfl
    | succ r ih =>
      intro k h1 h2
      unfold Ref2.power.l1
      refine loopO_next (t:=((r:Int),Nt (10 ^ (k + 1)))) ?_ ?_
      · show Ref2.power.s1 ((r + 1:Nat):Int) (Nt (10 ^ k)) = _
        unfold Ref2.power.s1
        exact letT (decide_eq_true (by omega)) (bindE (small_eq (n:=10) (by decide)) (bindE (t1 k (by omega)) (letV (isub r (by omega)) rfl)))
      · have:=ih (k + 1) (by omega) (by omega)
        rw [show k + 1 + r = k + (r + 1) by omega] at this
        exact this
  have hl0:∀ m r k:Nat,r < 9 → k + 9 * m + r ≤ 9000 → Ref2.power.l0 ((9 * m + r:Nat):Int) (Nt (10 ^ k)) = some (Nt (10 ^ (k + (9 * m + r)))):=by
    intro m
    induction m with
    | zero =>
      intro r k h1 h2
      rw [Nat.mul_zero,Nat.zero_add]
      unfold Ref2.power.l0
      refine loopO_end ?_
      show Ref2.power.s0 (r:Int) (Nt (10 ^ k)) = _
      unfold Ref2.power.s0
      refine letF (decide_eq_false (by omega)) ?_
      rw [hl1 r k (by omega) (by omega)]; rfl
    | succ m ih =>
      intro r k h1 h2
      unfold Ref2.power.l0
      refine loopO_next (t:=(((9 * m + r:Nat):Int),Nt (10 ^ (k + 9)))) ?_ ?_
      · show Ref2.power.s0 ((9 * (m + 1) + r:Nat):Int) (Nt (10 ^ k)) = _
        unfold Ref2.power.s0
        refine letT (decide_eq_true (by omega)) (bindE (small_eq (n:=1000000000) (by decide)) (bindE (t9 k (by omega)) (letV (y:=((9 * m + r:Nat):Int)) ?_ rfl)))
        rw [wi (by omega) (by omega)]; omega
      · have:=ih r (k + 9) h1 (by omega)
        rw [show k + 9 + (9 * m + r) = k + (9 * (m + 1) + r) by omega] at this
        exact this
  unfold Ref2.power
  refine bindE (small_eq (n:=1) (by decide)) ?_
  have:=hl0 (n / 9) (n % 9) 0 (by omega) (by omega)
  rw [show 9 * (n / 9) + n % 9 = n by omega,Nat.zero_add] at this
  exact this
end Go.Q
