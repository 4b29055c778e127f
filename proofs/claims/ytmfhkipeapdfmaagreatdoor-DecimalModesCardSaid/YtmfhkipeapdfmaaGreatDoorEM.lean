import Derived.Test.YtmfhkipeapdfmaaGreatDoorES
import Derived.Test.YtmfhkipeapdfmaaGreatDoorDR
import Derived.Test.YtmfhkipeapdfmaaGreatDoorEG5
import Derived.Test.YtmfhkipeapdfmaaGreatDoorER9
import Derived.Test.YtmfhkipeapdfmaaGreatDoorDX
namespace Go.Q
open Go
set_option maxRecDepth 10000
def codeS (p w s k:Nat):Int:=IntKind.i64.wrap (((s * 2 ^ (p + w - 1) + k:Nat):Int))
theorem wi_ng {x:Int} (h:9223372036854775808 ≤ x) (h2:x < 18446744073709551616):IntKind.i64.wrap x = x - 18446744073709551616:=by
  rw [IntKind.wrap_i64]; omega
theorem wrap_u {v:Nat} (hv:v < 18446744073709551616):(IntKind.i64.wrap (v:Int) % 18446744073709551616).toNat = v ∧ I64 (IntKind.i64.wrap (v:Int)):=by
  unfold I64
  rcases Nat.lt_or_ge v 9223372036854775808 with q | q
  · rw [wi (by omega) (by omega)]; omega
  · rw [wi_ng (by omega) (by omega)]; omega
theorem pack_code (p w s E f:Nat):packS p w (s:Int) E f = codeS p w s (E * 2 ^ (p - 1) + f):=by
  unfold packS codeS
  rw [show ((s:Int)).toNat = s from rfl,Nat.add_assoc]
theorem code_facts {p w:Nat} (h:OkS p w) {s k:Nat} (hs:s < 2) (hk:k ≤ (2 ^ w - 1) * 2 ^ (p - 1)) :
    I64 (codeS p w s k) ∧ bitsOk p w (codeS p w s k) ∧ sgnS p w (codeS p w s k % 18446744073709551616).toNat = s ∧ sizeS p w (codeS p w s k) = k:=by
  obtain ⟨a1,a2,a3,a4,a5,_⟩:=h.facts
  have hpw:2 ^ (p + w - 1) = 2 ^ w * 2 ^ (p - 1):=by rw [← Nat.pow_add]; congr 1; omega
  have hp1:=Nat.two_pow_pos (p - 1)
  have hk2:k < 2 ^ (p + w - 1):=by
    have e:(2 ^ w - 1) * 2 ^ (p - 1) + 2 ^ (p - 1) = 2 ^ (p + w - 1):=by
      rw [hpw]
      have:=Nat.two_pow_pos w
      have h2:=Nat.add_mul (2 ^ w - 1) 1 (2 ^ (p - 1))
      rw [Nat.one_mul,show 2 ^ w - 1 + 1 = 2 ^ w by omega] at h2
      exact h2.symm
    omega
  have hpp:2 ^ (p + w) = 2 * 2 ^ (p + w - 1):=by rw [Nat.mul_comm,← Nat.pow_succ]; congr 1; omega
  have hu:s * 2 ^ (p + w - 1) + k < 2 ^ (p + w):=by
    have:=Nat.mul_le_mul_right (2 ^ (p + w - 1)) (show s ≤ 1 by omega)
    omega
  have h64:2 ^ (p + w) ≤ 18446744073709551616:=by rw [show (18446744073709551616:Nat) = 2 ^ 64 by decide]; exact Nat.pow_le_pow_right (by decide) a3
  obtain ⟨hm,hI⟩:=wrap_u (Nat.lt_of_lt_of_le hu h64)
  rw [show IntKind.i64.wrap (((s * 2 ^ (p + w - 1) + k:Nat):Int)) = codeS p w s k from rfl] at hm hI
  refine ⟨?_,?_,?_,?_⟩
  · exact hI
  · unfold bitsOk; rw [hm]; rintro ⟨_,h2⟩; omega
  · rw [hm]; unfold sgnS
    rw [Nat.mul_comm,Nat.mul_add_div (Nat.two_pow_pos _),Nat.div_eq_of_lt hk2,Nat.add_zero,Nat.mod_eq_of_lt hs]
  · unfold sizeS; rw [hm,Nat.mul_comm,Nat.mul_add_mod,Nat.mod_eq_of_lt hk2]
theorem code_place {p w:Nat} (h:OkS p w) {s k:Nat} (hs:s < 2) (hk:k ≤ (2 ^ w - 1) * 2 ^ (p - 1)):placeS p w (codeS p w s k) = if s = 1 then -(k:Int) else k:=by
  obtain ⟨_,_,h3,h4⟩:=code_facts h hs hk
  unfold placeS
  rw [h3,h4]
theorem code_inj {p w:Nat} (h:OkS p w) {s k k2:Nat} (hs:s < 2) (hk:k ≤ (2 ^ w - 1) * 2 ^ (p - 1)) (hk2:k2 ≤ (2 ^ w - 1) * 2 ^ (p - 1)) (e:codeS p w s k = codeS p w s k2):k = k2:=by
  have h1:=(code_facts h hs hk).2.2.2
  have h2:=(code_facts h hs hk2).2.2.2
  rw [e] at h1; omega
theorem away_ov {mode:Int} (hm:0 ≤ mode ∧ mode < 4) {s:Nat} (hs:s < 2) {odd:Bool} {r:Nat} (h:awayS mode s odd r = true):ovB mode s = false:=by
  obtain rfl | rfl:s = 0 ∨ s = 1:=by omega
  · obtain rfl | rfl | rfl | rfl:mode = 0 ∨ mode = 1 ∨ mode = 2 ∨ mode = 3:=by omega
    · rfl
    · exact Bool.noConfusion (h.symm.trans (show awayS 1 _ odd r = false by unfold awayS; rw [if_neg (by decide),if_neg (by decide),if_neg (by decide)]))
    · exfalso
      unfold awayS at h
      rw [if_neg (by decide),if_pos rfl] at h
      simp at h
    · rfl
  · obtain rfl | rfl | rfl | rfl:mode = 0 ∨ mode = 1 ∨ mode = 2 ∨ mode = 3:=by omega
    · rfl
    · exact Bool.noConfusion (h.symm.trans (show awayS 1 _ odd r = false by unfold awayS; rw [if_neg (by decide),if_neg (by decide),if_neg (by decide)]))
    · rfl
    · exfalso
      unfold awayS at h
      rw [if_neg (by decide),if_neg (by decide),if_pos rfl] at h
      simp at h
theorem modes_num {p w:Nat} (h:OkS p w) {s:Nat} (hs:s < 2) {num den:Nat} (hn:0 < num) (hd:0 < den) :
    (∃ k,k ≤ (2 ^ w - 1) * 2 ^ (p - 1) ∧ ∀ mode,0 ≤ mode ∧ mode < 4 → rndF p w mode s num den = (codeS p w s k,0)) ∨
    (∃ k,k + 1 ≤ (2 ^ w - 1) * 2 ^ (p - 1) ∧ ∀ mode,0 ≤ mode ∧ mode < 4 → ∃ (b:Bool) (f:Int),f ≠ 0 ∧ rndF p w mode s num den = (codeS p w s (if b = true then k + 1 else k),f) ∧ (mode = 2 → b = decide (s = 1)) ∧ (mode = 3 → b = decide (s = 0))):=by
  obtain ⟨a1,a2,a3,a4,a5,_⟩:=h.facts
  obtain ⟨b1,b2,b3,b4⟩:=bias_pow h
  have hlst:lstS p w = 2 - biasS w - p:=rfl
  have hpp:2 ^ p = 2 * 2 ^ (p - 1):=by rw [Nat.mul_comm,← Nat.pow_succ]; congr 1; omega
  have hp1:=Nat.two_pow_pos (p - 1)
  obtain ⟨e,q,t,d,h1,h2,h3,h4,h5,h6,h7⟩:=frac_parts (p:=p) (w:=w) (by omega) hn hd
  have hq:q < 2 ^ p:=bl_le_iff.1 h5
  have rnd:∀ mode,rndF p w mode s num den = endS p w mode s (if (if awayS mode s (decide (q % 2 = 1)) (rsC t d) = true then q + 1 else q) = 2 ^ p then e + 1 else e) (if 0 < rsC t d then (if q < 2 ^ (p - 1) then 24 else 16) else 0)
      (if (if awayS mode s (decide (q % 2 = 1)) (rsC t d) = true then q + 1 else q) = 2 ^ p then 2 ^ (p - 1) else (if awayS mode s (decide (q % 2 = 1)) (rsC t d) = true then q + 1 else q)):=fun mode=>by
    rw [ref_rnd hd hn h1 h2 h3 h4 h5 h6 (by omega),fin_end h h4 h5 h6 rfl]
  generalize rsC t d = r at rnd
  by_cases ov:e + p - 1 > biasS w
  · right
    refine ⟨(2 ^ w - 2) * 2 ^ (p - 1) + (2 ^ (p - 1) - 1),?_,fun mode hm=>⟨!ovB mode s,20,by decide,?_,?_,?_⟩⟩
    · have h2:=Nat.add_mul (2 ^ w - 2) 1 (2 ^ (p - 1))
      rw [Nat.one_mul,show 2 ^ w - 2 + 1 = 2 ^ w - 1 by omega] at h2
      omega
    · rw [rnd mode]
      unfold endS
      rw [if_pos (by split <;> omega)]
      cases ovB mode s with
      | true=>rw [pack_code]; rfl
      | false =>
        show (packS p w s (2 ^ w - 1) 0,(20:Int)) = (codeS p w s ((2 ^ w - 2) * 2 ^ (p - 1) + (2 ^ (p - 1) - 1) + 1),20)
        have h2:=Nat.add_mul (2 ^ w - 2) 1 (2 ^ (p - 1))
        rw [Nat.one_mul,show 2 ^ w - 2 + 1 = 2 ^ w - 1 by omega] at h2
        rw [pack_code,show (2 ^ w - 2) * 2 ^ (p - 1) + (2 ^ (p - 1) - 1) + 1 = (2 ^ w - 1) * 2 ^ (p - 1) + 0 by omega]
    · rintro rfl; obtain rfl | rfl:s = 0 ∨ s = 1:=by omega
      · rfl
      · rfl
    · rintro rfl; obtain rfl | rfl:s = 0 ∨ s = 1:=by omega
      · rfl
      · rfl
  · have lowe:q < 2 ^ (p - 1) → e = lstS p w:=by
      intro hh
      rcases h6 with h6 | h6
      · have:=bl_le_iff.2 hh; omega
      · exact h6
    obtain ⟨E,hE⟩:∃ E:Nat,(E:Int) = e + biasS w + p - 1:=⟨(e + biasS w + p - 1).toNat,by omega⟩
    obtain ⟨k,hk⟩:∃ k,k = if q < 2 ^ (p - 1) then q else E * 2 ^ (p - 1) + (q - 2 ^ (p - 1)):=⟨_,rfl⟩
    have hEw:E ≤ 2 ^ w - 2:=by omega
    have hEm:=Nat.mul_le_mul_right (2 ^ (p - 1)) hEw
    have hadd:=Nat.add_mul (2 ^ w - 2) 1 (2 ^ (p - 1))
    rw [Nat.one_mul,show 2 ^ w - 2 + 1 = 2 ^ w - 1 by omega] at hadd
    have hkle:k + 1 ≤ (2 ^ w - 1) * 2 ^ (p - 1):=by
      rw [hk]
      split
      · have:1 * 2 ^ (p - 1) ≤ (2 ^ w - 1) * 2 ^ (p - 1):=Nat.mul_le_mul_right _ (by omega)
        omega
      · omega
    have hEt:∀ f,(e + biasS w + p - 1).toNat * 2 ^ (p - 1) + f = E * 2 ^ (p - 1) + f:=fun f=>by rw [show (e + biasS w + p - 1).toNat = E by omega]
    have at_q:∀ mode flags,endS p w mode s (if q = 2 ^ p then e + 1 else e) flags (if q = 2 ^ p then 2 ^ (p - 1) else q) = (codeS p w s k,flags):=by
      intro mode flags
      rw [if_neg (by omega),if_neg (by omega)]
      unfold endS
      rw [if_neg ov,hk]
      by_cases c:q < 2 ^ (p - 1)
      · rw [if_pos c,if_pos c,pack_code,Nat.zero_mul,Nat.zero_add]
      · rw [if_neg c,if_neg c,pack_code,hEt]
    have at_up:∀ mode flags,ovB mode s = false → flags ≠ 0 → ∃ f:Int,f ≠ 0 ∧ endS p w mode s (if q + 1 = 2 ^ p then e + 1 else e) flags (if q + 1 = 2 ^ p then 2 ^ (p - 1) else q + 1) = (codeS p w s (k + 1),f):=by
      intro mode flags hov hfl
      by_cases c:q + 1 = 2 ^ p
      · rw [if_pos c,if_pos c]
        have hk2:k + 1 = (E + 1) * 2 ^ (p - 1):=by
          rw [hk,if_neg (by omega),Nat.add_mul,Nat.one_mul]; omega
        unfold endS
        by_cases c2:e + 1 + p - 1 > biasS w
        · rw [if_pos c2,hov]
          refine ⟨20,by decide,?_⟩
          show (packS p w s (2 ^ w - 1) 0,(20:Int)) = _
          rw [pack_code,hk2,show E + 1 = 2 ^ w - 1 by omega,Nat.add_zero]
        · rw [if_neg c2,if_neg (by omega)]
          refine ⟨flags,hfl,?_⟩
          rw [pack_code,hk2,show (e + 1 + biasS w + p - 1).toNat = E + 1 by omega,Nat.sub_self,Nat.add_zero]
      · rw [if_neg c,if_neg c]
        unfold endS
        rw [if_neg ov]
        refine ⟨flags,hfl,?_⟩
        by_cases c2:q + 1 < 2 ^ (p - 1)
        · rw [if_pos c2,pack_code,hk,if_pos (by omega),Nat.zero_mul,Nat.zero_add]
        · rw [if_neg c2,pack_code,hEt]
          congr 2
          rw [hk]
          by_cases c3:q < 2 ^ (p - 1)
          · have:=lowe c3
            rw [if_pos c3,show E = 1 by omega,Nat.one_mul]; omega
          · rw [if_neg c3]; omega
    rcases Nat.eq_zero_or_pos r with h0 | h0
    · left
      refine ⟨k,by omega,fun mode hm=>?_⟩
      rw [rnd mode,h0,aw0]
      exact at_q mode 0
    · right
      refine ⟨k,hkle,fun mode hm=>?_⟩
      rw [rnd mode,if_pos h0]
      have hfl:(if q < 2 ^ (p - 1) then (24:Int) else 16) ≠ 0:=by split <;> decide
      have m2:mode = 2 → awayS mode s (decide (q % 2 = 1)) r = decide (s = 1):=by
        rintro rfl
        unfold awayS
        rw [if_neg (by decide),if_pos rfl,decide_eq_true h0,Bool.true_and]
        obtain rfl | rfl:s = 0 ∨ s = 1:=by omega
        · rfl
        · rfl
      have m3:mode = 3 → awayS mode s (decide (q % 2 = 1)) r = decide (s = 0):=by
        rintro rfl
        unfold awayS
        rw [if_neg (by decide),if_neg (by decide),if_pos rfl,decide_eq_true h0,Bool.true_and]
        obtain rfl | rfl:s = 0 ∨ s = 1:=by omega
        · rfl
        · rfl
      cases ha:awayS mode s (decide (q % 2 = 1)) r with
      | true =>
        obtain ⟨f,f1,f2⟩:=at_up mode _ (away_ov hm hs ha) hfl
        exact ⟨true,f,f1,f2,fun hh=>ha.symm.trans (m2 hh),fun hh=>ha.symm.trans (m3 hh)⟩
      | false =>
        exact ⟨false,_,hfl,at_q mode _,fun hh=>ha.symm.trans (m2 hh),fun hh=>ha.symm.trans (m3 hh)⟩
end Go.Q
namespace Go.Q
open Go
set_option maxRecDepth 10000
theorem modes_run {text:ByteArray} {kind a0 a1 a2 a3 f0 f1 f2 f3 c:Int} (r0:Dec.Read text kind 0 = some (a0,f0,0)) (r1:Dec.Read text kind 1 = some (a1,f1,0)) (r2:Dec.Read text kind 2 = some (a2,f2,0)) (r3:Dec.Read text kind 3 = some (a3,f3,0))
    (hc:Ref1.Compare kind a2 a3 = some (c,0)) (h1:c ≠ 1) (h2:(a2 == a3) = (f2 == 0)) (h3:(f2 == 0) = (f3 == 0)) (h4:a0 = a2 ∨ a0 = a3) (h5:a1 = a2 ∨ a1 = a3):Law2.DecimalModes.j0 text kind = some true:=by
  have aw:(Option.bind Law2.Awake fun t=>some t) = some true:=by rw [Law2.Awake_eq]; rfl
  have hj1:Law2.DecimalModes.j1 [a0,a1,a2,a3] = some true:=by
    unfold Law2.DecimalModes.j1
    refine chkE (by decide) (letV rfl (bindE (a:=a0) rfl (chkE (by decide) (letV rfl (bindE (a:=a2) rfl ?_)))))
    by_cases e:a0 = a2
    · refine letT (by rw [e]; exact beq_self_eq_true _) (chkE (by decide) (letV rfl (bindE (a:=a1) rfl (chkE (by decide) (letV rfl (bindE (a:=a2) rfl ?_))))))
      by_cases e2:a1 = a2
      · exact letT (by rw [e2]; exact beq_self_eq_true _) aw
      · exact letF (beq_false_of_ne e2) (chkE (by decide) (letV rfl (bindE (a:=a1) rfl (chkE (by decide) (letV rfl (bindE (a:=a3) rfl (letT (by rw [h5.resolve_left e2]; exact beq_self_eq_true _) aw)))))))
    · refine letF (beq_false_of_ne e) (chkE (by decide) (letV rfl (bindE (a:=a0) rfl (chkE (by decide) (letV rfl (bindE (a:=a3) rfl (letT (by rw [h4.resolve_left e]; exact beq_self_eq_true _) (chkE (by decide) (letV rfl (bindE (a:=a1) rfl (chkE (by decide) (letV rfl (bindE (a:=a2) rfl ?_)))))))))))))
      by_cases e2:a1 = a2
      · exact letT (by rw [e2]; exact beq_self_eq_true _) aw
      · exact letF (beq_false_of_ne e2) (chkE (by decide) (letV rfl (bindE (a:=a1) rfl (chkE (by decide) (letV rfl (bindE (a:=a3) rfl (letT (by rw [h5.resolve_left e2]; exact beq_self_eq_true _) aw)))))))
  unfold Law2.DecimalModes.j0 Law2.DecimalModes.l0
  refine loopO_next (t:=([a0,0,0,0],[f0,0,0,0],1)) ?_ (loopO_next (t:=([a0,a1,0,0],[f0,f1,0,0],2)) ?_ (loopO_next (t:=([a0,a1,a2,0],[f0,f1,f2,0],3)) ?_ (loopO_next (t:=([a0,a1,a2,a3],[f0,f1,f2,f3],4)) ?_ (loopO_end ?_))))
  · show Law2.DecimalModes.s0 text kind [0,0,0,0] [0,0,0,0] 0 = _
    unfold Law2.DecimalModes.s0
    exact letT rfl (bindE r0 (letF rfl (chkE (by decide) (letV rfl (bindE (a:=0) rfl (letV rfl (chkE (by decide) (letV rfl (bindE (a:=0) rfl (letV rfl (letV rfl rfl)))))))))))
  · show Law2.DecimalModes.s0 text kind [a0,0,0,0] [f0,0,0,0] 1 = _
    unfold Law2.DecimalModes.s0
    exact letT rfl (bindE r1 (letF rfl (chkE (by decide) (letV rfl (bindE (a:=0) rfl (letV rfl (chkE (by decide) (letV rfl (bindE (a:=0) rfl (letV rfl (letV rfl rfl)))))))))))
  · show Law2.DecimalModes.s0 text kind [a0,a1,0,0] [f0,f1,0,0] 2 = _
    unfold Law2.DecimalModes.s0
    exact letT rfl (bindE r2 (letF rfl (chkE (by decide) (letV rfl (bindE (a:=0) rfl (letV rfl (chkE (by decide) (letV rfl (bindE (a:=0) rfl (letV rfl (letV rfl rfl)))))))))))
  · show Law2.DecimalModes.s0 text kind [a0,a1,a2,0] [f0,f1,f2,0] 3 = _
    unfold Law2.DecimalModes.s0
    exact letT rfl (bindE r3 (letF rfl (chkE (by decide) (letV rfl (bindE (a:=0) rfl (letV rfl (chkE (by decide) (letV rfl (bindE (a:=0) rfl (letV rfl (letV rfl rfl)))))))))))
  · show Law2.DecimalModes.s0 text kind [a0,a1,a2,a3] [f0,f1,f2,f3] 4 = _
    unfold Law2.DecimalModes.s0
    refine letF rfl (congrArg (Option.map Sum.inr) (?_:_ = some true))
    refine chkE (by decide) (letV rfl (bindE (a:=a2) rfl (chkE (by decide) (letV rfl (bindE (a:=a3) rfl (bindE hc (letF rfl (letF (beq_false_of_ne h1) (chkE (by decide) (letV rfl (bindE (a:=a2) rfl (chkE (by decide) (letV rfl (bindE (a:=a3) rfl (letV rfl (chkE (by decide) (letV rfl (bindE (a:=f2) rfl (letV rfl (letF ?_ ?_))))))))))))))))))))
    · rw [h2]; cases (f2 == 0) <;> rfl
    · refine chkE (by decide) (letV rfl (bindE (a:=f2) rfl (letV rfl (chkE (by decide) (letV rfl (bindE (a:=f3) rfl (letV rfl (letF ?_ hj1))))))))
      rw [h3]; cases (f3 == 0) <;> rfl
theorem cmp_place {p w:Nat} {a b:Int} {x y:float.number} (h:placeS p w a ≤ placeS p w b):cmpS p w a b x y ≠ 1:=by
  unfold cmpS
  split
  · decide
  · split
    · decide
    · split
      · decide
      · rw [if_neg (by omega)]; decide
theorem modes_of {kind:Int} {p w:Nat} (h:kindS kind p w) {s:Nat} (hs:s < 2) {text:ByteArray} {R:Int → Int × Int} (hr:∀ mode,0 ≤ mode ∧ mode < 4 → Dec.Read text kind mode = some ((R mode).1,(R mode).2,0))
    (hR:(∃ k,k ≤ (2 ^ w - 1) * 2 ^ (p - 1) ∧ ∀ mode,0 ≤ mode ∧ mode < 4 → R mode = (codeS p w s k,0)) ∨
    (∃ k,k + 1 ≤ (2 ^ w - 1) * 2 ^ (p - 1) ∧ ∀ mode,0 ≤ mode ∧ mode < 4 → ∃ (b:Bool) (f:Int),f ≠ 0 ∧ R mode = (codeS p w s (if b = true then k + 1 else k),f) ∧ (mode = 2 → b = decide (s = 1)) ∧ (mode = 3 → b = decide (s = 0)))):Law2.DecimalModes.j0 text kind = some true:=by
  have rd:∀ mode a f,0 ≤ mode ∧ mode < 4 → R mode = (a,f) → Dec.Read text kind mode = some (a,f,0):=fun mode a f hm e=>by have:=hr mode hm; rw [e] at this; exact this
  rcases hR with ⟨k,hk,hR⟩ | ⟨k,hk,hR⟩
  · obtain ⟨c1,c2,c3,c4⟩:=code_facts h.ok hs hk
    refine modes_run (rd 0 _ _ (by decide) (hR 0 (by decide))) (rd 1 _ _ (by decide) (hR 1 (by decide))) (rd 2 _ _ (by decide) (hR 2 (by decide))) (rd 3 _ _ (by decide) (hR 3 (by decide))) (rCompare_eq h c1 c1 c2 c2) (cmp_place (Int.le_refl _)) (beq_self_eq_true _) rfl (.inl rfl) (.inl rfl)
  · obtain ⟨b0,f0,n0,e0,_,_⟩:=hR 0 (by decide)
    obtain ⟨b1,f1,n1,e1,_,_⟩:=hR 1 (by decide)
    obtain ⟨b2,f2,n2,e2,m2,_⟩:=hR 2 (by decide)
    obtain ⟨b3,f3,n3,e3,_,m3⟩:=hR 3 (by decide)
    have m2:=m2 rfl
    have m3:=m3 rfl
    obtain ⟨c1,c2,c3,c4⟩:=code_facts h.ok hs (show k ≤ _ by omega)
    obtain ⟨d1,d2,d3,d4⟩:=code_facts h.ok hs hk
    have q1:=code_place h.ok hs (show k ≤ _ by omega)
    have q2:=code_place h.ok hs hk
    have hne:codeS p w s k ≠ codeS p w s (k + 1):=fun e=>by have:=code_inj h.ok hs (show k ≤ _ by omega) hk e; omega
    have g2:(f2 == 0) = false:=beq_false_of_ne n2
    have g3:(f3 == 0) = false:=beq_false_of_ne n3
    obtain rfl | rfl:s = 0 ∨ s = 1:=by omega
    · obtain rfl:b2 = false:=m2
      obtain rfl:b3 = true:=m3
      rw [if_neg (by decide)] at q1 q2
      refine modes_run (rd 0 _ _ (by decide) e0) (rd 1 _ _ (by decide) e1) (rd 2 _ _ (by decide) e2) (rd 3 _ _ (by decide) e3) (rCompare_eq h c1 d1 c2 d2) (cmp_place (by show placeS p w (codeS p w 0 k) ≤ placeS p w (codeS p w 0 (k + 1)); rw [q1,q2]; omega)) ?_ (g2.trans g3.symm) ?_ ?_
      · rw [g2]; exact beq_false_of_ne hne
      · cases b0 <;> simp
      · cases b1 <;> simp
    · obtain rfl:b2 = true:=m2
      obtain rfl:b3 = false:=m3
      rw [if_pos rfl] at q1 q2
      refine modes_run (rd 0 _ _ (by decide) e0) (rd 1 _ _ (by decide) e1) (rd 2 _ _ (by decide) e2) (rd 3 _ _ (by decide) e3) (rCompare_eq h d1 c1 d2 c2) (cmp_place (by show placeS p w (codeS p w 1 (k + 1)) ≤ placeS p w (codeS p w 1 k); rw [q1,q2]; omega)) ?_ (g2.trans g3.symm) ?_ ?_
      · rw [g2]; exact beq_false_of_ne (Ne.symm hne)
      · cases b0 <;> simp
      · cases b1 <;> simp
theorem word_any (kind:Int) {p w:Nat} (h:kindS kind p w) {sg:Int} (hs:sg = 0 ∨ sg = 1) {wd:BS} (hw:wd = infB ∨ wd = nanB):∃ a,Dec.word kind ⟨sg,B wd,B [],0⟩ = some a ∧ I64 a ∧ bitsOk p w a:=by
  have nan:I64 (packS p w 0 (2 ^ w - 1) (2 ^ (p - 2))) ∧ bitsOk p w (packS p w 0 (2 ^ w - 1) (2 ^ (p - 2))):=by
    rcases h with ⟨rfl,rfl,rfl⟩ | ⟨rfl,rfl,rfl⟩ | ⟨rfl,rfl,rfl⟩ <;> exact ⟨⟨by decide,by decide⟩,by unfold bitsOk; decide⟩
  have inf:∀ s:Nat,s < 2 → I64 (packS p w s (2 ^ w - 1) 0) ∧ bitsOk p w (packS p w s (2 ^ w - 1) 0):=fun s hs=>by
    have:=code_facts h.ok hs (Nat.le_refl ((2 ^ w - 1) * 2 ^ (p - 1)))
    rw [pack_code,Nat.add_zero]; exact ⟨this.1,this.2.1⟩
  rcases hw with rfl | rfl
  · refine ⟨_,word_inf h hs,?_⟩
    rcases hs with rfl | rfl
    · exact inf 0 (by decide)
    · exact inf 1 (by decide)
  · exact ⟨_,word_nan h hs,nan⟩
theorem modes_kind {kind:Int} {p w:Nat} (h:kindS kind p w) {l:BS} (hl:l.length ≤ 1000) (hI:Dec.Is (B l) = some true):Law2.DecimalModes.j0 (B l) kind = some true:=by
  obtain ⟨d1,d2,d3⟩:=parse_eq hl
  cases hp:prsS l with
  | none =>
    obtain ⟨q,hq⟩:=d1 hp
    have:Dec.Is (B l) = some false:=bindE hq rfl
    rw [this] at hI; cases hI
  | some t =>
    cases t with
    | word sg wd =>
      obtain ⟨hs,hw⟩:=prsS_word hp
      obtain ⟨a,ha,i1,i2⟩:=word_any kind h hs hw
      have hwne:wd ≠ []:=by rcases hw with rfl | rfl <;> decide
      have rd:∀ mode,0 ≤ mode ∧ mode < 4 → Dec.Read (B l) kind mode = some (a,0,0):=fun mode hm=>by
        unfold Dec.Read
        exact bindE (isKind_eq h hm) (letF rfl (bindE (d2 _ _ hp) (letF rfl (letT (by rw [nil_eq]; exact congrArg not (decide_eq_false hwne)) (bindE ha rfl)))))
      exact modes_run (rd 0 (by decide)) (rd 1 (by decide)) (rd 2 (by decide)) (rd 3 (by decide)) (rCompare_eq h i1 i1 i2 i2) (cmp_place (Int.le_refl _)) (beq_self_eq_true _) rfl (.inl rfl) (.inl rfl)
    | num sg d x =>
      obtain ⟨hs,ha,hne,hlen,hx1,hx2⟩:=prsS_num hp
      obtain ⟨s,hs2,rfl⟩:∃ s:Nat,s < 2 ∧ sg = (s:Int):=by
        rcases hs with rfl | rfl
        · exact ⟨0,by decide,rfl⟩
        · exact ⟨1,by decide,rfl⟩
      rcases Nat.eq_zero_or_pos (vd d) with hv | hv
      · refine modes_of h hs2 (R:=fun _=>(packS p w s 0 0,0)) (fun mode hm=>Read_num h hm hl hp (round_zero h hm hs ha (by omega) (by omega) hv)) (.inl ⟨0,Nat.zero_le _,fun mode _=>?_⟩)
        show (packS p w s 0 0,(0:Int)) = _
        rw [pack_code,Nat.zero_mul,Nat.zero_add]
      · obtain ⟨num,den,hn,hd,hr⟩:=round_any h ha (by omega) (x:=x + d.length) (by omega) hv
        exact modes_of h hs2 (R:=fun mode=>rndF p w mode s num den) (fun mode hm=>Read_num h hm hl hp (hr mode s hm hs)) (modes_num h.ok hs2 hn hd)
theorem Is_any {l:BS} (hl:l.length ≤ 1000):∃ b,Dec.Is (B l) = some b:=by
  obtain ⟨d1,d2,d3⟩:=parse_eq hl
  cases hp:prsS l with
  | none=>obtain ⟨q,hq⟩:=d1 hp; exact ⟨_,bindE hq rfl⟩
  | some t =>
    cases t with
    | word sg wd=>exact ⟨_,bindE (d2 _ _ hp) rfl⟩
    | num sg d x=>exact ⟨_,bindE (d3 _ _ _ hp) rfl⟩
theorem DecimalModes_eq (text:ByteArray) (kind:Int):Law2.DecimalModes text kind = some true:=by
  have aw:(Option.bind Law2.Awake fun t=>some t) = some true:=by rw [Law2.Awake_eq]; rfl
  unfold Law2.DecimalModes
  refine letV rfl ?_
  by_cases c:(text.size:Int) > 200
  · exact letT (decide_eq_true c) aw
  · refine letF (decide_eq_false c) ?_
    have hl:(L text).length ≤ 1000:=by rw [L_len]; omega
    have go:∀ {p w:Nat},kindS kind p w → (Option.bind (Dec.Is text) fun t30=>letk (!t30) fun t31=>bif t31 then Option.bind (Law2.Awake) fun t33=>some t33 else Law2.DecimalModes.j0 text kind) = some true:=by
      intro p w h
      obtain ⟨b,i1⟩:=Is_any hl
      have hm:=modes_kind h hl
      rw [B_L] at i1 hm
      refine bindE i1 ?_
      cases b with
      | true=>exact letF rfl (hm i1)
      | false=>exact letT rfl aw
    by_cases k2:kind = 2
    · exact letF (by rw [k2]; rfl) (go (.inl ⟨k2,rfl,rfl⟩))
    · refine letT (bne_iff_ne.2 k2) ?_
      by_cases k4:kind = 4
      · exact letF (by rw [k4]; rfl) (go (.inr (.inl ⟨k4,rfl,rfl⟩)))
      · refine letT (bne_iff_ne.2 k4) ?_
        by_cases k8:kind = 8
        · exact letF (by rw [k8]; rfl) (go (.inr (.inr ⟨k8,rfl,rfl⟩)))
        · exact letT (bne_iff_ne.2 k8) aw
end Go.Q
