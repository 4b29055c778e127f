import Derived.Test.YtmfhkipeapdfmaaGreatDoorES
import Derived.Test.YtmfhkipeapdfmaaGreatDoorDR
import Derived.Test.YtmfhkipeapdfmaaGreatDoorDX
namespace Go.Q
open Go
set_option maxRecDepth 10000
theorem and_mask (x k:Nat) (hx:x < 18446744073709551616) (hk:k < 64):IntKind.u64.wrap (((BitVec.ofInt IntKind.u64.bits (x:Int) &&& BitVec.ofInt IntKind.u64.bits ((2 ^ k - 1:Nat):Int)).toNat:Nat):Int) = ((x % 2 ^ k:Nat):Int):=by
  have h2:2 ^ k ≤ 2 ^ 63:=Nat.pow_le_pow_right (by decide) (by omega)
  have h3:(2:Nat) ^ 63 = 9223372036854775808:=by decide
  rw [u_and _ _ hx (by omega),Nat.and_two_pow_sub_one_eq_mod]
theorem pow_mask {k:Nat} (hk:k < 64):IntKind.u64.wrap (((2 ^ k:Nat):Int) - 1) = ((2 ^ k - 1:Nat):Int):=by
  have h2:2 ^ k ≤ 2 ^ 63:=Nat.pow_le_pow_right (by decide) (by omega)
  have h3:(2:Nat) ^ 63 = 9223372036854775808:=by decide
  have h4:=Nat.two_pow_pos k
  rw [wu (by omega) (by omega)]; omega
theorem pow1_k {k:Nat} (hk:k < 64):IntKind.u64.wrap ((1:Int) * 2 ^ (min ((k:Nat):Int).toNat IntKind.u64.bits)) = ((2 ^ k:Nat):Int):=by
  have h1:2 ^ k < 18446744073709551616:=by
    rw [show (18446744073709551616:Nat) = 2 ^ 64 by decide]; exact Nat.pow_lt_pow_right (by decide) (by omega)
  have:=u_shl 1 k
  rw [Nat.one_mul,Nat.mod_eq_of_lt h1] at this
  exact this
theorem fParts {p w:Nat} (h:OkS p w) {a:Int} (hb:bitsOk p w a):Ref2.Form.parts (fm p w) a = some ((sgnS p w (uS a):Int),(expS p w (uS a):Int),(frcS p (uS a):Int)):=by
  obtain ⟨a1,a2,a3,a4,a5,a6⟩:=h.facts
  obtain ⟨w1,w2⟩:=wrap_toNat a
  have hu:(a % 18446744073709551616).toNat = uS a:=rfl
  rw [hu] at w1 w2
  have hw:2 ^ w ≤ 2 ^ 11:=Nat.pow_le_pow_right (by decide) a5
  have e63:(2:Nat) ^ 53 = 9007199254740992:=by decide
  have hp53:2 ^ (p - 1) ≤ 2 ^ 53:=Nat.pow_le_pow_right (by decide) (by omega)
  have hexp:expS p w (uS a) < 2 ^ w:=Nat.mod_lt _ (Nat.two_pow_pos _)
  have hfrc:frcS p (uS a) < 2 ^ (p - 1):=Nat.mod_lt _ (Nat.two_pow_pos _)
  have hj0:Ref2.Form.parts.j0 (fm p w) (uS a:Int) = some ((sgnS p w (uS a):Int),(expS p w (uS a):Int),(frcS p (uS a):Int)):=by
    have d1:uS a / 2 ^ (p + w - 1) < 18446744073709551616:=Nat.lt_of_le_of_lt (Nat.div_le_self _ _) w2
    have d2:uS a / 2 ^ (p - 1) < 18446744073709551616:=Nat.lt_of_le_of_lt (Nat.div_le_self _ _) w2
    have p1:IntKind.i64.wrap ((p:Int) - 1) = ((p - 1:Nat):Int):=by rw [wi (by omega) (by omega)]; omega
    unfold Ref2.Form.parts.j0
    refine letV p1 (letV (y:=((p + w - 1:Nat):Int)) ?_ (chkE (Int.natCast_nonneg _) (letV (u_shr _ (p + w - 1) w2) (letV (y:=(sgnS p w (uS a):Int)) ?_ (letV (y:=(sgnS p w (uS a):Int)) ?_ (letV p1 (chkE (Int.natCast_nonneg _) (letV (u_shr _ (p - 1) w2) (chkE (Int.natCast_nonneg _)
      (letV (pow1_k (k:=w) (by omega)) (letV (pow_mask (k:=w) (by omega)) (letV (y:=(expS p w (uS a):Int)) (and_mask _ w d2 (by omega)) (letV (y:=(expS p w (uS a):Int)) ?_ (letV p1 (chkE (Int.natCast_nonneg _) (letV (pow1_k (k:=p - 1) (by omega)) (letV (pow_mask (k:=p - 1) (by omega)) (letV (y:=(frcS p (uS a):Int)) (and_mask _ (p - 1) w2 (by omega)) rfl))))))))))))))))))
    · show IntKind.i64.wrap (((p - 1:Nat):Int) + (w:Int)) = _
      rw [wi (by omega) (by omega)]; omega
    · exact and_mask _ 1 d1 (by decide)
    · have:sgnS p w (uS a) < 2:=Nat.mod_lt _ (by decide)
      exact wi (by omega) (by omega)
    · exact wi (by omega) (by omega)
  unfold Ref2.Form.parts
  refine letV w1 ?_
  by_cases c:p < 53
  · have hlt:uS a < 2 ^ (p + w):=uS_lt h hb
    refine letT (decide_eq_true (show (p:Int) < 53 by omega)) (letV (y:=((p + w:Nat):Int)) (by show IntKind.i64.wrap ((p:Int) + (w:Int)) = _; rw [wi (by omega) (by omega)]; omega) (chkE (Int.natCast_nonneg _) (letV (pow1_k (k:=p + w) (by omega)) (letV (pow_mask (k:=p + w) (by omega)) (letV (y:=(uS a:Int)) ?_ hj0)))))
    rw [and_mask _ (p + w) w2 (by omega),Nat.mod_eq_of_lt hlt]
  · exact letF (decide_eq_false (show ¬ (p:Int) < 53 by omega)) hj0
theorem fOf {p w:Nat} (h:OkS p w) {a:Int} (hb:bitsOk p w a) :
    ((numS p w a).class_ = 1 → Ref2.Form.of (fm p w) a = some (⟨(numS p w a).sign,Nt ((numS p w a).m.toNat * 2 ^ (numS p w a).e.toNat),Nt (2 ^ (-(numS p w a).e).toNat)⟩,true)) ∧
    ((numS p w a).class_ ≠ 1 → ∃ q,Ref2.Form.of (fm p w) a = some (q,false)):=by
  obtain ⟨a1,a2,a3,a4,a5,a6⟩:=h.facts
  obtain ⟨b1,b2,b3,b4⟩:=bias_pow h
  have hlst:lstS p w = 2 - biasS w - p:=rfl
  have hp:=fParts h hb
  have ht:=fTop h
  have hw:2 ^ w ≤ 2 ^ 11:=Nat.pow_le_pow_right (by decide) a5
  have e53:(2:Nat) ^ 53 = 9007199254740992:=by decide
  have hp53:2 ^ (p - 1) ≤ 2 ^ 53:=Nat.pow_le_pow_right (by decide) (by omega)
  have hexp:expS p w (uS a) < 2 ^ w:=Nat.mod_lt _ (Nat.two_pow_pos _)
  have hfrc:frcS p (uS a) < 2 ^ (p - 1):=Nat.mod_lt _ (Nat.two_pow_pos _)
  have hn:numS p w a = readS p w (uS a):=rfl
  rw [hn]
  unfold readS
  generalize sgnS p w (uS a) = s at *
  generalize expS p w (uS a) = E at *
  generalize frcS p (uS a) = f at *
  have hj1:∀ (x:Int) (m:Nat) (q1:Int) (q2 q3:List Int),-2000 ≤ x ∧ x ≤ 2000 → m < 18446744073709551616 → Ref2.Form.of.j1 (s:Int) q1 q2 q3 x (m:Int) = some (⟨(s:Int),Nt (m * 2 ^ x.toNat),Nt (2 ^ (-x).toNat)⟩,true):=by
    intro x m q1 q2 q3 hx hm
    have hl:=lnB_two h32 hm
    have hl1:lnB 4294967296 1 = 1:=by rw [lnB_pos h32 (by decide),lnB_zero]
    unfold Ref2.Form.of.j1
    refine bindE (small_eq hm) (bindE (small_eq (n:=1) (by decide)) ?_)
    by_cases c:x ≥ 0
    · have hu:=up_eq (a:=m) (k:=x.toNat) (by omega)
      rw [Int.toNat_of_nonneg c] at hu
      refine letT (decide_eq_true c) (bindE hu ?_)
      rw [show (-x).toNat = 0 by omega,Nat.pow_zero]
    · have hu:=up_eq (a:=1) (k:=(-x).toNat) (by omega)
      rw [Int.toNat_of_nonneg (by omega),Nat.one_mul] at hu
      refine letF (decide_eq_false c) (letV (y:=-x) (by rw [wi (by omega) (by omega)]; omega) (bindE hu ?_))
      rw [show x.toNat = 0 by omega,Nat.pow_zero,Nat.mul_one]
  have go:∀ {X},(Option.bind (Ref2.Form.top (fm p w)) fun t21=>letk ((E:Int) == t21) fun t22=>bif t22 then Ref2.Form.of.j2 (s:Int) (E:Int) (f:Int) p w 0 [] [] true else letk ((E:Int) == (0:Int)) fun t25 =>
      bif t25 then letk ((f:Int) == (0:Int)) fun t28=>Ref2.Form.of.j2 (s:Int) (E:Int) (f:Int) p w 0 [] [] t28 else Ref2.Form.of.j2 (s:Int) (E:Int) (f:Int) p w 0 [] [] false) = X → Ref2.Form.of (fm p w) a = X:=by
    intro X hX
    unfold Ref2.Form.of
    exact bindE hp hX
  by_cases c1:E = 2 ^ w - 1
  · have hE:((E:Int) == ((2 ^ w - 1:Nat):Int)) = true:=by rw [c1]; exact beq_self_eq_true _
    have hf:∃ q,Ref2.Form.of (fm p w) a = some (q,false):=⟨_,go (bindE ht (letT hE rfl))⟩
    refine ⟨fun hc=>?_,fun _=>hf⟩
    exfalso
    by_cases c2:f = 0
    · rw [if_pos ⟨c1,c2⟩] at hc; exact absurd (show (2:Int) = 1 from hc) (by decide)
    · rw [if_neg (fun hh=>c2 hh.2),if_pos c1] at hc; exact absurd (show (3:Int) = 1 from hc) (by decide)
  · have hE:((E:Int) == ((2 ^ w - 1:Nat):Int)) = false:=beq_false_of_ne (by omega)
    rw [if_neg (fun hh=>c1 hh.1),if_neg c1]
    by_cases c2:E = 0
    · have hE0:((E:Int) == 0) = true:=by rw [c2]; rfl
      by_cases c3:f = 0
      · have hf0:((f:Int) == 0) = true:=by rw [c3]; rfl
        rw [if_pos ⟨c2,c3⟩]
        exact ⟨fun hc=>absurd (show (0:Int) = 1 from hc) (by decide),fun _=>⟨_,go (bindE ht (letF hE (letT hE0 (letV hf0 rfl))))⟩⟩
      · rw [if_neg (fun hh=>c3 hh.2),if_pos c2]
        refine ⟨fun _=>go (bindE ht (letF hE (letT hE0 (letV (beq_false_of_ne (by omega)) ?_)))),fun hc=>absurd rfl hc⟩
        show Ref2.Form.of.j0 (s:Int) (E:Int) (f:Int) p w 0 [] [] = _
        unfold Ref2.Form.of.j0
        exact bindE (fBias h) (letV (y:=2 - biasS w) (wi (by omega) (by omega)) (letV (y:=lstS p w) (wi (by omega) (by omega)) (letF (decide_eq_false (by omega)) (hj1 (lstS p w) f _ _ _ (by omega) (by omega)))))
    · rw [if_neg (fun hh=>c2 hh.1),if_neg c2]
      refine ⟨fun _=>go (bindE ht (letF hE (letF (beq_false_of_ne (by omega)) ?_))),fun hc=>absurd rfl hc⟩
      show Ref2.Form.of.j0 (s:Int) (E:Int) (f:Int) p w 0 [] [] = _
      unfold Ref2.Form.of.j0
      refine bindE (fBias h) (letV (y:=2 - biasS w) (wi (by omega) (by omega)) (letV (y:=lstS p w) (wi (by omega) (by omega)) (letT (decide_eq_true (by omega)) (letV (y:=((p - 1:Nat):Int)) (by rw [wi (by omega) (by omega)]; omega) (chkE (Int.natCast_nonneg _) (letV (pow1_k (k:=p - 1) (by omega)) (letV (wadd f (2 ^ (p - 1)) (by omega)) (bindE (fBias h)
        (letV (y:=(E:Int) - biasS w) (wi (by omega) (by omega)) (letV (y:=(E:Int) - biasS w - p) (wi (by omega) (by omega)) (letV (y:=(E:Int) - biasS w - p + 1) (wi (by omega) (by omega)) (hj1 _ (f + 2 ^ (p - 1)) _ _ _ (by omega) (by omega)))))))))))))
theorem vd_inj:∀ (l m:BS),l.length = m.length → l.all dgQ = true → m.all dgQ = true → vd l = vd m → l = m
  | [],[],_,_,_,_=>rfl
  | [],_ :: _,h,_,_,_=>by cases h
  | _ :: _,[],h,_,_,_=>by cases h
  | c :: l,d :: m,h,h1,h2,e=>by
    rw [List.length_cons,List.length_cons] at h
    rw [List.all_cons,Bool.and_eq_true] at h1 h2
    have hl:l.length = m.length:=by omega
    have v1:=vd_lt l h1.2
    have v2:=vd_lt m h2.2
    rw [vd_cons,vd_cons,hl] at e
    rw [hl] at v1
    have hc:cv c = cv d:=by
      have d1:(cv c * 10 ^ m.length + vd l) / 10 ^ m.length = cv c:=by rw [Nat.mul_comm,Nat.mul_add_div (Nat.pow_pos (by decide)),Nat.div_eq_of_lt v1,Nat.add_zero]
      have d2:(cv d * 10 ^ m.length + vd m) / 10 ^ m.length = cv d:=by rw [Nat.mul_comm,Nat.mul_add_div (Nat.pow_pos (by decide)),Nat.div_eq_of_lt v2,Nat.add_zero]
      rw [← d1,← d2,e]
    rw [hc] at e
    have hcd:c = d:=by rw [← dc_cv h1.1,← dc_cv h2.1,hc]
    rw [hcd,vd_inj l m hl h1.2 h2.2 (by omega)]
def lowD (r:Nat):Nat → BS
  | 0=>[]
  | i + 1=>dc (r / 10 ^ i % 10) :: lowD r i
theorem lowD_ok (r:Nat):∀ i,(lowD r i).length = i ∧ (lowD r i).all dgQ = true ∧ vd (lowD r i) = r % 10 ^ i
  | 0=>⟨rfl,rfl,by rw [Nat.pow_zero,Nat.mod_one]; rfl⟩
  | i + 1=>by
    obtain ⟨h1,h2,h3⟩:=lowD_ok r i
    have hd:r / 10 ^ i % 10 < 10:=Nat.mod_lt _ (by decide)
    refine ⟨by show (lowD r i).length + 1 = _; rw [h1],by show (dgQ _ && _) = true; rw [dc_digit hd,h2]; rfl,?_⟩
    show vd (dc (r / 10 ^ i % 10) :: lowD r i) = _
    rw [vd_cons,h1,h3,cv_dc hd]
    have:=modB_succ 10 r i
    unfold bdB at this
    omega
theorem lowD_nine {r:Nat} (h:r < 1000000000):lowD r 9 = nine r:=by
  obtain ⟨h1,h2,h3⟩:=lowD_ok r 9
  refine vd_inj _ _ (by rw [h1,nine_len h]) h2 (nine_dig r) ?_
  rw [h3,nine_vd]; exact Nat.mod_eq_of_lt h
theorem dig_str:∀ k,k < 10 → (⟨#[48,49,50,51,52,53,54,55,56,57]⟩:ByteArray).extract k (k + 1) = B [dc k]
  | 0,_=>rfl | 1,_=>rfl | 2,_=>rfl | 3,_=>rfl | 4,_=>rfl | 5,_=>rfl | 6,_=>rfl | 7,_=>rfl | 8,_=>rfl | 9,_=>rfl
  | k + 10,h=>by omega
theorem dec_l2 {out:BS} (ho:out.length ≤ 100000) (Q:List Int) {r:Nat} (hr:r < 1000000000):Ref2.nat.decimal.l2 (B out) Q (r:Int) ⟨#[]⟩ 0 = some (.inl (Q,B (nine r ++ out))):=by
  unfold Ref2.nat.decimal.l2
  have key:=loopO_run (step:=fun v:Int × ByteArray × Int=>Ref2.nat.decimal.s2 (B out) Q v.1 v.2.1 v.2.2) (r:=some (.inl (Q,B (nine r ++ out)))) (fun i=>(((r / 10 ^ i:Nat):Int),B (lowD r i),((i:Nat):Int))) 9 ?_ ?_
  · simp only [Nat.pow_zero,Nat.div_one] at key; exact key
  · intro i hi
    obtain ⟨l1,_,_⟩:=lowD_ok r i
    have hsz:(B (lowD r i)).size = i:=by rw [B_size,l1]
    have hle:r / 10 ^ i ≤ r:=Nat.div_le_self _ _
    have hd:r / 10 ^ i % 10 < 10:=Nat.mod_lt _ (by decide)
    have en:r / 10 ^ (i + 1) = r / 10 ^ i / 10:=by rw [Nat.pow_succ,← Nat.div_div_eq_div_mul]
    have el:lowD r (i + 1) = dc (r / 10 ^ i % 10) :: lowD r i:=rfl
    have h10:(⟨#[48,49,50,51,52,53,54,55,56,57]⟩:ByteArray).size = 10:=rfl
    rw [en,el]
    generalize r / 10 ^ i = z at *
    have tm:(((z:Nat):Int)).tmod 10 = ((z % 10:Nat):Int):=by rw [Int.tmod_eq_emod_of_nonneg (by omega)]; rfl
    show Ref2.nat.decimal.s2 (B out) Q (z:Int) (B (lowD r i)) (i:Int) = _
    unfold Ref2.nat.decimal.s2
    refine letT (decide_eq_true (by omega)) (chkE (by decide) (letV tm (chkE (by decide) (letV tm (letV (wadd _ 1 (by omega)) (chkE ⟨by omega,by omega,by rw [h10]; omega⟩ (letV (dig_str _ hd) (chkE ?_ (letV (B_app _ _) (chkE (by decide) (letV (y:=((z / 10:Nat):Int)) ?_ (letV (iadd i 1 (by omega)) rfl))))))))))))
    · rw [B_size,B_size,l1]; show ((1 + i:Nat):Int) ≤ _; omega
    · rw [Int.tdiv_eq_ediv_of_nonneg (by omega),wu (by omega) (by omega)]; rfl
  · refine loopO_end ?_
    show Ref2.nat.decimal.s2 (B out) Q ((r / 10 ^ 9:Nat):Int) (B (lowD r 9)) 9 = _
    unfold Ref2.nat.decimal.s2
    rw [lowD_nine hr]
    have hn:=nine_len hr
    refine letF rfl (congrArg (Option.map Sum.inr) (?_:_ = some (Sum.inl (Q,B (nine r ++ out)))))
    exact chkE (by rw [B_size,B_size,hn]; omega) (letV (B_app _ _) rfl)
theorem dec_l1:∀ l:BS,l.length ≤ 1000000 → Ref2.nat.decimal.l1 (B l) = some (B (l.dropWhile (· == 48)))
  | [],_=>by
    unfold Ref2.nat.decimal.l1
    refine loopO_end ?_
    show Ref2.nat.decimal.s1 (B []) = _
    unfold Ref2.nat.decimal.s1
    exact letV (y:=0) rfl (letF rfl rfl)
  | c :: r,hl=>by
    rw [List.length_cons] at hl
    obtain ⟨h1,h2,h3⟩:=head_sz c r
    have e48:=beqN c 48 (by decide)
    unfold Ref2.nat.decimal.l1
    rw [List.dropWhile_cons]
    cases h48:(c == 48) with
    | true =>
      rw [if_pos rfl,← dec_l1 r (by omega)]
      refine loopO_next (t:=B r) ?_ rfl
      show Ref2.nat.decimal.s1 (B (c :: r)) = _
      unfold Ref2.nat.decimal.s1
      exact letV (y:=((r.length + 1:Nat):Int)) (by rw [h1]) (letT (decide_eq_true (by omega)) (chkE (by omega) (letV h2 (letT (e48.trans h48) (chkE (by omega) (letV h3 rfl))))))
    | false =>
      rw [if_neg (by decide)]
      refine loopO_end ?_
      show Ref2.nat.decimal.s1 (B (c :: r)) = _
      unfold Ref2.nat.decimal.s1
      exact letV (y:=((r.length + 1:Nat):Int)) (by rw [h1]) (letT (decide_eq_true (by omega)) (chkE (by omega) (letV h2 (letF (e48.trans h48) rfl))))
theorem decimal_eq {v:Nat} (hv:bl v ≤ 20000):Ref2.nat.decimal (Nt v) = some (B (ds v)):=by
  have h9:1 < 1000000000:=by decide
  have hln:lnB 1000000000 v ≤ 10000:=by
    refine (lnB_iff h9 _ _).1 (Nat.lt_of_lt_of_le (bl_lt v) ?_)
    obtain ⟨K,hK⟩:∃ K:Nat,K = 10000:=⟨_,rfl⟩
    rw [← hK]
    have:(2:Nat) ^ (2 * K) ≤ 1000000000 ^ K:=by rw [Nat.pow_mul]; exact Nat.pow_le_pow_left (by decide) K
    exact Nat.le_trans (Nat.pow_le_pow_right (by decide) (by omega)) this
  unfold Ref2.nat.decimal Ref2.nat.decimal.l0
  have key:=loopO_run (step:=fun x:(List Int) × ByteArray=>Ref2.nat.decimal.s0 x.1 x.2) (r:=some (B (ds v))) (fun i=>(Nt (v / 1000000000 ^ i),B (parts9 v i))) (lnB 1000000000 v) ?_ ?_
  · simp only [Nat.pow_zero,Nat.div_one] at key; exact key
  · intro i hi
    have hp:0 < v / 1000000000 ^ i:=by
      rcases Nat.eq_zero_or_pos (v / 1000000000 ^ i) with h0 | h0
      · rw [up_none h9] at h0; omega
      · exact h0
    have hbl:bl (v / 1000000000 ^ i) ≤ 20000:=Nat.le_trans (bl_mono (Nat.div_le_self _ _)) hv
    have hl:=ln_bl (v / 1000000000 ^ i)
    have hl1:=lnB_gt h32 hp
    have hs:lnB 4294967296 1000000000 ≤ 1:=lnB_one h32 (by decide)
    have hr:=bd9_lt v i
    have hpl:=parts9_len v i
    show Ref2.nat.decimal.s0 (Nt (v / 1000000000 ^ i)) (B (parts9 v i)) = _
    unfold Ref2.nat.decimal.s0
    refine letV (y:=((lnB 4294967296 (v / 1000000000 ^ i):Nat):Int)) (by rw [Nt_len]) (letT (decide_eq_true (by omega)) (bindE (small_eq (n:=1000000000) (by decide)) (bindE (divide_eq (by decide) (by omega) (by omega)) (bindE (value_eq (v:=bdB 1000000000 v i) (by omega)) ?_))))
    rw [dec_l2 (by omega) _ hr,divB_succ]; rfl
  · have h0:v / 1000000000 ^ lnB 1000000000 v = 0:=(up_none h9).2 (Nat.le_refl _)
    have hpl:=parts9_len v (lnB 1000000000 v)
    refine loopO_end ?_
    show Ref2.nat.decimal.s0 (Nt (v / 1000000000 ^ lnB 1000000000 v)) (B (parts9 v (lnB 1000000000 v))) = _
    rw [h0,show Nt 0 = [] from dgB_zero _]
    unfold Ref2.nat.decimal.s0
    refine letV (y:=0) rfl (letF rfl ?_)
    rw [dec_l1 _ (by omega),parts9_all (Nat.le_refl _)]; rfl
end Go.Q
