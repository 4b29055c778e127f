import Derived.Test.YtmfhkipeapdfmaaGreatDoorDX
import Derived.Test.YtmfhkipeapdfmaaGreatDoorDFE
namespace Go.Q
open Go
set_option maxRecDepth 10000
theorem lex_vd:∀ (x y:BS),x.length = y.length → x.all dgQ = true → y.all dgQ = true → vd x ≤ vd y → (Op.bytesLess x y || x == y) = true
  | [],[],_,_,_,_=>rfl
  | [],_ :: _,h,_,_,_=>by cases h
  | _ :: _,[],h,_,_,_=>by cases h
  | a :: x,b :: y,h,hx,hy,hv=>by
    have hl:x.length = y.length:=by simpa using h
    simp only [List.all_cons,Bool.and_eq_true] at hx hy
    rw [vd_cons,vd_cons,hl] at hv
    have ux:=vd_lt x hx.2
    have uy:=vd_lt y hy.2
    rw [hl] at ux
    have da:=dgQ_b hx.1
    have db:=dgQ_b hy.1
    rcases Nat.lt_trichotomy (cv a) (cv b) with c | c | c
    · have:a < b:=by show a.toNat < b.toNat; unfold cv at c; omega
      simp [Op.bytesLess,this]
    · have e:a = b:=by apply UInt8.toNat_inj.1; unfold cv at c; omega
      subst e
      have ih:=lex_vd x y hl hx.2 hy.2 (by omega)
      simp only [Bool.or_eq_true,beq_iff_eq] at ih
      rcases ih with ih | ih
      · simp [Op.bytesLess,ih]
      · simp [ih]
    · exfalso
      have:=Nat.mul_le_mul_right (10 ^ y.length) (show cv b + 1 ≤ cv a from c)
      rw [Nat.add_mul,Nat.one_mul] at this
      omega
theorem kindS_same {kind:Int} {p w p2 w2:Nat} (h:kindS kind p w) (h2:kindS kind p2 w2):p = p2 ∧ w = w2:=by
  rcases h with ⟨a,b,c⟩ | ⟨a,b,c⟩ | ⟨a,b,c⟩ <;> rcases h2 with ⟨a2,b2,c2⟩ | ⟨a2,b2,c2⟩ | ⟨a2,b2,c2⟩ <;> first | exact ⟨by omega,by omega⟩ | (exfalso; omega)
theorem own_res {p w:Nat} {a:Int} {D:BS} {X:Int} (h:Own p w a D X) {n:Nat} (hn:1 ≤ n) (m:Bool):(resD D X n m).1.length = n ∧ (resD D X n m).1.all dgQ = true:=by
  have:=res_ok h.all h.head h.ne hn X m
  exact ⟨this.1,this.2.1⟩
theorem own_mono {p w:Nat} {a b:Int} {D E:BS} {X Y:Int} (hk:OkS p w) (hD:Own p w a D X) (hE:Own p w b E Y) (ka:bitsOk p w a) (kb:bitsOk p w b) (ca:(numS p w a).class_ = 1) (cb:(numS p w b).class_ = 1) (hs:sizeS p w a < sizeS p w b) {n:Nat} (hn:1 ≤ n) (mode:Int) :
    (resD D X n (awD mode 0 D n)).2 < (resD E Y n (awD mode 0 E n)).2 ∨ (resD D X n (awD mode 0 D n)).2 = (resD E Y n (awD mode 0 E n)).2 ∧ vd (resD D X n (awD mode 0 D n)).1 ≤ vd (resD E Y n (awD mode 0 E n)).1:=by
  obtain ⟨J,hJ⟩:∃ J:Nat,J = (lstS p w).natAbs:=⟨_,rfl⟩
  have na:=num_parts hk ca
  have nb:=num_parts hk cb
  refine res_mono hn hD.all hD.head hD.ne hE.all hE.head hE.ne (own_lt hD hE (J:=J) (by omega) (by omega) (flt_lt hk ka kb ca cb hs (by omega)))
theorem rises_j2 {c d:BS} {k l:Int} (hl:c.length = d.length) (hc:c.all dgQ = true) (hd:d.all dgQ = true) (h:k < l ∨ k = l ∧ vd c ≤ vd d):Law2.DecimalRises.j2 (B c) k (B d) l = some true:=by
  have aw:(Option.bind Law2.Awake fun t=>some t) = some true:=by rw [Law2.Awake_eq]; rfl
  unfold Law2.DecimalRises.j2
  by_cases hk:k < l
  · exact letT (decide_eq_true hk) aw
  · obtain ⟨h1,h2⟩:=h.resolve_left hk
    refine letF (decide_eq_false hk) (letT (by rw [h1]; exact beq_self_eq_true l) (letT ?_ aw))
    rw [toList_L,toList_L,L_B,L_B]
    exact lex_vd c d hl hc hd h2
theorem DecimalRises_eq (x:quadratlaw02.Float) (b n:Int) (hx:I64 x.Bits) (hb:I64 b):Law2.DecimalRises x b n = some true:=by
  have aw:(Option.bind Law2.Awake fun t=>some t) = some true:=by rw [Law2.Awake_eq]; rfl
  unfold Law2.DecimalRises
  rcases Digits_any x.Kind x.Mode x.Bits n with ⟨s1,c1,x1,h1⟩ | ⟨p,w,D,X,N,hk,ka,ca,hn,n1,n2,hD,h1⟩
  · rcases Digits_any x.Kind x.Mode b n with ⟨s2,c2,x2,h2⟩ | ⟨p2,w2,E,Y,N2,hk2,kb,cb,hn2,_,_,hE,h2⟩
    · exact bindE h1 (bindE h2 (letT rfl aw))
    · exact bindE h1 (bindE h2 (letT rfl aw))
  · rcases Digits_any x.Kind x.Mode b n with ⟨s2,c2,x2,h2⟩ | ⟨p2,w2,E,Y,N2,hk2,kb,cb,hn2,_,_,hE,h2⟩
    · exact bindE h1 (bindE h2 (letF rfl (letT rfl aw)))
    · obtain ⟨rfl,rfl⟩:=kindS_same hk hk2
      obtain rfl:N2 = N:=by omega
      refine bindE h1 (bindE h2 (letF rfl (letF rfl ?_)))
      have na:=num_parts hk.ok ca
      have nb:=num_parts hk.ok cb
      by_cases z1:(numS p w x.Bits).sign = 0
      · refine letF (by rw [z1]; rfl) ?_
        by_cases z2:(numS p w b).sign = 0
        · refine letF (by rw [z2]; rfl) ?_
          have hr:=rCompare_eq hk hx hb ka kb
          have s1:sgnS p w (x.Bits % 18446744073709551616).toNat ≠ 1:=by
            have:=na.2.2; rw [z1] at this; unfold uS at this; omega
          have s2:sgnS p w (b % 18446744073709551616).toNat ≠ 1:=by
            have:=nb.2.2; rw [z2] at this; unfold uS at this; omega
          have p1:placeS p w x.Bits = sizeS p w x.Bits:=by unfold placeS; rw [if_neg s1]
          have p2:placeS p w b = sizeS p w b:=by unfold placeS; rw [if_neg s2]
          have hcmp:cmpS p w x.Bits b (numS p w x.Bits) (numS p w b) = if sizeS p w x.Bits < sizeS p w b then -1 else if sizeS p w b < sizeS p w x.Bits then 1 else 0:=by
            unfold cmpS
            rw [if_neg (by rw [ca,cb]; decide),if_neg (by rw [ca]; rintro ⟨h,_⟩; exact absurd h (by decide)),p1,p2]
            by_cases q1:sizeS p w x.Bits < sizeS p w b
            · rw [if_pos (by omega),if_pos q1]
            · rw [if_neg (by omega),if_neg q1]
              by_cases q2:sizeS p w b < sizeS p w x.Bits
              · rw [if_pos (by omega),if_pos q2]
              · rw [if_neg (by omega),if_neg q2]
          rw [hcmp] at hr
          rw [z1] at h1
          rw [z2] at h2
          rw [z1,z2]
          obtain ⟨lc,dc_⟩:=own_res hD n1 (awD x.Mode 0 D N2)
          obtain ⟨le,de⟩:=own_res hE n1 (awD x.Mode 0 E N2)
          have bc:(B (resD D X N2 (awD x.Mode 0 D N2)).1).size = N2:=by rw [B_size,lc]
          have be:(B (resD E Y N2 (awD x.Mode 0 E N2)).1).size = N2:=by rw [B_size,le]
          unfold Law2.DecimalRises.j0
          refine bindE hr (letF rfl (letV (y:=n) (by rw [bc,hn]) (letF (bne_self_eq_false n) (letV (y:=n) (by rw [be,hn]) (letF (bne_self_eq_false n) ?_)))))
          unfold Law2.DecimalRises.j1
          rcases Nat.lt_trichotomy (sizeS p w x.Bits) (sizeS p w b) with q | q | q
          · rw [if_pos q]
            exact letF rfl (letF rfl (rises_j2 (by rw [lc,le]) dc_ de (own_mono hk.ok hD hE ka kb ca cb q n1 x.Mode)))
          · rw [if_neg (by omega),if_neg (by omega)]
            have hu:uS x.Bits = uS b:=by
              have sa:=(bits_split hk.ok (uS_lt hk.ok ka)).1
              have sb:=(bits_split hk.ok (uS_lt hk.ok kb)).1
              have g1:sgnS p w (uS x.Bits) = 0:=by have:=na.2.2; rw [z1] at this; omega
              have g2:sgnS p w (uS b) = 0:=by have:=nb.2.2; rw [z2] at this; omega
              have d1:=Nat.div_add_mod (uS x.Bits) (2 ^ (p + w - 1))
              have d2:=Nat.div_add_mod (uS b) (2 ^ (p + w - 1))
              have hp:0 < p + w:=by have:=hk.ok.facts; omega
              have t1:uS x.Bits / 2 ^ (p + w - 1) < 2:=by
                rw [Nat.div_lt_iff_lt_mul (Nat.two_pow_pos _),← Nat.pow_succ',show (p + w - 1).succ = p + w by omega]; exact uS_lt hk.ok ka
              have t2:uS b / 2 ^ (p + w - 1) < 2:=by
                rw [Nat.div_lt_iff_lt_mul (Nat.two_pow_pos _),← Nat.pow_succ',show (p + w - 1).succ = p + w by omega]; exact uS_lt hk.ok kb
              have v1:uS x.Bits / 2 ^ (p + w - 1) = 0:=(Nat.mod_eq_of_lt t1).symm.trans g1
              have v2:uS b / 2 ^ (p + w - 1) = 0:=(Nat.mod_eq_of_lt t2).symm.trans g2
              rw [v1,Nat.mul_zero,Nat.zero_add] at d1
              rw [v2,Nat.mul_zero,Nat.zero_add] at d2
              have:uS x.Bits % 2 ^ (p + w - 1) = uS b % 2 ^ (p + w - 1):=q
              omega
            have hab:b = x.Bits:=by
              unfold uS at hu; unfold I64 at hx hb; omega
            rw [hab,h1] at h2
            have h3:=Option.some.inj h2
            simp only [Prod.mk.injEq] at h3
            obtain ⟨_,g1,g2,_⟩:=h3
            rw [← g1,← g2]
            exact letT rfl (letT (beq_self_eq_true _) (letT (beq_self_eq_true _) aw))
          · rw [if_neg (by omega),if_pos q]
            exact letF rfl (letT rfl (rises_j2 (by rw [lc,le]) de dc_ (own_mono hk.ok hE hD kb ka cb ca q n1 x.Mode)))
        · refine letT ?_ aw
          rw [bne_iff_ne]; exact z2
      · refine letT ?_ aw
        rw [bne_iff_ne]; exact z1
end Go.Q
