import Derived.Test.YtmfhkipeapdfmaaGreatDoorDR
namespace Go.Q
open Go
set_option maxRecDepth 10000
theorem incR_grow:∀ r:BS,(incR r).length = r.length + 1 → ∃ q,incR r = q ++ [49]
  | [],_=>⟨[],rfl⟩
  | c :: r,h=>by
    unfold incR at h ⊢
    by_cases h9:c < 57
    · rw [if_pos h9] at h; simp at h
    · rw [if_neg h9] at h ⊢
      obtain ⟨q,hq⟩:=incR_grow r (by simpa using h)
      exact ⟨48 :: q,by rw [hq]; rfl⟩
theorem vd_one (q:BS):vd (49 :: q) = 10 ^ q.length + vd q:=by rw [vd_cons]; show 1 * _ + _ = _; rw [Nat.one_mul]
def resD (D:BS) (X:Int) (n:Nat) (more:Bool):BS × Int:=if (rdD D n more).length > n then ((rdD D n more).take n,X + 1) else (rdD D n more,X)
def RA (D:BS) (n:Nat) (more:Bool):Nat:=vd (topD D n) + (if more = true then 1 else 0)
theorem rdD_vd {D:BS} (ha:D.all dgQ = true) (n:Nat) (more:Bool):vd (rdD D n more) = RA D n more ∧ (rdD D n more).all dgQ = true:=by
  unfold rdD RA
  cases more with
  | true=>exact ⟨incD_vd (topD_dig ha n),incD_dig (topD_dig ha n)⟩
  | false=>exact ⟨rfl,topD_dig ha n⟩
theorem topD_low {D:BS} (ha:D.all dgQ = true) (hh:∀ c r,D = c :: r → c ≠ 48) (hne:D ≠ []) {n:Nat} (hn:1 ≤ n):10 ^ (n - 1) ≤ vd (topD D n) ∧ vd (topD D n) < 10 ^ n:=by
  have hl:=topD_len D n
  have hd:=topD_dig ha n
  have h2:=vd_lt (topD D n) hd
  rw [hl] at h2
  refine ⟨?_,h2⟩
  cases hD:D with
  | nil=>exact absurd hD hne
  | cons c r =>
    obtain ⟨m,rfl⟩:∃ m,n = m + 1:=⟨n - 1,by omega⟩
    have ht:topD (c :: r) (m + 1) = c :: topD r m:=by unfold topD; simp
    rw [hD,ht] at hd hl
    have:=Go.Q.vd_low (hh c r hD) hd
    rw [ht,Nat.add_sub_cancel]
    rw [List.length_cons] at hl
    rwa [show (topD r m).length = m by omega] at this
theorem res_ok {D:BS} (ha:D.all dgQ = true) (hh:∀ c r,D = c :: r → c ≠ 48) (hne:D ≠ []) {n:Nat} (hn:1 ≤ n) (X:Int) (more:Bool) :
    (resD D X n more).1.length = n ∧ (resD D X n more).1.all dgQ = true ∧ 10 ^ (n - 1) ≤ vd (resD D X n more).1 ∧
    ((vd (resD D X n more).1 = RA D n more ∧ RA D n more < 10 ^ n ∧ (resD D X n more).2 = X) ∨ (RA D n more = 10 ^ n ∧ vd (resD D X n more).1 = 10 ^ (n - 1) ∧ (resD D X n more).2 = X + 1)):=by
  obtain ⟨t1,t2⟩:=topD_low ha hh hne hn
  have hl:=topD_len D n
  obtain ⟨r1,r2⟩:=rdD_vd ha n more
  have hle:n ≤ (rdD D n more).length ∧ (rdD D n more).length ≤ n + 1:=by
    unfold rdD
    have:=incD_len (topD D n)
    split <;> omega
  unfold resD
  by_cases h:(rdD D n more).length > n
  · rw [if_pos h]
    have hinc:more = true:=by
      cases more with
      | true=>rfl
      | false=>unfold rdD at h; simp at h; omega
    have hlen:(rdD D n more).length = n + 1:=by omega
    obtain ⟨q,hq⟩:∃ q,rdD D n more = 49 :: q:=by
      have e:rdD D n more = (incR (topD D n).reverse).reverse:=by unfold rdD incD; rw [if_pos hinc]
      obtain ⟨q,hq⟩:=incR_grow (topD D n).reverse (by rw [List.length_reverse,hl]; have:=congrArg List.length e; rw [List.length_reverse] at this; omega)
      exact ⟨q.reverse,by rw [e,hq]; simp⟩
    have hql:q.length = n:=by rw [hq,List.length_cons] at hlen; omega
    have hv:vd (rdD D n more) = 10 ^ n + vd q:=by rw [hq,vd_one,hql]
    have hRA:RA D n more ≤ 10 ^ n:=by unfold RA; split <;> omega
    have hq0:vd q = 0:=by omega
    have hqa:q.all dgQ = true:=by rw [hq] at r2; simp only [List.all_cons,Bool.and_eq_true] at r2; exact r2.2
    have htk:(rdD D n more).take n = 49 :: q.take (n - 1):=by
      rw [hq]
      obtain ⟨m,rfl⟩:∃ m,n = m + 1:=⟨n - 1,by omega⟩
      rfl
    have hqt:vd (q.take (n - 1)) = 0:=by
      have:=(vd_parts hqa (k:=1) (by omega)).1
      rw [hql,hq0] at this
      simpa using this
    have hvv:vd ((rdD D n more).take n) = 10 ^ (n - 1):=by
      rw [htk,vd_one,hqt,List.length_take,Nat.min_eq_left (by omega),Nat.add_zero]
    refine ⟨by rw [List.length_take]; omega,all_take _ r2,by rw [hvv]; exact Nat.le_refl _,.inr ⟨by omega,hvv,rfl⟩⟩
  · rw [if_neg h]
    have hlen:(rdD D n more).length = n:=by omega
    have hlt:=vd_lt _ r2
    rw [hlen,r1] at hlt
    refine ⟨hlen,r2,?_,.inl ⟨r1,hlt,rfl⟩⟩
    rw [r1]; unfold RA; omega
theorem tops {D E:BS} (hD:D.all dgQ = true) (hE:E.all dgQ = true) (n:Nat) (h:vd D * 10 ^ E.length < vd E * 10 ^ D.length) :
    vd (topD D n) < vd (topD E n) ∨ vd (topD D n) = vd (topD E n) ∧ vd (D.drop n) * 10 ^ (E.drop n).length < vd (E.drop n) * 10 ^ (D.drop n).length:=by
  obtain ⟨a1,a2,a3⟩:=topD_vd hD (n:=n) rfl
  obtain ⟨b1,b2,b3⟩:=topD_vd hE (n:=n) rfl
  have da:=Nat.div_add_mod (vd D * 10 ^ ((n:Int) - D.length).toNat) (10 ^ (-((n:Int) - D.length)).toNat)
  have db:=Nat.div_add_mod (vd E * 10 ^ ((n:Int) - E.length).toNat) (10 ^ (-((n:Int) - E.length)).toNat)
  have ra:=Nat.mod_lt (vd E * 10 ^ ((n:Int) - E.length).toNat) (show 0 < 10 ^ (-((n:Int) - E.length)).toNat from Nat.pow_pos (by decide))
  rw [← a1,a2,a3] at da
  rw [← b1,b2,b3] at db
  rw [b2,b3] at ra
  have pa:10 ^ D.length * 10 ^ ((n:Int) - D.length).toNat = 10 ^ n * 10 ^ (D.drop n).length:=by
    rw [← Nat.pow_add,← Nat.pow_add,List.length_drop]; congr 1; omega
  have pb:10 ^ E.length * 10 ^ ((n:Int) - E.length).toNat = 10 ^ n * 10 ^ (E.drop n).length:=by
    rw [← Nat.pow_add,← Nat.pow_add,List.length_drop]; congr 1; omega
  have hp0:0 < 10 ^ (D.drop n).length:=Nat.pow_pos (by decide)
  have hq0:0 < 10 ^ (E.drop n).length:=Nat.pow_pos (by decide)
  have hn0:0 < 10 ^ n:=Nat.pow_pos (by decide)
  have key:(vd D * 10 ^ ((n:Int) - D.length).toNat) * 10 ^ (E.drop n).length < (vd E * 10 ^ ((n:Int) - E.length).toNat) * 10 ^ (D.drop n).length:=by
    refine Nat.lt_of_mul_lt_mul_left (a:=10 ^ n) ?_
    have z1:10 ^ n * ((vd D * 10 ^ ((n:Int) - D.length).toNat) * 10 ^ (E.drop n).length) = vd D * 10 ^ E.length * (10 ^ ((n:Int) - D.length).toNat * 10 ^ ((n:Int) - E.length).toNat):=by
      have:10 ^ n * ((vd D * 10 ^ ((n:Int) - D.length).toNat) * 10 ^ (E.drop n).length) = vd D * 10 ^ ((n:Int) - D.length).toNat * (10 ^ n * 10 ^ (E.drop n).length):=by simp only [Nat.mul_assoc,Nat.mul_comm,Nat.mul_left_comm]
      rw [this,← pb]; simp only [Nat.mul_assoc,Nat.mul_comm,Nat.mul_left_comm]
    have z2:10 ^ n * ((vd E * 10 ^ ((n:Int) - E.length).toNat) * 10 ^ (D.drop n).length) = vd E * 10 ^ D.length * (10 ^ ((n:Int) - D.length).toNat * 10 ^ ((n:Int) - E.length).toNat):=by
      have:10 ^ n * ((vd E * 10 ^ ((n:Int) - E.length).toNat) * 10 ^ (D.drop n).length) = vd E * 10 ^ ((n:Int) - E.length).toNat * (10 ^ n * 10 ^ (D.drop n).length):=by simp only [Nat.mul_assoc,Nat.mul_comm,Nat.mul_left_comm]
      rw [this,← pa]; simp only [Nat.mul_assoc,Nat.mul_comm,Nat.mul_left_comm]
    rw [z1,z2]
    exact Nat.mul_lt_mul_of_pos_right h (Nat.mul_pos (Nat.pow_pos (by decide)) (Nat.pow_pos (by decide)))
  rw [← da,← db] at key
  generalize vd (topD D n) = A at *
  generalize vd (topD E n) = C at *
  generalize vd (D.drop n) = s at *
  generalize vd (E.drop n) = t at *
  generalize 10 ^ (D.drop n).length = P at *
  generalize 10 ^ (E.drop n).length = Q at *
  have tP:t * P < Q * P:=Nat.mul_lt_mul_of_pos_right ra hp0
  rw [Nat.add_mul,Nat.add_mul] at key
  rcases Nat.lt_trichotomy A C with hlt | heq | hgt
  · exact .inl hlt
  · right
    refine ⟨heq,?_⟩
    rw [heq,show P * C * Q = Q * C * P by simp only [Nat.mul_assoc,Nat.mul_comm,Nat.mul_left_comm]] at key
    omega
  · exfalso
    have h1:P * (C + 1) * Q ≤ P * A * Q:=Nat.mul_le_mul_right _ (Nat.mul_le_mul_left _ hgt)
    have h2:P * (C + 1) * Q = Q * C * P + Q * P:=by rw [Nat.mul_add,Nat.mul_one,Nat.add_mul]; simp only [Nat.mul_assoc,Nat.mul_comm,Nat.mul_left_comm]
    omega
theorem awD_mono {mode:Int} {D E:BS} {n:Nat} (hA:vd (topD D n) = vd (topD E n)) (h:vd (D.drop n) * 10 ^ (E.drop n).length < vd (E.drop n) * 10 ^ (D.drop n).length) (ht:awD mode 0 D n = true):awD mode 0 E n = true:=by
  have hE:¬ E.length ≤ n:=fun hx=>by
    rw [List.drop_of_length_le hx,vd_nil,Nat.zero_mul] at h
    omega
  unfold awD at ht ⊢
  rw [if_neg hE]
  split at ht
  · cases ht
  · split at ht
    · rename_i m0
      rw [if_pos m0]
      have hh:10 ^ (D.drop n).length ≤ 2 * vd (D.drop n):=by
        rw [Bool.or_eq_true,Bool.and_eq_true,decide_eq_true_eq,decide_eq_true_eq] at ht
        rcases ht with q | q <;> omega
      have hP:0 < 10 ^ (D.drop n).length:=Nat.pow_pos (by decide)
      generalize vd (D.drop n) = s at *
      generalize vd (E.drop n) = t at *
      generalize 10 ^ (D.drop n).length = P at *
      generalize 10 ^ (E.drop n).length = Q at *
      have h1:P * Q ≤ 2 * s * Q:=Nat.mul_le_mul_right _ hh
      rw [Nat.mul_assoc] at h1
      have h2:P * Q < P * (2 * t):=by
        have:P * (2 * t) = 2 * (t * P):=by rw [Nat.mul_comm P (2 * t),Nat.mul_assoc]
        omega
      have h3:=Nat.lt_of_mul_lt_mul_left h2
      rw [decide_eq_true h3]; rfl
    · rename_i m0
      rw [if_neg m0]
      split at ht
      · exact absurd ht (by decide)
      · rename_i m2
        rw [if_neg m2]
        split at ht
        · rename_i m3; rw [if_pos m3]; rfl
        · cases ht
theorem res_mono {mode:Int} {D E:BS} {X Y:Int} {n:Nat} (hn:1 ≤ n) (hD:D.all dgQ = true) (hDh:∀ c r,D = c :: r → c ≠ 48) (hDn:D ≠ []) (hE:E.all dgQ = true) (hEh:∀ c r,E = c :: r → c ≠ 48) (hEn:E ≠ [])
    (h:X < Y ∨ X = Y ∧ vd D * 10 ^ E.length < vd E * 10 ^ D.length) :
    (resD D X n (awD mode 0 D n)).2 < (resD E Y n (awD mode 0 E n)).2 ∨ (resD D X n (awD mode 0 D n)).2 = (resD E Y n (awD mode 0 E n)).2 ∧ vd (resD D X n (awD mode 0 D n)).1 ≤ vd (resD E Y n (awD mode 0 E n)).1:=by
  obtain ⟨_,_,a3,a4⟩:=res_ok hD hDh hDn hn X (awD mode 0 D n)
  obtain ⟨_,_,b3,b4⟩:=res_ok hE hEh hEn hn Y (awD mode 0 E n)
  rcases h with h | ⟨h,hlt⟩
  · rcases a4 with ⟨_,_,ak⟩ | ⟨_,av,ak⟩
    · left
      rcases b4 with ⟨_,_,bk⟩ | ⟨_,_,bk⟩ <;> omega
    · rcases b4 with ⟨_,_,bk⟩ | ⟨_,_,bk⟩
      · rcases Int.lt_or_le (X + 1) Y with hx | hx
        · left; omega
        · right; exact ⟨by omega,by omega⟩
      · left; omega
  · have hR:RA D n (awD mode 0 D n) ≤ RA E n (awD mode 0 E n):=by
      unfold RA
      rcases tops hD hE n hlt with q | ⟨q1,q2⟩
      · split <;> split <;> omega
      · cases hw:awD mode 0 D n with
        | false=>rw [if_neg (by decide)]; omega
        | true=>rw [awD_mono q1 q2 hw]; omega
    rcases a4 with ⟨av,al,ak⟩ | ⟨ar,av,ak⟩
    · rcases b4 with ⟨bv,bl,bk⟩ | ⟨br,bv,bk⟩
      · right; exact ⟨by omega,by omega⟩
      · left; omega
    · rcases b4 with ⟨bv,bl,bk⟩ | ⟨br,bv,bk⟩
      · omega
      · right; exact ⟨by omega,by omega⟩
theorem own_low2 {p w:Nat} {a:Int} {D:BS} {X:Int} (h:Own p w a D X):10 ^ (D.length - 1) ≤ vd D ∧ 0 < D.length:=by
  cases hD:D with
  | nil=>exact absurd hD h.ne
  | cons c r =>
    have:=Go.Q.vd_low (h.head c r hD) (hD ▸ h.all)
    exact ⟨this,by simp⟩
end Go.Q
namespace Go.Q
open Go
set_option maxRecDepth 10000
theorem own_scale {p w:Nat} {a:Int} {D:BS} {X:Int} (h:Own p w a D X) {K J:Nat} (hK:0 ≤ X - D.length + K) (hJ:0 ≤ (numS p w a).e + J) :
    vd D * 10 ^ (X - D.length + K).toNat * 2 ^ J = (numS p w a).m.toNat * 2 ^ ((numS p w a).e + J).toNat * 10 ^ K:=by
  have hf:=h.fr
  unfold Fr at hf
  generalize (numS p w a).e = e at *
  generalize (numS p w a).m.toNat = m at *
  obtain ⟨L,hL⟩:∃ L,L = X - D.length:=⟨_,rfl⟩
  rw [← hL] at hf hK ⊢
  rw [show (D.length:Int) - X = -L by omega] at hf
  have e1:10 ^ (L + K).toNat = 10 ^ L.toNat * 10 ^ (K - (-L).toNat):=by rw [← Nat.pow_add]; congr 1; omega
  have e2:10 ^ K = 10 ^ (-L).toNat * 10 ^ (K - (-L).toNat):=by rw [← Nat.pow_add]; congr 1; omega
  have e3:2 ^ J = 2 ^ (-e).toNat * 2 ^ (J - (-e).toNat):=by rw [← Nat.pow_add]; congr 1; omega
  have e4:2 ^ (e + J).toNat = 2 ^ e.toNat * 2 ^ (J - (-e).toNat):=by rw [← Nat.pow_add]; congr 1; omega
  rw [e1,e2,e3,e4]
  calc vd D * (10 ^ L.toNat * 10 ^ (K - (-L).toNat)) * (2 ^ (-e).toNat * 2 ^ (J - (-e).toNat)) = vd D * 10 ^ L.toNat * 2 ^ (-e).toNat * (10 ^ (K - (-L).toNat) * 2 ^ (J - (-e).toNat)):=by simp only [Nat.mul_assoc,Nat.mul_comm,Nat.mul_left_comm]
    _ = m * 2 ^ e.toNat * 10 ^ (-L).toNat * (10 ^ (K - (-L).toNat) * 2 ^ (J - (-e).toNat)):=by rw [hf]
    _ = _:=by simp only [Nat.mul_assoc,Nat.mul_comm,Nat.mul_left_comm]
theorem own_lt {p w:Nat} {a b:Int} {D E:BS} {X Y:Int} (hD:Own p w a D X) (hE:Own p w b E Y) {J:Nat} (hJa:0 ≤ (numS p w a).e + J) (hJb:0 ≤ (numS p w b).e + J)
    (h:(numS p w a).m.toNat * 2 ^ ((numS p w a).e + J).toNat < (numS p w b).m.toNat * 2 ^ ((numS p w b).e + J).toNat):X < Y ∨ X = Y ∧ vd D * 10 ^ E.length < vd E * 10 ^ D.length:=by
  obtain ⟨K,hK⟩:∃ K,K = 9000:=⟨_,rfl⟩
  have l1:=hD.len; have l2:=hE.len; have x1:=hD.lenX; have x2:=hE.lenX
  have s1:=own_scale hD (K:=K) (J:=J) (by omega) hJa
  have s2:=own_scale hE (K:=K) (J:=J) (by omega) hJb
  have hlt:vd D * 10 ^ (X - D.length + K).toNat < vd E * 10 ^ (Y - E.length + K).toNat:=by
    refine Nat.lt_of_mul_lt_mul_right (a:=2 ^ J) ?_
    rw [s1,s2]
    exact Nat.mul_lt_mul_of_pos_right h (Nat.pow_pos (by decide))
  have vD:=own_low2 hD
  have vE:=own_low2 hE
  have uD:=vd_lt D hD.all
  have uE:=vd_lt E hE.all
  rcases Int.lt_trichotomy X Y with hx | hx | hx
  · exact .inl hx
  · right
    refine ⟨hx,?_⟩
    subst hx
    have e1:10 ^ (X - D.length + K).toNat * 10 ^ D.length = 10 ^ (X + K).toNat:=by rw [← Nat.pow_add]; congr 1; omega
    have e2:10 ^ (X - E.length + K).toNat * 10 ^ E.length = 10 ^ (X + K).toNat:=by rw [← Nat.pow_add]; congr 1; omega
    refine Nat.lt_of_mul_lt_mul_right (a:=10 ^ (X + K).toNat) ?_
    calc vd D * 10 ^ E.length * 10 ^ (X + K).toNat = vd D * 10 ^ (X - D.length + K).toNat * (10 ^ D.length * 10 ^ E.length):=by rw [← e1]; simp only [Nat.mul_assoc,Nat.mul_comm,Nat.mul_left_comm]
      _ < vd E * 10 ^ (X - E.length + K).toNat * (10 ^ D.length * 10 ^ E.length):=Nat.mul_lt_mul_of_pos_right hlt (Nat.mul_pos (Nat.pow_pos (by decide)) (Nat.pow_pos (by decide)))
      _ = _:=by rw [← e2]; simp only [Nat.mul_assoc,Nat.mul_comm,Nat.mul_left_comm]
  · exfalso
    have e1:10 ^ (D.length - 1) * 10 ^ (X - D.length + K).toNat = 10 ^ (X + K - 1).toNat:=by rw [← Nat.pow_add]; congr 1; omega
    have e2:10 ^ E.length * 10 ^ (Y - E.length + K).toNat = 10 ^ (Y + K).toNat:=by rw [← Nat.pow_add]; congr 1; omega
    have q1:10 ^ (D.length - 1) * 10 ^ (X - D.length + K).toNat ≤ vd D * 10 ^ (X - D.length + K).toNat:=Nat.mul_le_mul_right _ vD.1
    have q2:vd E * 10 ^ (Y - E.length + K).toNat < 10 ^ E.length * 10 ^ (Y - E.length + K).toNat:=Nat.mul_lt_mul_of_pos_right uE (Nat.pow_pos (by decide))
    have q3:10 ^ (Y + K).toNat ≤ 10 ^ (X + K - 1).toNat:=Nat.pow_le_pow_right (by decide) (by omega)
    rw [e1] at q1; rw [e2] at q2
    omega
theorem num_parts {p w:Nat} (h:OkS p w) {a:Int} (hc:(numS p w a).class_ = 1) :
    (numS p w a).m.toNat = frcS p (uS a) + (if expS p w (uS a) = 0 then 0 else 2 ^ (p - 1)) ∧ (numS p w a).e = lstS p w + ((expS p w (uS a) - 1:Nat):Int) ∧ (numS p w a).sign = ((sgnS p w (uS a):Nat):Int):=by
  have hlst:lstS p w = 2 - biasS w - p:=rfl
  have hn:numS p w a = readS p w (uS a):=rfl
  rw [hn] at hc ⊢
  unfold readS at hc ⊢
  split at hc
  · cases hc
  · rename_i c1
    split at hc
    · cases hc
    · rename_i c2
      split at hc
      · cases hc
      · rename_i c3
        rw [if_neg c1,if_neg c2,if_neg c3]
        split at hc
        · rename_i c4
          rw [if_pos c4,if_pos c4,c4]
          exact ⟨by simp,by simp,rfl⟩
        · rename_i c4
          rw [if_neg c4,if_neg c4]
          refine ⟨by show (((frcS p (uS a) + 2 ^ (p - 1):Nat):Int)).toNat = _; rw [Int.toNat_natCast],?_,rfl⟩
          show (expS p w (uS a):Int) - biasS w - p + 1 = _
          omega
theorem flt_lt {p w:Nat} (h:OkS p w) {a b:Int} (ka:bitsOk p w a) (kb:bitsOk p w b) (ca:(numS p w a).class_ = 1) (cb:(numS p w b).class_ = 1) (hs:sizeS p w a < sizeS p w b) {J:Nat} (hJ:0 ≤ lstS p w + J) :
    (numS p w a).m.toNat * 2 ^ ((numS p w a).e + J).toNat < (numS p w b).m.toNat * 2 ^ ((numS p w b).e + J).toNat:=by
  obtain ⟨h1,h2,h3,h4,h5,h6⟩:=h.facts
  obtain ⟨am,ae,_⟩:=num_parts h ca
  obtain ⟨bm,be,_⟩:=num_parts h cb
  have sa:=(bits_split h (uS_lt h ka)).1
  have sb:=(bits_split h (uS_lt h kb)).1
  have fa:frcS p (uS a) < 2 ^ (p - 1):=Nat.mod_lt _ (Nat.two_pow_pos _)
  have fb:frcS p (uS b) < 2 ^ (p - 1):=Nat.mod_lt _ (Nat.two_pow_pos _)
  have ea:expS p w (uS a) < 2 ^ w:=Nat.mod_lt _ (Nat.two_pow_pos w)
  have eb:expS p w (uS b) < 2 ^ w:=Nat.mod_lt _ (Nat.two_pow_pos w)
  have size:∀ u s E f:Nat,s * 2 ^ (p + w - 1) + E * 2 ^ (p - 1) + f = u → E < 2 ^ w → f < 2 ^ (p - 1) → u % 2 ^ (p + w - 1) = E * 2 ^ (p - 1) + f:=by
    intro u s E f hu hE hf
    rw [← hu,Nat.add_assoc,Nat.mul_comm s,Nat.mul_add_mod]
    apply Nat.mod_eq_of_lt
    have e5:2 ^ (p + w - 1) = 2 ^ w * 2 ^ (p - 1):=by rw [← Nat.pow_add]; congr 1; omega
    rw [e5]
    have:=Nat.mul_le_mul_right (2 ^ (p - 1)) (show E + 1 ≤ 2 ^ w from hE)
    rw [Nat.add_mul,Nat.one_mul] at this
    omega
  have za:sizeS p w a = expS p w (uS a) * 2 ^ (p - 1) + frcS p (uS a):=size _ _ _ _ sa ea fa
  have zb:sizeS p w b = expS p w (uS b) * 2 ^ (p - 1) + frcS p (uS b):=size _ _ _ _ sb eb fb
  rw [za,zb] at hs
  have te:∀ E:Nat,(lstS p w + ((E - 1:Nat):Int) + J).toNat = (E - 1) + (lstS p w + J).toNat:=fun E=>by omega
  rw [am,bm,ae,be,te,te,Nat.pow_add,Nat.pow_add,← Nat.mul_assoc,← Nat.mul_assoc]
  refine Nat.mul_lt_mul_of_pos_right ?_ (Nat.two_pow_pos _)
  generalize expS p w (uS a) = A at *
  generalize expS p w (uS b) = C at *
  generalize frcS p (uS a) = f at *
  generalize frcS p (uS b) = g at *
  have hp0:=Nat.two_pow_pos (p - 1)
  generalize 2 ^ (p - 1) = H at *
  rcases Nat.lt_trichotomy A C with hlt | heq | hgt
  · rw [if_neg (show ¬ C = 0 by omega)]
    have q1:H * 2 ^ (C - 1) ≤ (g + H) * 2 ^ (C - 1):=Nat.mul_le_mul_right _ (by omega)
    by_cases hA:A = 0
    · rw [if_pos hA,hA]
      have q2:H * 1 ≤ H * 2 ^ (C - 1):=Nat.mul_le_mul_left _ (Nat.two_pow_pos _)
      simp only [Nat.zero_sub,Nat.pow_zero,Nat.add_zero]
      omega
    · rw [if_neg hA]
      have q2:(f + H) * 2 ^ (A - 1) < (H * 2) * 2 ^ (A - 1):=Nat.mul_lt_mul_of_pos_right (by omega) (Nat.two_pow_pos _)
      have q3:(H * 2) * 2 ^ (A - 1) ≤ H * 2 ^ (C - 1):=by
        rw [Nat.mul_assoc,← Nat.pow_succ']
        exact Nat.mul_le_mul_left _ (Nat.pow_le_pow_right (by decide) (by omega))
      omega
  · subst heq
    exact Nat.mul_lt_mul_of_pos_right (by omega) (Nat.two_pow_pos _)
  · exfalso
    have:=Nat.mul_le_mul_right H (show C + 1 ≤ A from hgt)
    rw [Nat.add_mul,Nat.one_mul] at this
    omega
theorem of_no {kind:Int} (h:¬ (kind = 2 ∨ kind = 4 ∨ kind = 8)):Flt.of kind = some (⟨0,0⟩,false):=by
  unfold Flt.of
  exact letF (beq_eq_false_iff_ne.2 fun q=>h (.inl q)) (letF (beq_eq_false_iff_ne.2 fun q=>h (.inr (.inl q))) (letF (beq_eq_false_iff_ne.2 fun q=>h (.inr (.inr q))) rfl))
theorem kind_any (kind:Int):(∃ p w,kindS kind p w) ∨ ¬ (kind = 2 ∨ kind = 4 ∨ kind = 8):=by
  by_cases h2:kind = 2
  · exact .inl ⟨11,5,.inl ⟨h2,rfl,rfl⟩⟩
  · by_cases h4:kind = 4
    · exact .inl ⟨24,8,.inr (.inl ⟨h4,rfl,rfl⟩)⟩
    · by_cases h8:kind = 8
      · exact .inl ⟨53,11,.inr (.inr ⟨h8,rfl,rfl⟩)⟩
      · exact .inr (fun h=>by rcases h with h | h | h <;> contradiction)
theorem isKind_any (kind mode:Int):(∃ p w,kindS kind p w ∧ 0 ≤ mode ∧ mode < 4 ∧ Dec.isKind kind mode = some true) ∨ Dec.isKind kind mode = some false:=by
  rcases kind_any kind with ⟨p,w,h⟩ | h
  · by_cases hm:0 ≤ mode ∧ mode < 4
    · exact .inl ⟨p,w,h,hm.1,hm.2,isKind_eq h hm⟩
    · right
      have hv:=(Valid_eq h 0).trans (congrArg some (@decide_eq_true _ (Classical.propDecidable _) bitsOk0))
      unfold Dec.isKind
      refine bindE hv (condT rfl ?_)
      by_cases h0:mode ≥ 0
      · exact letT (decide_eq_true h0) (letV (decide_eq_false (by omega)) rfl)
      · exact letF (decide_eq_false h0) rfl
  · right
    unfold Dec.isKind Flt.Valid
    rw [of_no h]
    rfl
theorem isFinite_any {kind:Int} {p w:Nat} (h:kindS kind p w) (a:Int):(bitsOk p w a ∧ (numS p w a).class_ = 1) ∨ Dec.isFinite kind a = some false:=by
  have es:(⟨(shp p w).p,(shp p w).w⟩:float.shape) = shp p w:=rfl
  have fin:∀ c:BS,c ≠ bLeast → c ≠ bNormal → Flt.Class kind a = some (B c) → Dec.isFinite kind a = some false:=by
    intro c h1 h2 hc
    unfold Dec.isFinite
    exact bindE hc (letF (by rw [show (⟨#[108,101,97,115,116]⟩:ByteArray) = B bLeast from rfl,eqB]; exact decide_eq_false h1) (letV (y:=false) (by rw [show (⟨#[110,111,114,109,97,108]⟩:ByteArray) = B bNormal from rfl,eqB]; exact decide_eq_false h2) rfl))
  by_cases hb:bitsOk p w a
  · have ht:=two_eq (mode:=0) h (by decide) hb hb
    rcases (numS_ok h.ok a).cls with hc | hc | hc | hc
    · right
      refine fin [122,101,114,111] (by decide) (by decide) ?_
      unfold Flt.Class
      exact bindE ht (letF rfl (letT (by rw [hc]; rfl) rfl))
    · exact .inl ⟨hb,hc⟩
    · right
      refine fin bInf (by decide) (by decide) ?_
      unfold Flt.Class
      exact bindE ht (letF rfl (letF (by rw [hc]; rfl) (letT (by rw [hc]; rfl) rfl)))
    · right
      refine fin bNone (by decide) (by decide) ?_
      unfold Flt.Class
      exact bindE ht (letF rfl (letF (by rw [hc]; rfl) (letF (by rw [hc]; rfl) (letT (by rw [hc]; rfl) rfl))))
  · right
    refine fin [] (by decide) (by decide) ?_
    have hr:=read_no h.ok a hb
    have ht:∃ x y,Flt.two kind 0 a a = some (shp p w,x,y,false):=by
      refine ⟨⟨0,0,0,0⟩,⟨0,0,0,0⟩,?_⟩
      unfold Flt.two
      refine bindE (of_eq h) (letF rfl (letF rfl (letV rfl ?_)))
      unfold Flt.two.j1 Flt.two.j0
      exact condF rfl (bindE hr (bindE hr (condF rfl rfl)))
    obtain ⟨x,y,ht⟩:=ht
    unfold Flt.Class
    exact bindE ht (letT rfl rfl)
theorem Digits_any (kind mode a n:Int):(∃ s c x,Dec.Digits kind mode a n = some (s,c,x,2)) ∨
    (∃ p w D X,∃ N:Nat,kindS kind p w ∧ bitsOk p w a ∧ (numS p w a).class_ = 1 ∧ n = N ∧ 1 ≤ N ∧ N ≤ 40 ∧ Own p w a D X ∧
      Dec.Digits kind mode a n = some ((numS p w a).sign,B (resD D X N (awD mode (numS p w a).sign D N)).1,(resD D X N (awD mode (numS p w a).sign D N)).2,0)):=by
  unfold Dec.Digits
  rcases isKind_any kind mode with ⟨p,w,h,hm0,hm1,hk⟩ | hk
  · rcases isFinite_any h a with ⟨hb,hc⟩ | hf
    · by_cases hn:1 ≤ n ∧ n ≤ 40
      · right
        obtain ⟨N,rfl⟩:∃ N:Nat,n = N:=⟨n.toNat,by omega⟩
        obtain ⟨D,X,he,ho⟩:=exact_eq h hb hc
        refine ⟨p,w,D,X,N,h,hb,hc,rfl,by omega,by omega,ho,bindE hk (letF rfl (bindE (isFinite_eq h hb hc) (letF rfl (letF (decide_eq_false (by omega)) (letF (decide_eq_false (by omega)) ?_)))))⟩
        unfold Dec.Digits.j0
        have l1:=ho.len; have l2:=ho.lenX
        refine bindE he (bindE (dAway_eq ho.all ho.last (by omega)) (bindE (to_eq ho.all (by omega) (by omega) (by omega)) ?_))
        unfold resD
        by_cases hg:(rdD D N (awD mode (numS p w a).sign D N)).length > N
        · simp only [if_pos hg]
        · simp only [if_neg hg]
      · left
        refine ⟨0,⟨#[]⟩,0,bindE hk (letF rfl (bindE (isFinite_eq h hb hc) (letF rfl ?_)))⟩
        by_cases h1:n < 1
        · exact letT (decide_eq_true h1) rfl
        · exact letF (decide_eq_false h1) (letT (decide_eq_true (by omega)) rfl)
    · exact .inl ⟨0,⟨#[]⟩,0,bindE hk (letF rfl (bindE hf (letT rfl rfl)))⟩
  · exact .inl ⟨0,⟨#[]⟩,0,bindE hk (letT rfl rfl)⟩
end Go.Q
