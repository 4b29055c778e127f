import Derived.Test.YtmfhkipeapdfmaaGreatDoorDR
namespace Go.Q
open Go
set_option maxRecDepth 10000
theorem incR_grow:∀ r:BS,(incR r).length = r.length + 1 → ∃ q,incR r = q ++ [49]
  | [],_=>⟨[],rfl⟩
  | c :: r,h=>by
    unfold incR at h ⊢
    by_cases h9:c < 57
    · rw [if_pos h9] at h; simp at h
    · rw [if_neg h9] at h ⊢
      obtain ⟨q,hq⟩:=incR_grow r (by simpa using h)
      exact ⟨48 :: q,by rw [hq]; rfl⟩
theorem vd_one (q:BS):vd (49 :: q) = 10 ^ q.length + vd q:=by rw [vd_cons]; show 1 * _ + _ = _; rw [Nat.one_mul]
def resD (D:BS) (X:Int) (n:Nat) (more:Bool):BS × Int:=if (rdD D n more).length > n then ((rdD D n more).take n,X + 1) else (rdD D n more,X)
def RA (D:BS) (n:Nat) (more:Bool):Nat:=vd (topD D n) + (if more = true then 1 else 0)
theorem rdD_vd {D:BS} (ha:D.all dgQ = true) (n:Nat) (more:Bool):vd (rdD D n more) = RA D n more ∧ (rdD D n more).all dgQ = true:=by
  unfold rdD RA
  cases more with
  | true=>exact ⟨incD_vd (topD_dig ha n),incD_dig (topD_dig ha n)⟩
  | false=>exact ⟨rfl,topD_dig ha n⟩
theorem topD_low {D:BS} (ha:D.all dgQ = true) (hh:∀ c r,D = c :: r → c ≠ 48) (hne:D ≠ []) {n:Nat} (hn:1 ≤ n):10 ^ (n - 1) ≤ vd (topD D n) ∧ vd (topD D n) < 10 ^ n:=by
  have hl:=topD_len D n
  have hd:=topD_dig ha n
  have h2:=vd_lt (topD D n) hd
  rw [hl] at h2
  refine ⟨?_,h2⟩
  cases hD:D with
  | nil=>exact absurd hD hne
  | cons c r =>
    obtain ⟨m,rfl⟩:∃ m,n = m + 1:=⟨n - 1,by omega⟩
    have ht:topD (c :: r) (m + 1) = c :: topD r m:=by unfold topD; simp
    rw [hD,ht] at hd hl
    have:=Go.Q.vd_low (hh c r hD) hd
    rw [ht,Nat.add_sub_cancel]
    rw [List.length_cons] at hl
    rwa [show (topD r m).length = m by omega] at this
theorem res_ok {D:BS} (ha:D.all dgQ = true) (hh:∀ c r,D = c :: r → c ≠ 48) (hne:D ≠ []) {n:Nat} (hn:1 ≤ n) (X:Int) (more:Bool) :
    (resD D X n more).1.length = n ∧ (resD D X n more).1.all dgQ = true ∧ 10 ^ (n - 1) ≤ vd (resD D X n more).1 ∧
    ((vd (resD D X n more).1 = RA D n more ∧ RA D n more < 10 ^ n ∧ (resD D X n more).2 = X) ∨ (RA D n more = 10 ^ n ∧ vd (resD D X n more).1 = 10 ^ (n - 1) ∧ (resD D X n more).2 = X + 1)):=by
  obtain ⟨t1,t2⟩:=topD_low ha hh hne hn
  have hl:=topD_len D n
  obtain ⟨r1,r2⟩:=rdD_vd ha n more
  have hle:n ≤ (rdD D n more).length ∧ (rdD D n more).length ≤ n + 1:=by
    unfold rdD
    have:=incD_len (topD D n)
    split <;> omega
  unfold resD
  by_cases h:(rdD D n more).length > n
  · rw [if_pos h]
    have hinc:more = true:=by
      cases more with
      | true=>rfl
      | false=>unfold rdD at h; simp at h; omega
    have hlen:(rdD D n more).length = n + 1:=by omega
    obtain ⟨q,hq⟩:∃ q,rdD D n more = 49 :: q:=by
      have e:rdD D n more = (incR (topD D n).reverse).reverse:=by unfold rdD incD; rw [if_pos hinc]
      obtain ⟨q,hq⟩:=incR_grow (topD D n).reverse (by rw [List.length_reverse,hl]; have:=congrArg List.length e; rw [List.length_reverse] at this; omega)
      exact ⟨q.reverse,by rw [e,hq]; simp⟩
    have hql:q.length = n:=by rw [hq,List.length_cons] at hlen; omega
    have hv:vd (rdD D n more) = 10 ^ n + vd q:=by rw [hq,vd_one,hql]
    have hRA:RA D n more ≤ 10 ^ n:=by unfold RA; split <;> omega
    have hq0:vd q = 0:=by omega
    have hqa:q.all dgQ = true:=by rw [hq] at r2; simp only [List.all_cons,Bool.and_eq_true] at r2; exact r2.2
    have htk:(rdD D n more).take n = 49 :: q.take (n - 1):=by
      rw [hq]
      obtain ⟨m,rfl⟩:∃ m,n = m + 1:=⟨n - 1,by omega⟩
      rfl
    have hqt:vd (q.take (n - 1)) = 0:=by
      have:=(vd_parts hqa (k:=1) (by omega)).1
      rw [hql,hq0] at this
      simpa using this
    have hvv:vd ((rdD D n more).take n) = 10 ^ (n - 1):=by
      rw [htk,vd_one,hqt,List.length_take,Nat.min_eq_left (by omega),Nat.add_zero]
    refine ⟨by rw [List.length_take]; omega,all_take _ r2,by rw [hvv]; exact Nat.le_refl _,.inr ⟨by omega,hvv,rfl⟩⟩
  · rw [if_neg h]
    have hlen:(rdD D n more).length = n:=by omega
    have hlt:=vd_lt _ r2
    rw [hlen,r1] at hlt
    refine ⟨hlen,r2,?_,.inl ⟨r1,hlt,rfl⟩⟩
    rw [r1]; unfold RA; omega
theorem own_low2 {p w:Nat} {a:Int} {D:BS} {X:Int} (h:Own p w a D X):10 ^ (D.length - 1) ≤ vd D ∧ 0 < D.length:=by
  cases hD:D with
  | nil=>exact absurd hD h.ne
  | cons c r =>
    have:=Go.Q.vd_low (h.head c r hD) (hD ▸ h.all)
    exact ⟨this,by simp⟩
end Go.Q
namespace Go.Q
open Go
set_option maxRecDepth 10000
theorem own_scale {p w:Nat} {a:Int} {D:BS} {X:Int} (h:Own p w a D X) {K J:Nat} (hK:0 ≤ X - D.length + K) (hJ:0 ≤ (numS p w a).e + J) :
    vd D * 10 ^ (X - D.length + K).toNat * 2 ^ J = (numS p w a).m.toNat * 2 ^ ((numS p w a).e + J).toNat * 10 ^ K:=by
  have hf:=h.fr
  unfold Fr at hf
  generalize (numS p w a).e = e at *
  generalize (numS p w a).m.toNat = m at *
  obtain ⟨L,hL⟩:∃ L,L = X - D.length:=⟨_,rfl⟩
  rw [← hL] at hf hK ⊢
  rw [show (D.length:Int) - X = -L by omega] at hf
  have e1:10 ^ (L + K).toNat = 10 ^ L.toNat * 10 ^ (K - (-L).toNat):=by rw [← Nat.pow_add]; congr 1; omega
  have e2:10 ^ K = 10 ^ (-L).toNat * 10 ^ (K - (-L).toNat):=by rw [← Nat.pow_add]; congr 1; omega
  have e3:2 ^ J = 2 ^ (-e).toNat * 2 ^ (J - (-e).toNat):=by rw [← Nat.pow_add]; congr 1; omega
  have e4:2 ^ (e + J).toNat = 2 ^ e.toNat * 2 ^ (J - (-e).toNat):=by rw [← Nat.pow_add]; congr 1; omega
  rw [e1,e2,e3,e4]
  calc vd D * (10 ^ L.toNat * 10 ^ (K - (-L).toNat)) * (2 ^ (-e).toNat * 2 ^ (J - (-e).toNat)) = vd D * 10 ^ L.toNat * 2 ^ (-e).toNat * (10 ^ (K - (-L).toNat) * 2 ^ (J - (-e).toNat)):=by simp only [Nat.mul_assoc,Nat.mul_comm,Nat.mul_left_comm]
    _ = m * 2 ^ e.toNat * 10 ^ (-L).toNat * (10 ^ (K - (-L).toNat) * 2 ^ (J - (-e).toNat)):=by rw [hf]
    _ = _:=by simp only [Nat.mul_assoc,Nat.mul_comm,Nat.mul_left_comm]
theorem num_parts {p w:Nat} (h:OkS p w) {a:Int} (hc:(numS p w a).class_ = 1) :
    (numS p w a).m.toNat = frcS p (uS a) + (if expS p w (uS a) = 0 then 0 else 2 ^ (p - 1)) ∧ (numS p w a).e = lstS p w + ((expS p w (uS a) - 1:Nat):Int) ∧ (numS p w a).sign = ((sgnS p w (uS a):Nat):Int):=by
  have hlst:lstS p w = 2 - biasS w - p:=rfl
  have hn:numS p w a = readS p w (uS a):=rfl
  rw [hn] at hc ⊢
  unfold readS at hc ⊢
  split at hc
  · cases hc
  · rename_i c1
    split at hc
    · cases hc
    · rename_i c2
      split at hc
      · cases hc
      · rename_i c3
        rw [if_neg c1,if_neg c2,if_neg c3]
        split at hc
        · rename_i c4
          rw [if_pos c4,if_pos c4,c4]
          exact ⟨by simp,by simp,rfl⟩
        · rename_i c4
          rw [if_neg c4,if_neg c4]
          refine ⟨by show (((frcS p (uS a) + 2 ^ (p - 1):Nat):Int)).toNat = _; rw [Int.toNat_natCast],?_,rfl⟩
          show (expS p w (uS a):Int) - biasS w - p + 1 = _
          omega
theorem of_no {kind:Int} (h:¬ (kind = 2 ∨ kind = 4 ∨ kind = 8)):Flt.of kind = some (⟨0,0⟩,false):=by
  unfold Flt.of
  exact letF (beq_eq_false_iff_ne.2 fun q=>h (.inl q)) (letF (beq_eq_false_iff_ne.2 fun q=>h (.inr (.inl q))) (letF (beq_eq_false_iff_ne.2 fun q=>h (.inr (.inr q))) rfl))
theorem kind_any (kind:Int):(∃ p w,kindS kind p w) ∨ ¬ (kind = 2 ∨ kind = 4 ∨ kind = 8):=by
  by_cases h2:kind = 2
  · exact .inl ⟨11,5,.inl ⟨h2,rfl,rfl⟩⟩
  · by_cases h4:kind = 4
    · exact .inl ⟨24,8,.inr (.inl ⟨h4,rfl,rfl⟩)⟩
    · by_cases h8:kind = 8
      · exact .inl ⟨53,11,.inr (.inr ⟨h8,rfl,rfl⟩)⟩
      · exact .inr (fun h=>by rcases h with h | h | h <;> contradiction)
theorem isKind_any (kind mode:Int):(∃ p w,kindS kind p w ∧ 0 ≤ mode ∧ mode < 4 ∧ Dec.isKind kind mode = some true) ∨ Dec.isKind kind mode = some false:=by
  rcases kind_any kind with ⟨p,w,h⟩ | h
  · by_cases hm:0 ≤ mode ∧ mode < 4
    · exact .inl ⟨p,w,h,hm.1,hm.2,isKind_eq h hm⟩
    · right
      have hv:=(Valid_eq h 0).trans (congrArg some (@decide_eq_true _ (Classical.propDecidable _) bitsOk0))
      unfold Dec.isKind
      refine bindE hv (condT rfl ?_)
      by_cases h0:mode ≥ 0
      · exact letT (decide_eq_true h0) (letV (decide_eq_false (by omega)) rfl)
      · exact letF (decide_eq_false h0) rfl
  · right
    unfold Dec.isKind Flt.Valid
    rw [of_no h]
    rfl
end Go.Q
namespace Go.Q
open Go
set_option maxRecDepth 10000
end Go.Q
namespace Go.Q
open Go
set_option maxRecDepth 10000
theorem num_lim {p w:Nat} (h:OkS p w) {a:Int} (hc:(numS p w a).class_ = 1):∃ M:Nat,(numS p w a).m = M ∧ 0 < M ∧ M < 2 ^ p ∧ p ≤ 53 ∧ -1074 ≤ (numS p w a).e ∧ (numS p w a).e < 1024:=by
  obtain ⟨M,eM,m0,m1,e0,e1,mn⟩:=(numS_ok h a).mag hc
  have hl:-1074 ≤ lstS p w:=by rcases h with ⟨rfl,rfl⟩ | ⟨rfl,rfl⟩ | ⟨rfl,rfl⟩ <;> decide
  exact ⟨M,eM,m0,m1,h.facts.2.2.2.1,by omega,e1⟩
theorem two_le_ten (n:Nat):2 ^ (3 * n) ≤ 10 ^ n:=by rw [Nat.pow_mul]; exact Nat.pow_le_pow_left (by decide) n
theorem own_lim {p w:Nat} (h:OkS p w) {a:Int} {D:BS} {X:Int} (ho:Own p w a D X) (hc:(numS p w a).class_ = 1):-390 ≤ X ∧ X ≤ 390:=by
  obtain ⟨M,eM,m0,m1,hp,e0,e1⟩:=num_lim h hc
  obtain ⟨K,hK⟩:∃ K,K = 9000:=⟨_,rfl⟩
  obtain ⟨T0,hT0⟩:∃ T,T = 358:=⟨_,rfl⟩
  obtain ⟨J,hJ⟩:∃ J,J = 3 * T0:=⟨_,rfl⟩
  have l1:=ho.len; have x1:=ho.lenX
  have s1:=own_scale ho (K:=K) (J:=J) (by omega) (by omega)
  rw [eM,Int.toNat_natCast] at s1
  have vD:=own_low2 ho
  have uD:=vd_lt D ho.all
  have q1:10 ^ (D.length - 1) * 10 ^ (X - D.length + K).toNat ≤ vd D * 10 ^ (X - D.length + K).toNat:=Nat.mul_le_mul_right _ vD.1
  have q2:vd D * 10 ^ (X - D.length + K).toNat < 10 ^ D.length * 10 ^ (X - D.length + K).toNat:=Nat.mul_lt_mul_of_pos_right uD (Nat.pow_pos (by decide))
  rw [← Nat.pow_add,show D.length - 1 + (X - D.length + K).toNat = (X + K - 1).toNat by omega] at q1
  rw [← Nat.pow_add,show D.length + (X - D.length + K).toNat = (X + K).toNat by omega] at q2
  constructor
  · rcases Int.lt_or_le X (-390) with hx | hx
    · exfalso
      have r1:1 * 1 * 10 ^ K ≤ M * 2 ^ ((numS p w a).e + J).toNat * 10 ^ K:=Nat.mul_le_mul_right _ (Nat.mul_le_mul m0 (Nat.two_pow_pos _))
      have r2:vd D * 10 ^ (X - D.length + K).toNat * 2 ^ J ≤ 10 ^ (X + K).toNat * 2 ^ (3 * T0):=by rw [hJ]; exact Nat.mul_le_mul_right _ (Nat.le_of_lt q2)
      have r3:10 ^ (X + K).toNat * 2 ^ (3 * T0) ≤ 10 ^ (X + K).toNat * 10 ^ T0:=Nat.mul_le_mul_left _ (two_le_ten T0)
      rw [← Nat.pow_add] at r3
      have r4:10 ^ ((X + K).toNat + T0) < 10 ^ K:=Nat.pow_lt_pow_right (by decide) (by omega)
      rw [s1] at r2
      omega
    · exact hx
  · rcases Int.lt_or_le 390 X with hx | hx
    · exfalso
      obtain ⟨T,hT⟩:∃ T,T = 360:=⟨_,rfl⟩
      have r0:M * 2 ^ ((numS p w a).e + J).toNat ≤ 2 ^ (3 * T) * 2 ^ J:=by
        have a1:M ≤ 2 ^ p:=Nat.le_of_lt m1
        have a2:M * 2 ^ ((numS p w a).e + J).toNat ≤ 2 ^ p * 2 ^ ((numS p w a).e + J).toNat:=Nat.mul_le_mul_right _ a1
        rw [← Nat.pow_add] at a2 ⊢
        exact Nat.le_trans a2 (Nat.pow_le_pow_right (by decide) (by omega))
      have r1:M * 2 ^ ((numS p w a).e + J).toNat * 10 ^ K ≤ 10 ^ T * 2 ^ J * 10 ^ K:=Nat.mul_le_mul_right _ (Nat.le_trans r0 (Nat.mul_le_mul_right _ (two_le_ten T)))
      have r2:10 ^ (X + K - 1).toNat * 2 ^ J ≤ 10 ^ (T + K) * 2 ^ J:=by
        have:10 ^ T * 2 ^ J * 10 ^ K = 10 ^ (T + K) * 2 ^ J:=by rw [Nat.pow_add]; simp only [Nat.mul_assoc,Nat.mul_comm,Nat.mul_left_comm]
        rw [← this]
        exact Nat.le_trans (Nat.mul_le_mul_right _ q1) (by rw [s1]; exact r1)
      have r3:=Nat.le_of_mul_le_mul_right r2 (Nat.two_pow_pos _)
      have r4:=(Nat.pow_le_pow_iff_right (show 1 < 10 by decide)).1 r3
      omega
    · exact hx
end Go.Q
