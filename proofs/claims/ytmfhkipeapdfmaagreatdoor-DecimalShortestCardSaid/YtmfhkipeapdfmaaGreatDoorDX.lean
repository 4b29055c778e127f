import Derived.Test.YtmfhkipeapdfmaaGreatDoorDR
namespace Go.Q
open Go
set_option maxRecDepth 10000
theorem incR_grow:∀ r:BS,(incR r).length = r.length + 1 → ∃ q,incR r = q ++ [49]
  | [],_=>⟨[],rfl⟩
  | c :: r,h=>by
    unfold incR at h ⊢
    by_cases h9:c < 57
    · rw [if_pos h9] at h; simp at h
    · rw [if_neg h9] at h ⊢
      obtain ⟨q,hq⟩:=incR_grow r (by simpa using h)
      exact ⟨48 :: q,by rw [hq]; rfl⟩
theorem vd_one (q:BS):vd (49 :: q) = 10 ^ q.length + vd q:=by rw [vd_cons]; show 1 * _ + _ = _; rw [Nat.one_mul]
def resD (D:BS) (X:Int) (n:Nat) (more:Bool):BS × Int:=if (rdD D n more).length > n then ((rdD D n more).take n,X + 1) else (rdD D n more,X)
def RA (D:BS) (n:Nat) (more:Bool):Nat:=vd (topD D n) + (if more = true then 1 else 0)
theorem rdD_vd {D:BS} (ha:D.all dgQ = true) (n:Nat) (more:Bool):vd (rdD D n more) = RA D n more ∧ (rdD D n more).all dgQ = true:=by
  unfold rdD RA
  cases more with
  | true=>exact ⟨incD_vd (topD_dig ha n),incD_dig (topD_dig ha n)⟩
  | false=>exact ⟨rfl,topD_dig ha n⟩
theorem topD_low {D:BS} (ha:D.all dgQ = true) (hh:∀ c r,D = c :: r → c ≠ 48) (hne:D ≠ []) {n:Nat} (hn:1 ≤ n):10 ^ (n - 1) ≤ vd (topD D n) ∧ vd (topD D n) < 10 ^ n:=by
  have hl:=topD_len D n
  have hd:=topD_dig ha n
  have h2:=vd_lt (topD D n) hd
  rw [hl] at h2
  refine ⟨?_,h2⟩
  cases hD:D with
  | nil=>exact absurd hD hne
  | cons c r =>
    obtain ⟨m,rfl⟩:∃ m,n = m + 1:=⟨n - 1,by omega⟩
    have ht:topD (c :: r) (m + 1) = c :: topD r m:=by unfold topD; simp
    rw [hD,ht] at hd hl
    have:=Go.Q.vd_low (hh c r hD) hd
    rw [ht,Nat.add_sub_cancel]
    rw [List.length_cons] at hl
    rwa [show (topD r m).length = m by omega] at this
theorem res_ok {D:BS} (ha:D.all dgQ = true) (hh:∀ c r,D = c :: r → c ≠ 48) (hne:D ≠ []) {n:Nat} (hn:1 ≤ n) (X:Int) (more:Bool) :
    (resD D X n more).1.length = n ∧ (resD D X n more).1.all dgQ = true ∧ 10 ^ (n - 1) ≤ vd (resD D X n more).1 ∧
    ((vd (resD D X n more).1 = RA D n more ∧ RA D n more < 10 ^ n ∧ (resD D X n more).2 = X) ∨ (RA D n more = 10 ^ n ∧ vd (resD D X n more).1 = 10 ^ (n - 1) ∧ (resD D X n more).2 = X + 1)):=by
  obtain ⟨t1,t2⟩:=topD_low ha hh hne hn
  have hl:=topD_len D n
  obtain ⟨r1,r2⟩:=rdD_vd ha n more
  have hle:n ≤ (rdD D n more).length ∧ (rdD D n more).length ≤ n + 1:=by
    unfold rdD
    have:=incD_len (topD D n)
    split <;> omega
  unfold resD
  by_cases h:(rdD D n more).length > n
  · rw [if_pos h]
    have hinc:more = true:=by
      cases more with
      | true=>rfl
      | false=>unfold rdD at h; simp at h; omega
    have hlen:(rdD D n more).length = n + 1:=by omega
    obtain ⟨q,hq⟩:∃ q,rdD D n more = 49 :: q:=by
      have e:rdD D n more = (incR (topD D n).reverse).reverse:=by unfold rdD incD; rw [if_pos hinc]
      obtain ⟨q,hq⟩:=incR_grow (topD D n).reverse (by rw [List.length_reverse,hl]; have:=congrArg List.length e; rw [List.length_reverse] at this; omega)
      exact ⟨q.reverse,by rw [e,hq]; simp⟩
    have hql:q.length = n:=by rw [hq,List.length_cons] at hlen; omega
    have hv:vd (rdD D n more) = 10 ^ n + vd q:=by rw [hq,vd_one,hql]
    have hRA:RA D n more ≤ 10 ^ n:=by unfold RA; split <;> omega
    have hq0:vd q = 0:=by omega
    have hqa:q.all dgQ = true:=by rw [hq] at r2; simp only [List.all_cons,Bool.and_eq_true] at r2; exact r2.2
    have htk:(rdD D n more).take n = 49 :: q.take (n - 1):=by
      rw [hq]
      obtain ⟨m,rfl⟩:∃ m,n = m + 1:=⟨n - 1,by omega⟩
      rfl
    have hqt:vd (q.take (n - 1)) = 0:=by
      have:=(vd_parts hqa (k:=1) (by omega)).1
      rw [hql,hq0] at this
      simpa using this
    have hvv:vd ((rdD D n more).take n) = 10 ^ (n - 1):=by
      rw [htk,vd_one,hqt,List.length_take,Nat.min_eq_left (by omega),Nat.add_zero]
    refine ⟨by rw [List.length_take]; omega,all_take _ r2,by rw [hvv]; exact Nat.le_refl _,.inr ⟨by omega,hvv,rfl⟩⟩
  · rw [if_neg h]
    have hlen:(rdD D n more).length = n:=by omega
    have hlt:=vd_lt _ r2
    rw [hlen,r1] at hlt
    refine ⟨hlen,r2,?_,.inl ⟨r1,hlt,rfl⟩⟩
    rw [r1]; unfold RA; omega
theorem own_low2 {p w:Nat} {a:Int} {D:BS} {X:Int} (h:Own p w a D X):10 ^ (D.length - 1) ≤ vd D ∧ 0 < D.length:=by
  cases hD:D with
  | nil=>exact absurd hD h.ne
  | cons c r =>
    have:=Go.Q.vd_low (h.head c r hD) (hD ▸ h.all)
    exact ⟨this,by simp⟩
end Go.Q
namespace Go.Q
open Go
set_option maxRecDepth 10000
theorem own_scale {p w:Nat} {a:Int} {D:BS} {X:Int} (h:Own p w a D X) {K J:Nat} (hK:0 ≤ X - D.length + K) (hJ:0 ≤ (numS p w a).e + J) :
    vd D * 10 ^ (X - D.length + K).toNat * 2 ^ J = (numS p w a).m.toNat * 2 ^ ((numS p w a).e + J).toNat * 10 ^ K:=by
  have hf:=h.fr
  unfold Fr at hf
  generalize (numS p w a).e = e at *
  generalize (numS p w a).m.toNat = m at *
  obtain ⟨L,hL⟩:∃ L,L = X - D.length:=⟨_,rfl⟩
  rw [← hL] at hf hK ⊢
  rw [show (D.length:Int) - X = -L by omega] at hf
  have e1:10 ^ (L + K).toNat = 10 ^ L.toNat * 10 ^ (K - (-L).toNat):=by rw [← Nat.pow_add]; congr 1; omega
  have e2:10 ^ K = 10 ^ (-L).toNat * 10 ^ (K - (-L).toNat):=by rw [← Nat.pow_add]; congr 1; omega
  have e3:2 ^ J = 2 ^ (-e).toNat * 2 ^ (J - (-e).toNat):=by rw [← Nat.pow_add]; congr 1; omega
  have e4:2 ^ (e + J).toNat = 2 ^ e.toNat * 2 ^ (J - (-e).toNat):=by rw [← Nat.pow_add]; congr 1; omega
  rw [e1,e2,e3,e4]
  calc vd D * (10 ^ L.toNat * 10 ^ (K - (-L).toNat)) * (2 ^ (-e).toNat * 2 ^ (J - (-e).toNat)) = vd D * 10 ^ L.toNat * 2 ^ (-e).toNat * (10 ^ (K - (-L).toNat) * 2 ^ (J - (-e).toNat)):=by simp only [Nat.mul_assoc,Nat.mul_comm,Nat.mul_left_comm]
    _ = m * 2 ^ e.toNat * 10 ^ (-L).toNat * (10 ^ (K - (-L).toNat) * 2 ^ (J - (-e).toNat)):=by rw [hf]
    _ = _:=by simp only [Nat.mul_assoc,Nat.mul_comm,Nat.mul_left_comm]
theorem num_parts {p w:Nat} (h:OkS p w) {a:Int} (hc:(numS p w a).class_ = 1) :
    (numS p w a).m.toNat = frcS p (uS a) + (if expS p w (uS a) = 0 then 0 else 2 ^ (p - 1)) ∧ (numS p w a).e = lstS p w + ((expS p w (uS a) - 1:Nat):Int) ∧ (numS p w a).sign = ((sgnS p w (uS a):Nat):Int):=by
  have hlst:lstS p w = 2 - biasS w - p:=rfl
  have hn:numS p w a = readS p w (uS a):=rfl
  rw [hn] at hc ⊢
  unfold readS at hc ⊢
  split at hc
  · cases hc
  · rename_i c1
    split at hc
    · cases hc
    · rename_i c2
      split at hc
      · cases hc
      · rename_i c3
        rw [if_neg c1,if_neg c2,if_neg c3]
        split at hc
        · rename_i c4
          rw [if_pos c4,if_pos c4,c4]
          exact ⟨by simp,by simp,rfl⟩
        · rename_i c4
          rw [if_neg c4,if_neg c4]
          refine ⟨by show (((frcS p (uS a) + 2 ^ (p - 1):Nat):Int)).toNat = _; rw [Int.toNat_natCast],?_,rfl⟩
          show (expS p w (uS a):Int) - biasS w - p + 1 = _
          omega
theorem of_no {kind:Int} (h:¬ (kind = 2 ∨ kind = 4 ∨ kind = 8)):Flt.of kind = some (⟨0,0⟩,false):=by
  unfold Flt.of
  exact letF (beq_eq_false_iff_ne.2 fun q=>h (.inl q)) (letF (beq_eq_false_iff_ne.2 fun q=>h (.inr (.inl q))) (letF (beq_eq_false_iff_ne.2 fun q=>h (.inr (.inr q))) rfl))
theorem kind_any (kind:Int):(∃ p w,kindS kind p w) ∨ ¬ (kind = 2 ∨ kind = 4 ∨ kind = 8):=by
  by_cases h2:kind = 2
  · exact .inl ⟨11,5,.inl ⟨h2,rfl,rfl⟩⟩
  · by_cases h4:kind = 4
    · exact .inl ⟨24,8,.inr (.inl ⟨h4,rfl,rfl⟩)⟩
    · by_cases h8:kind = 8
      · exact .inl ⟨53,11,.inr (.inr ⟨h8,rfl,rfl⟩)⟩
      · exact .inr (fun h=>by rcases h with h | h | h <;> contradiction)
theorem isFinite_any {kind:Int} {p w:Nat} (h:kindS kind p w) (a:Int):(bitsOk p w a ∧ (numS p w a).class_ = 1) ∨ Dec.isFinite kind a = some false:=by
  have es:(⟨(shp p w).p,(shp p w).w⟩:float.shape) = shp p w:=rfl
  have fin:∀ c:BS,c ≠ bLeast → c ≠ bNormal → Flt.Class kind a = some (B c) → Dec.isFinite kind a = some false:=by
    intro c h1 h2 hc
    unfold Dec.isFinite
    exact bindE hc (letF (by rw [show (⟨#[108,101,97,115,116]⟩:ByteArray) = B bLeast from rfl,eqB]; exact decide_eq_false h1) (letV (y:=false) (by rw [show (⟨#[110,111,114,109,97,108]⟩:ByteArray) = B bNormal from rfl,eqB]; exact decide_eq_false h2) rfl))
  by_cases hb:bitsOk p w a
  · have ht:=two_eq (mode:=0) h (by decide) hb hb
    rcases (numS_ok h.ok a).cls with hc | hc | hc | hc
    · right
      refine fin [122,101,114,111] (by decide) (by decide) ?_
      unfold Flt.Class
      exact bindE ht (letF rfl (letT (by rw [hc]; rfl) rfl))
    · exact .inl ⟨hb,hc⟩
    · right
      refine fin bInf (by decide) (by decide) ?_
      unfold Flt.Class
      exact bindE ht (letF rfl (letF (by rw [hc]; rfl) (letT (by rw [hc]; rfl) rfl)))
    · right
      refine fin bNone (by decide) (by decide) ?_
      unfold Flt.Class
      exact bindE ht (letF rfl (letF (by rw [hc]; rfl) (letF (by rw [hc]; rfl) (letT (by rw [hc]; rfl) rfl))))
  · right
    refine fin [] (by decide) (by decide) ?_
    have hr:=read_no h.ok a hb
    have ht:∃ x y,Flt.two kind 0 a a = some (shp p w,x,y,false):=by
      refine ⟨⟨0,0,0,0⟩,⟨0,0,0,0⟩,?_⟩
      unfold Flt.two
      refine bindE (of_eq h) (letF rfl (letF rfl (letV rfl ?_)))
      unfold Flt.two.j1 Flt.two.j0
      exact condF rfl (bindE hr (bindE hr (condF rfl rfl)))
    obtain ⟨x,y,ht⟩:=ht
    unfold Flt.Class
    exact bindE ht (letT rfl rfl)
end Go.Q
namespace Go.Q
open Go
set_option maxRecDepth 10000
def pkF (p w:Nat) (mode sign last:Int) (m1:Nat):Int :=
  let m2:=if m1 = 2 ^ p then 2 ^ (p - 1) else m1
  let l2:=if m1 = 2 ^ p then last + 1 else last
  if m2 < 2 ^ (p - 1) then packS p w sign 0 m2
  else if l2 + p - 1 + biasS w < 2 ^ w - 1 then packS p w sign (l2 + p - 1 + biasS w).toNat (m2 - 2 ^ (p - 1))
  else if mode = 1 ∨ (mode = 2 ∧ sign = 0) ∨ (mode = 3 ∧ sign = 1) then packS p w sign (2 ^ w - 2) (2 ^ (p - 1) - 1)
  else packS p w sign (2 ^ w - 1) 0
theorem fin_pk (p w:Nat) (mode sign high last:Int) (m rest:Nat):(finS p w mode sign high last m rest).1 = pkF p w mode sign last (if awayS mode sign (decide (m % 2 = 1)) rest = true then m + 1 else m):=by
  unfold finS pkF
  simp only [apply_ite Prod.fst]
theorem pk_carry {p w:Nat} (h:1 ≤ p) (mode sign last:Int):pkF p w mode sign last (2 ^ p) = pkF p w mode sign (last + 1) (2 ^ (p - 1)):=by
  have hpp:2 ^ p = 2 ^ (p - 1) * 2:=by rw [← Nat.pow_succ]; congr 1; omega
  have hp0:=Nat.two_pow_pos (p - 1)
  unfold pkF
  have hne:(2 ^ (p - 1) = 2 ^ p) = False:=eq_false (by omega)
  simp only [hne,if_true,if_false]
theorem pk_self {p w:Nat} (h:OkS p w) {mode a:Int} (hi:I6 a) (hb:bitsOk p w a) (hc:(numS p w a).class_ = 1) :
    pkF p w mode (numS p w a).sign (numS p w a).e (numS p w a).m.toNat = a:=by
  have hs:=congrArg Prod.fst (rnd_self h (mode:=mode) hi hb hc)
  obtain ⟨M,eM,m0,m1,e0,e1,mn⟩:=(numS_ok h a).mag hc
  rw [eM,Int.toNat_natCast] at hs ⊢
  have hbl:bl M ≤ p:=bl_le_iff.2 m1
  have hlast:lastS p w M (numS p w a).e = (numS p w a).e:=by
    unfold lastS highS
    rcases mn with q | q
    · rw [q]; omega
    · have:=bl_uniq (n:=M) (k:=p - 1) q (by obtain ⟨f1,_⟩:=h.facts; rw [show p - 1 + 1 = p by omega]; exact m1)
      obtain ⟨f1,_⟩:=h.facts
      omega
  unfold rndS at hs
  simp only [hlast,Int.sub_self,Int.le_refl,if_true,Int.neg_zero,Int.toNat_zero,Nat.pow_zero,Nat.mul_one] at hs
  rw [fin_pk,away0,if_neg (by decide)] at hs
  exact hs
theorem testBit_half {N n:Nat} (hn:0 < n):N.testBit (n - 1) = decide (2 ^ (n - 1) ≤ N % 2 ^ n):=by
  obtain ⟨k,rfl⟩:∃ k,n = k + 1:=⟨n - 1,by omega⟩
  rw [Nat.add_sub_cancel]
  have:=mod_bit N k
  have hlt:=Nat.mod_lt N (Nat.two_pow_pos k)
  cases hb:N.testBit k with
  | true=>rw [hb,if_pos rfl] at this; rw [eq_comm,decide_eq_true_eq]; omega
  | false=>rw [hb,if_neg (by decide)] at this; rw [eq_comm,decide_eq_false_iff_not]; omega
theorem rest_low {N n:Nat} {more:Bool} (hn:0 < n) (h:N % 2 ^ n < 2 ^ (n - 1)):restC N n more ≤ 1:=by
  unfold restC
  rw [testBit_half hn,decide_eq_false (by omega),if_neg (by decide)]
  split <;> omega
theorem rest_high {N n:Nat} {more:Bool} (hn:0 < n) (h:2 ^ (n - 1) < N % 2 ^ n ∨ 2 ^ (n - 1) ≤ N % 2 ^ n ∧ more = true):restC N n more = 3:=by
  have hm:N % 2 ^ n = 2 ^ (n - 1) + N % 2 ^ (n - 1):=by
    obtain ⟨k,rfl⟩:∃ k,n = k + 1:=⟨n - 1,by omega⟩
    have:=mod_bit N k
    have hlt:=Nat.mod_lt N (Nat.two_pow_pos k)
    rw [Nat.add_sub_cancel] at h ⊢
    cases hb:N.testBit k with
    | true=>rw [hb,if_pos rfl] at this; exact this
    | false=>rw [hb,if_neg (by decide)] at this; rcases h with h | h <;> omega
  unfold restC
  rw [testBit_half hn,decide_eq_true (by omega),if_pos rfl,if_pos]
  rcases h with h | ⟨_,h⟩
  · rw [decide_eq_true (by omega),Bool.or_true]
  · rw [h]; rfl
theorem away_low {sign:Int} {odd:Bool} {r:Nat} (h:r ≤ 1):awayS 0 sign odd r = false:=by
  unfold awayS
  rw [if_pos rfl,decide_eq_false (by omega),decide_eq_false (by omega)]; rfl
theorem away_high {sign:Int} {odd:Bool}:awayS 0 sign odd 3 = true:=by unfold awayS; rw [if_pos rfl]; rfl
theorem near_fin {p w:Nat} {sign high last:Int} {N d m:Nat} {more:Bool} (hd:0 < d)
    (h:(m * 2 ^ d ≤ N ∧ N < m * 2 ^ d + 2 ^ (d - 1)) ∨ (0 < m ∧ N < m * 2 ^ d ∧ (m * 2 ^ d < N + 2 ^ (d - 1) ∨ m * 2 ^ d ≤ N + 2 ^ (d - 1) ∧ more = true))) :
    (finS p w 0 sign high last (N / 2 ^ d) (restC N d more)).1 = pkF p w 0 sign last m:=by
  have hp:=Nat.two_pow_pos d
  have hh:2 ^ d = 2 ^ (d - 1) * 2:=by rw [← Nat.pow_succ]; congr 1; omega
  have h0:=Nat.two_pow_pos (d - 1)
  rw [fin_pk]
  rcases h with ⟨h1,h2⟩ | ⟨hm,h1,h2⟩
  · obtain ⟨q,r⟩:=div_end (a:=N) (b:=2 ^ d) (q:=m) (r:=N - m * 2 ^ d) (by omega) (by omega)
    rw [q,away_low (rest_low hd (by rw [r]; omega)),if_neg (by decide)]
  · obtain ⟨k,rfl⟩:∃ k,m = k + 1:=⟨m - 1,by omega⟩
    rw [Nat.add_mul,Nat.one_mul] at h1 h2
    have hlo:k * 2 ^ d ≤ N:=by rcases h2 with h2 | h2 <;> omega
    obtain ⟨q,r⟩:=div_end (a:=N) (b:=2 ^ d) (q:=k) (r:=N - k * 2 ^ d) (by omega) (by omega)
    have hr:2 ^ (d - 1) < N % 2 ^ d ∨ 2 ^ (d - 1) ≤ N % 2 ^ d ∧ more = true:=by
      rw [r]
      rcases h2 with h2 | ⟨h2,h3⟩
      · exact .inl (by omega)
      · exact .inr ⟨by omega,h3⟩
    rw [q,rest_high hd hr,away_high,if_pos rfl]
theorem rnd_near {p w:Nat} (h:OkS p w) {a:Int} (hi:I6 a) (hb:bitsOk p w a) (hc:(numS p w a).class_ = 1) {num den J M:Nat} {e:Int} (hM:(numS p w a).m = M) (he:(numS p w a).e = e) (hn:0 < num) (hd:0 < den) (hJ:2 ≤ e + J)
    (hup:2 * (num * 2 ^ J) < (2 * M + 1) * 2 ^ (e + J).toNat * den)
    (hlow:if M = 2 ^ (p - 1) ∧ e ≠ lstS p w then (4 * M - 1) * 2 ^ (e + J).toNat * den < 4 * (num * 2 ^ J) else (2 * M - 1) * 2 ^ (e + J).toNat * den < 2 * (num * 2 ^ J)) :
    (rndF p w 0 (numS p w a).sign num den).1 = a:=by
  obtain ⟨M',eM,m0,m1,e0,e1,mn⟩:=(numS_ok h a).mag hc
  obtain rfl:M' = M:=by omega
  rw [he] at e0 e1 mn
  have hp:=h.facts
  have hself:=pk_self h (mode:=0) hi hb hc
  rw [hM,he,Int.toNat_natCast] at hself
  obtain ⟨d,hdd⟩:∃ d,d = (e + J).toNat:=⟨_,rfl⟩
  have hde:(d:Int) = e + J:=by omega
  rw [← hdd] at hup hlow
  have hU:=Nat.two_pow_pos d
  have hUh:2 ^ d = 2 ^ (d - 1) * 2:=by rw [← Nat.pow_succ]; congr 1; omega
  have hUq:2 ^ (d - 1) = 2 ^ (d - 2) * 2:=by rw [← Nat.pow_succ]; congr 1; omega
  have hq0:=Nat.two_pow_pos (d - 2)
  obtain ⟨N,hN⟩:∃ N,N = unF num den J:=⟨_,rfl⟩
  obtain ⟨R,hR⟩:∃ R,R = num * 2 ^ J % den:=⟨_,rfl⟩
  have hNR:den * N + R = num * 2 ^ J:=by rw [hN,hR]; exact Nat.div_add_mod _ _
  have hRd:R < den:=by rw [hR]; exact Nat.mod_lt _ hd
  have hmore:leF num den J = decide (R ≠ 0):=by rw [hR]; rfl
  rw [← hNR] at hup hlow
  have upN:2 * N < (2 * M' + 1) * 2 ^ d:=by
    refine Nat.lt_of_mul_lt_mul_left (a:=den) ?_
    have:den * (2 * N) = 2 * (den * N):=by simp only [Nat.mul_left_comm]
    have h2:den * ((2 * M' + 1) * 2 ^ d) = (2 * M' + 1) * 2 ^ d * den:=Nat.mul_comm _ _
    omega
  have upN2:N < M' * 2 ^ d + 2 ^ (d - 1):=by
    rw [Nat.add_mul,Nat.one_mul,Nat.mul_assoc] at upN; omega
  have lowN:∀ c K:Nat,(c - 1) * 2 ^ d * den < K * (den * N + R) → (c - 1) * 2 ^ d < K * N + K * (if R = 0 then 0 else 1):=by
    intro c K hx
    refine Nat.lt_of_mul_lt_mul_right (a:=den) ?_
    refine Nat.lt_of_lt_of_le hx ?_
    rw [Nat.mul_add,Nat.add_mul]
    refine Nat.add_le_add (Nat.le_of_eq (by simp only [Nat.mul_assoc,Nat.mul_comm,Nat.mul_left_comm])) ?_
    by_cases hr:R = 0
    · rw [hr]; simp
    · rw [if_neg hr,Nat.mul_one]; exact Nat.mul_le_mul_left _ (Nat.le_of_lt hRd)
  have hbM:2 ^ (bl M' - 1) ≤ M' ∧ M' < 2 ^ bl M':=⟨bl_le m0,bl_lt M'⟩
  have hblp:bl M' ≤ p:=bl_le_iff.2 m1
  have hbl0:=bl_pos m0
  have hMU:2 ^ bl M' * 2 ^ d = 2 ^ (bl M' + d):=(Nat.pow_add ..).symm
  have hlstb:∀ b:Nat,bl N = b → lastS p w N (-(J:Int)) = max (-(J:Int) + b - p) (lstS p w):=by
    intro b hb2; unfold lastS highS; rw [hb2]; omega
  have hNup:N < 2 ^ (bl M' + d):=by
    have:(M' + 1) * 2 ^ d ≤ 2 ^ bl M' * 2 ^ d:=Nat.mul_le_mul_right _ hbM.2
    rw [Nat.add_mul,Nat.one_mul] at this
    omega
  have rnd:∀ hx:Deep p w num den J,(rndF p w 0 (numS p w a).sign num den).1 = (rndS p w 0 (numS p w a).sign N (-(J:Int)) (decide (R ≠ 0))).1:=by
    intro hx
    rw [rndF_eq hd hx]; unfold rndJ; rw [← hN,hmore]
  have fin:∀ last:Int,lastS p w N (-(J:Int)) = last → ∀ k m:Nat,0 < k → last + J = k → pkF p w 0 (numS p w a).sign last m = a → 0 < N →
      ((m * 2 ^ k ≤ N ∧ N < m * 2 ^ k + 2 ^ (k - 1)) ∨ (0 < m ∧ N < m * 2 ^ k ∧ (m * 2 ^ k < N + 2 ^ (k - 1) ∨ m * 2 ^ k ≤ N + 2 ^ (k - 1) ∧ decide (R ≠ 0) = true))) → (rndF p w 0 (numS p w a).sign num den).1 = a:=by
    intro last hl k m hk hlk hpk hN0 hcase
    have hx:Deep p w num den J:=⟨by rw [← hN]; exact hN0,by rw [← hN,hl]; omega⟩
    rw [rnd hx]
    unfold rndS
    simp only [hl]
    rw [show last - -(J:Int) = (k:Int) by omega,if_neg (by omega),if_neg (by omega),Int.toNat_natCast]
    exact (near_fin hk hcase).trans hpk
  by_cases hpw:M' = 2 ^ (p - 1) ∧ e ≠ lstS p w
  · rw [if_pos hpw] at hlow
    have lo:=lowN (4 * M') 4 hlow
    have hlo2:M' * 2 ^ d ≤ N + 2 ^ (d - 2) ∧ (M' * 2 ^ d < N + 2 ^ (d - 2) ∨ R ≠ 0):=by
      have h4:(4 * M' - 1) * 2 ^ d = 4 * (M' * 2 ^ d) - 2 ^ d:=by rw [Nat.sub_mul,Nat.one_mul,Nat.mul_assoc]
      have hge:2 ^ d ≤ M' * 2 ^ d:=Nat.le_mul_of_pos_left _ m0
      rw [h4] at lo
      by_cases hr:R = 0
      · rw [if_pos hr] at lo; omega
      · rw [if_neg hr] at lo; exact ⟨by omega,.inr hr⟩
    have hblM:bl M' = p:=by
      have:=bl_uniq (n:=M') (k:=p - 1) (by omega) (by rw [show p - 1 + 1 = p by omega]; exact m1)
      omega
    by_cases hge:M' * 2 ^ d ≤ N
    · have hbN:bl N = p + d:=by
        have q1:2 ^ (p - 1 + d) ≤ N:=by rw [Nat.pow_add,← hpw.1]; exact hge
        have:=bl_uniq (n:=N) (k:=p - 1 + d) q1 (by rw [show p - 1 + d + 1 = bl M' + d by omega]; exact hNup)
        omega
      exact fin e (by rw [hlstb _ hbN]; omega) d M' (by omega) (by omega) hself (by have:=Nat.mul_pos m0 hU; omega) (.inl ⟨hge,upN2⟩)
    · have hbN:bl N = p - 1 + d:=by
        have q1:2 ^ (p - 2 + d) ≤ N:=by
          have:2 ^ (p - 1) * 2 ^ d = 2 ^ (p - 2 + d) * 2:=by rw [← Nat.pow_add,← Nat.pow_succ]; congr 1; omega
          rw [hpw.1] at hlo2 hge
          have q2:2 ^ (d - 2) ≤ 2 ^ (p - 2 + d):=Nat.pow_le_pow_right (by decide) (by omega)
          omega
        have q3:N < 2 ^ (p - 1 + d):=by rw [Nat.pow_add,← hpw.1]; omega
        have:=bl_uniq (n:=N) (k:=p - 2 + d) q1 (by rw [show p - 2 + d + 1 = p - 1 + d by omega]; exact q3)
        omega
      have hcar:=pk_carry (p:=p) (w:=w) (by omega) 0 (numS p w a).sign (e - 1)
      rw [show e - 1 + 1 = e by omega,← hpw.1,hself] at hcar
      have h2p:2 ^ p * 2 ^ (d - 1) = M' * 2 ^ d:=by
        rw [hpw.1,← Nat.pow_add,← Nat.pow_add]; congr 1; omega
      have hN0:0 < N:=by
        rcases Nat.eq_zero_or_pos N with hz | hz
        · rw [hz,bl_zero] at hbN; omega
        · exact hz
      refine fin (e - 1) (by rw [hlstb _ hbN]; omega) (d - 1) (2 ^ p) (by omega) (by omega) hcar hN0 (.inr ⟨Nat.two_pow_pos _,by rw [h2p]; omega,?_⟩)
      rw [h2p,show d - 1 - 1 = d - 2 by omega]
      rcases hlo2.2 with q | q
      · exact .inl q
      · exact .inr ⟨hlo2.1,decide_eq_true q⟩
  · rw [if_neg hpw] at hlow
    have lo:=lowN (2 * M') 2 hlow
    have hlo2:M' * 2 ^ d ≤ N + 2 ^ (d - 1) ∧ (M' * 2 ^ d < N + 2 ^ (d - 1) ∨ R ≠ 0):=by
      have h4:(2 * M' - 1) * 2 ^ d = 2 * (M' * 2 ^ d) - 2 ^ d:=by rw [Nat.sub_mul,Nat.one_mul,Nat.mul_assoc]
      have hge:2 ^ d ≤ M' * 2 ^ d:=Nat.le_mul_of_pos_left _ m0
      rw [h4] at lo
      by_cases hr:R = 0
      · rw [if_pos hr] at lo; omega
      · rw [if_neg hr] at lo; exact ⟨by omega,.inr hr⟩
    have hN0:0 < N:=by have:=Nat.mul_le_mul_right (2 ^ d) m0; omega
    have hlast:lastS p w N (-(J:Int)) = e:=by
      rcases mn with q | q
      · -- the lowest exponent
        have hbN:bl N ≤ p + d:=by
          refine bl_le_iff.2 (Nat.lt_of_lt_of_le hNup (Nat.pow_le_pow_right (by decide) (by omega)))
        rw [hlstb _ rfl]; omega
      · by_cases ql:e = lstS p w
        · have hbN:bl N ≤ p + d:=by
            refine bl_le_iff.2 (Nat.lt_of_lt_of_le hNup (Nat.pow_le_pow_right (by decide) (by omega)))
          rw [hlstb _ rfl]; omega
        · have hgt:2 ^ (p - 1) + 1 ≤ M':=by
            have:M' ≠ 2 ^ (p - 1):=fun hh=>hpw ⟨hh,ql⟩
            omega
          have q1:2 ^ (p - 1 + d) ≤ N:=by
            rw [Nat.pow_add]
            have:=Nat.mul_le_mul_right (2 ^ d) hgt
            rw [Nat.add_mul,Nat.one_mul] at this
            omega
          have:=bl_uniq (n:=N) (k:=p - 1 + d) q1 (Nat.lt_of_lt_of_le hNup (Nat.pow_le_pow_right (by decide) (by omega)))
          rw [hlstb _ this]; omega
    by_cases hge:M' * 2 ^ d ≤ N
    · exact fin e hlast d M' (by omega) (by omega) hself hN0 (.inl ⟨hge,upN2⟩)
    · refine fin e hlast d M' (by omega) (by omega) hself hN0 (.inr ⟨m0,by omega,?_⟩)
      rcases hlo2.2 with q | q
      · exact .inl q
      · exact .inr ⟨hlo2.1,decide_eq_true q⟩
end Go.Q
namespace Go.Q
open Go
set_option maxRecDepth 10000
theorem num_lim {p w:Nat} (h:OkS p w) {a:Int} (hc:(numS p w a).class_ = 1):∃ M:Nat,(numS p w a).m = M ∧ 0 < M ∧ M < 2 ^ p ∧ p ≤ 53 ∧ -1074 ≤ (numS p w a).e ∧ (numS p w a).e < 1024:=by
  obtain ⟨M,eM,m0,m1,e0,e1,mn⟩:=(numS_ok h a).mag hc
  have hl:-1074 ≤ lstS p w:=by rcases h with ⟨rfl,rfl⟩ | ⟨rfl,rfl⟩ | ⟨rfl,rfl⟩ <;> decide
  exact ⟨M,eM,m0,m1,h.facts.2.2.2.1,by omega,e1⟩
theorem two_le_ten (n:Nat):2 ^ (3 * n) ≤ 10 ^ n:=by rw [Nat.pow_mul]; exact Nat.pow_le_pow_left (by decide) n
theorem own_lim {p w:Nat} (h:OkS p w) {a:Int} {D:BS} {X:Int} (ho:Own p w a D X) (hc:(numS p w a).class_ = 1):-390 ≤ X ∧ X ≤ 390:=by
  obtain ⟨M,eM,m0,m1,hp,e0,e1⟩:=num_lim h hc
  obtain ⟨K,hK⟩:∃ K,K = 9000:=⟨_,rfl⟩
  obtain ⟨T0,hT0⟩:∃ T,T = 358:=⟨_,rfl⟩
  obtain ⟨J,hJ⟩:∃ J,J = 3 * T0:=⟨_,rfl⟩
  have l1:=ho.len; have x1:=ho.lenX
  have s1:=own_scale ho (K:=K) (J:=J) (by omega) (by omega)
  rw [eM,Int.toNat_natCast] at s1
  have vD:=own_low2 ho
  have uD:=vd_lt D ho.all
  have q1:10 ^ (D.length - 1) * 10 ^ (X - D.length + K).toNat ≤ vd D * 10 ^ (X - D.length + K).toNat:=Nat.mul_le_mul_right _ vD.1
  have q2:vd D * 10 ^ (X - D.length + K).toNat < 10 ^ D.length * 10 ^ (X - D.length + K).toNat:=Nat.mul_lt_mul_of_pos_right uD (Nat.pow_pos (by decide))
  rw [← Nat.pow_add,show D.length - 1 + (X - D.length + K).toNat = (X + K - 1).toNat by omega] at q1
  rw [← Nat.pow_add,show D.length + (X - D.length + K).toNat = (X + K).toNat by omega] at q2
  constructor
  · rcases Int.lt_or_le X (-390) with hx | hx
    · exfalso
      have r1:1 * 1 * 10 ^ K ≤ M * 2 ^ ((numS p w a).e + J).toNat * 10 ^ K:=Nat.mul_le_mul_right _ (Nat.mul_le_mul m0 (Nat.two_pow_pos _))
      have r2:vd D * 10 ^ (X - D.length + K).toNat * 2 ^ J ≤ 10 ^ (X + K).toNat * 2 ^ (3 * T0):=by rw [hJ]; exact Nat.mul_le_mul_right _ (Nat.le_of_lt q2)
      have r3:10 ^ (X + K).toNat * 2 ^ (3 * T0) ≤ 10 ^ (X + K).toNat * 10 ^ T0:=Nat.mul_le_mul_left _ (two_le_ten T0)
      rw [← Nat.pow_add] at r3
      have r4:10 ^ ((X + K).toNat + T0) < 10 ^ K:=Nat.pow_lt_pow_right (by decide) (by omega)
      rw [s1] at r2
      omega
    · exact hx
  · rcases Int.lt_or_le 390 X with hx | hx
    · exfalso
      obtain ⟨T,hT⟩:∃ T,T = 360:=⟨_,rfl⟩
      have r0:M * 2 ^ ((numS p w a).e + J).toNat ≤ 2 ^ (3 * T) * 2 ^ J:=by
        have a1:M ≤ 2 ^ p:=Nat.le_of_lt m1
        have a2:M * 2 ^ ((numS p w a).e + J).toNat ≤ 2 ^ p * 2 ^ ((numS p w a).e + J).toNat:=Nat.mul_le_mul_right _ a1
        rw [← Nat.pow_add] at a2 ⊢
        exact Nat.le_trans a2 (Nat.pow_le_pow_right (by decide) (by omega))
      have r1:M * 2 ^ ((numS p w a).e + J).toNat * 10 ^ K ≤ 10 ^ T * 2 ^ J * 10 ^ K:=Nat.mul_le_mul_right _ (Nat.le_trans r0 (Nat.mul_le_mul_right _ (two_le_ten T)))
      have r2:10 ^ (X + K - 1).toNat * 2 ^ J ≤ 10 ^ (T + K) * 2 ^ J:=by
        have:10 ^ T * 2 ^ J * 10 ^ K = 10 ^ (T + K) * 2 ^ J:=by rw [Nat.pow_add]; simp only [Nat.mul_assoc,Nat.mul_comm,Nat.mul_left_comm]
        rw [← this]
        exact Nat.le_trans (Nat.mul_le_mul_right _ q1) (by rw [s1]; exact r1)
      have r3:=Nat.le_of_mul_le_mul_right r2 (Nat.two_pow_pos _)
      have r4:=(Nat.pow_le_pow_iff_right (show 1 < 10 by decide)).1 r3
      omega
    · exact hx
theorem near_dig {D:BS} (ha:D.all dgQ = true) (n:Nat) {sg:Int} {P V E:Nat} (hV:V * 10 ^ (D.drop n).length = (vd (topD D n) * 10 ^ (D.drop n).length + vd (D.drop n)) * P) (hE:E = RA D n (awD 0 sg D n)) :
    2 * (E * P) ≤ 2 * V + P ∧ 2 * V ≤ 2 * (E * P) + P:=by
  have hL:0 < 10 ^ (D.drop n).length:=Nat.pow_pos (by decide)
  have hlt:=vd_lt (D.drop n) (all_drop n ha)
  have hm:(awD 0 sg D n = true → 10 ^ (D.drop n).length ≤ 2 * vd (D.drop n)) ∧ (awD 0 sg D n = false → 2 * vd (D.drop n) ≤ 10 ^ (D.drop n).length):=by
    unfold awD
    by_cases hx:D.length ≤ n
    · rw [if_pos hx,List.drop_of_length_le hx,vd_nil]
      exact ⟨fun h=>(by cases h),fun _=>Nat.zero_le _⟩
    · rw [if_neg hx,if_pos rfl]
      constructor
      · intro h
        rw [Bool.or_eq_true,Bool.and_eq_true,decide_eq_true_eq,decide_eq_true_eq] at h
        rcases h with h | h <;> omega
      · intro h
        rw [Bool.or_eq_false_iff,decide_eq_false_iff_not] at h
        omega
  rw [hE]
  unfold RA
  generalize vd (topD D n) = A at *
  generalize vd (D.drop n) = r at *
  generalize 10 ^ (D.drop n).length = L at *
  rw [Nat.add_mul] at hV
  cases hw:awD 0 sg D n with
  | true =>
    have h1:=hm.1 hw
    rw [if_pos rfl]
    constructor
    · refine Nat.le_of_mul_le_mul_right ?_ hL
      have e1:2 * ((A + 1) * P) * L = 2 * (A * L * P) + 2 * (L * P):=by rw [Nat.add_mul,Nat.one_mul,Nat.mul_add,Nat.add_mul]; simp only [Nat.mul_assoc,Nat.mul_comm,Nat.mul_left_comm]
      have e2:(2 * V + P) * L = 2 * (V * L) + L * P:=by rw [Nat.add_mul]; simp only [Nat.mul_assoc,Nat.mul_comm,Nat.mul_left_comm]
      have e3:L * P ≤ 2 * (r * P):=by have:=Nat.mul_le_mul_right P h1; rwa [Nat.mul_assoc] at this
      rw [e1,e2,hV]; omega
    · refine Nat.le_of_mul_le_mul_right ?_ hL
      have e1:(2 * ((A + 1) * P) + P) * L = 2 * (A * L * P) + 3 * (L * P):=by
        have:2 * ((A + 1) * P) + P = 2 * (A * P) + 3 * P:=by rw [Nat.add_mul,Nat.one_mul]; omega
        rw [this,Nat.add_mul]; simp only [Nat.mul_assoc,Nat.mul_comm,Nat.mul_left_comm]
      have e2:2 * V * L = 2 * (V * L):=Nat.mul_assoc _ _ _
      have e3:r * P ≤ L * P:=Nat.mul_le_mul_right P (Nat.le_of_lt hlt)
      rw [e1,e2,hV]; omega
  | false =>
    have h1:=hm.2 hw
    rw [if_neg (by decide),Nat.add_zero]
    constructor
    · refine Nat.le_of_mul_le_mul_right ?_ hL
      have e1:2 * (A * P) * L = 2 * (A * L * P):=by simp only [Nat.mul_assoc,Nat.mul_comm,Nat.mul_left_comm]
      have e2:(2 * V + P) * L = 2 * (V * L) + P * L:=by rw [Nat.add_mul,Nat.mul_assoc]
      rw [e1,e2,hV]; omega
    · refine Nat.le_of_mul_le_mul_right ?_ hL
      have e1:(2 * (A * P) + P) * L = 2 * (A * L * P) + L * P:=by rw [Nat.add_mul]; simp only [Nat.mul_assoc,Nat.mul_comm,Nat.mul_left_comm]
      have e2:2 * V * L = 2 * (V * L):=Nat.mul_assoc _ _ _
      have e3:2 * (r * P) ≤ L * P:=by have:=Nat.mul_le_mul_right P h1; rwa [Nat.mul_assoc] at this
      rw [e1,e2,hV]; omega
end Go.Q
