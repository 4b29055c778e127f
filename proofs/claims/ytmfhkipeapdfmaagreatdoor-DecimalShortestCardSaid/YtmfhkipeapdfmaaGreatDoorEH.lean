import Derived.Test.YtmfhkipeapdfmaaGreatDoorED2
import Derived.Test.YtmfhkipeapdfmaaGreatDoorBK
import Derived.Test.YtmfhkipeapdfmaaGreatDoorERF
import Derived.Test.YtmfhkipeapdfmaaGreatDoorEM1
namespace Go.Q
open Go
set_option maxRecDepth 10000
theorem own_scaledS {p w:Nat} (h:OkS p w) {a:Int} (hc:(numS p w a).class_ = 1) {D:BS} {X:Int} (ho:Own p w a D X) {mode sg:Int} (hs:sg = 0 ∨ sg = 1) (hm:0 ≤ mode ∧ mode < 4) {n:Nat} {j:Int} (hj:j = n - X) (hn:n ≤ 1000) :
    Ref2.fraction.scaled ⟨sg,Nt ((numS p w a).m.toNat * 2 ^ (numS p w a).e.toNat),Nt (2 ^ (-(numS p w a).e).toNat)⟩ mode j = some (Nt (RA D n (awD mode sg D n))) ∧ bl (RA D n (awD mode sg D n)) ≤ 19000:=by
  obtain ⟨b0,b1,b2⟩:=own_bits h hc
  have hx:=own_lim h ho hc
  have hd:=Nat.two_pow_pos (-(numS p w a).e).toNat
  obtain ⟨i1,i2⟩:=is10_div (Nat.mul_pos hd (Nat.pow_pos (by decide))) (is10_times (own_is ho) j)
  obtain ⟨t1,t2,t3⟩:=topD_vd ho.all (n:=n) (t:=X - D.length + j) (by omega)
  rw [← t1] at i1
  rw [t2,t3] at i2
  obtain ⟨k1,k2,k3⟩:=rscaled (num:=(numS p w a).m.toNat * 2 ^ (numS p w a).e.toNat) (den:=2 ^ (-(numS p w a).e).toNat) hd (by omega) (by omega) hm (sg:=sg) (j:=j) (by omega) rfl rfl rfl
  rw [i1] at k1 k2 k3
  have haw:=away_same ho.all ho.last (n:=n) hm hs (Nat.mul_pos hd (Nat.pow_pos (by decide))) i2
  rw [haw] at k1
  unfold RA
  cases hq:awD mode sg D n with
  | true=>rw [hq,if_pos rfl] at k1; rw [if_pos rfl]; exact ⟨k1,by omega⟩
  | false=>rw [hq,if_neg (by decide)] at k1; rw [if_neg (by decide),Nat.add_zero]; exact ⟨k1,by omega⟩
theorem rdigitsS {p w:Nat} (h:OkS p w) {a:Int} (hc:(numS p w a).class_ = 1) {D:BS} {X:Int} (ho:Own p w a D X) {mode sg:Int} (hs:sg = 0 ∨ sg = 1) (hm:0 ≤ mode ∧ mode < 4) {n:Nat} (hn1:1 ≤ n) (hn:n ≤ 100) {more:Bool} (hmo:awD mode sg D n = more) :
    Ref2.fraction.digits ⟨sg,Nt ((numS p w a).m.toNat * 2 ^ (numS p w a).e.toNat),Nt (2 ^ (-(numS p w a).e).toNat)⟩ mode n = some (B (resD D X n more).1,(resD D X n more).2):=by
  obtain ⟨b0,b1,b2⟩:=own_bits h hc
  have hx:=own_lim h ho hc
  obtain ⟨s1,s2⟩:=own_scaledS h hc ho hs hm (n:=n) (j:=n - X) rfl (by omega)
  rw [hmo] at s1 s2
  have hds:=ds_rdD ho.all ho.head ho.ne hn1 more
  have hdec:=decimal_eq (v:=RA D n more) (by omega)
  rw [hds] at hdec
  have hlen:(rdD D n more).length ≤ n + 1:=by
    unfold rdD
    have h1:=incD_len (topD D n)
    have h2:=topD_len D n
    split <;> omega
  have hsz:(B (rdD D n more)).size = (rdD D n more).length:=B_size _
  unfold Ref2.fraction.digits
  refine bindE (size_eq (own_ten ho) (by omega) (by omega) (by omega) (by omega)) (letV (y:=(n:Int) - X) (wi (by omega) (by omega)) (bindE s1 (bindE hdec (letV (y:=((rdD D n more).length:Int)) (by rw [hsz]) ?_))))
  unfold resD
  by_cases c:(rdD D n more).length > n
  · rw [if_pos c]
    refine letT (decide_eq_true (by omega)) (chkE ⟨by omega,by omega⟩ (letV (y:=B ((rdD D n more).take n)) ?_ (letV (y:=X + 1) (wi (by omega) (by omega)) rfl)))
    exact take_B _ n
  · rw [if_neg c]; exact letF (decide_eq_false (by omega)) rfl
theorem awD_13 (D:BS) (n:Nat):awD 1 0 D n = false ∧ awD 3 0 D n = decide (n < D.length):=by
  unfold awD
  by_cases c:D.length ≤ n
  · rw [if_pos c,if_pos c,decide_eq_false (show ¬ n < D.length by omega)]; exact ⟨rfl,rfl⟩
  · rw [if_neg c,if_neg c,decide_eq_true (show n < D.length by omega)]
    refine ⟨?_,?_⟩
    · rw [if_neg (by decide),if_neg (by decide),if_neg (by decide)]
    · rw [if_neg (by decide),if_neg (by decide),if_pos rfl]; rfl
def absD (a b:Nat):Nat:=(a - b) + (b - a)
theorem absD_mul (a b c:Nat):absD a b * c = absD (a * c) (b * c):=by
  unfold absD
  rw [Nat.add_mul,Nat.sub_mul,Nat.sub_mul]
theorem absD_bl {a b k:Nat} (h1:bl a ≤ k) (h2:bl b ≤ k):bl (absD a b) ≤ k:=by
  refine bl_le_iff.2 ?_
  have:=bl_le_iff.1 h1
  have:=bl_le_iff.1 h2
  unfold absD; omega
theorem rdistance {num den:Nat} (h1:bl num ≤ 2000) (h2:bl den ≤ 2000) {sg:Int} {s:BS} (ha:s.all dgQ = true) (hl:s.length ≤ 100) (hh:shD s = s) (hv:0 < vd s) {k:Int} (hk:-395 ≤ k ∧ k ≤ 395) :
    Ref2.fraction.distance ⟨sg,Nt num,Nt den⟩ (B s) k = some (Nt (absD (num * 10 ^ ((s.length:Int) - k).toNat) (vd s * 10 ^ (k - s.length).toNat * den))) ∧ bl (absD (num * 10 ^ ((s.length:Int) - k).toNat) (vd s * 10 ^ (k - s.length).toNat * den)) ≤ 6000:=by
  have hsz:(B s).size = s.length:=B_size _
  obtain ⟨z,hz⟩:∃ z:Int,z = k - s.length:=⟨_,rfl⟩
  have hvx:vxD s z = (vd s,z):=by unfold vxD; rw [hh,if_neg (by omega),if_neg (by omega)]
  have hf:=rfrac_pos (d:=s) (w:=[]) (sg:=0) (x:=z) ha hl (by omega) hv
  rw [hvx] at hf
  have b1:=bl_mul num (10 ^ (-z).toNat)
  have b2:=bl_mul (vd s * 10 ^ z.toNat) den
  have b3:=bl_mul (vd s) (10 ^ z.toNat)
  have b4:=bl_ten (-z).toNat
  have b5:=bl_ten z.toNat
  have b6:=bl_vd ha
  rw [show (s.length:Int) - k = -z by omega,← hz]
  generalize hA:num * 10 ^ (-z).toNat = A at *
  generalize hB:vd s * 10 ^ z.toNat = V at *
  generalize hW:V * den = W at *
  have ln:∀ v:Nat,bl v ≤ 6000 → lnB 4294967296 v ≤ 100000:=fun v hv=>by have:=ln_bl v; omega
  refine ⟨?_,absD_bl (by omega) (by omega)⟩
  have hA2:Ref2.times (Nt num) (Nt (10 ^ (-z).toNat)) = some (Nt A):=by rw [tim (by omega) (by omega),hA]
  have hW2:Ref2.times (Nt V) (Nt den) = some (Nt W):=by rw [tim (by omega) (by omega),hW]
  have hsm:∀ v:Nat,bl v ≤ 6000 → (((([]:List Int)).length + (Nt v).length) * 4 ≤ 140737488355328):=fun v hv=>by
    rw [Nt_len]; have:=ln v hv; simp only [List.length_nil]; omega
  unfold Ref2.fraction.distance
  refine letV (y:=(s.length:Int)) (by rw [hsz]) (letV (y:=z) (by rw [wi (by omega) (by omega)]; omega) (bindE hf (bindE hA2 (bindE hW2 (bindE (ncomp_eq A W (ln _ (by omega)) (ln _ (by omega))) ?_)))))
  unfold cmpI absD
  rcases Nat.lt_or_ge A W with c | c
  · rw [if_pos c]
    refine letF rfl (chkE (hsm _ (by omega)) (letV (y:=Nt W) rfl (bindE (lessH_eq (ln _ (by omega)) (by omega)) ?_)))
    rw [show A - W = 0 by omega,Nat.zero_add]
  · rw [if_neg (by omega)]
    refine letT (by split <;> rfl) (chkE (hsm _ (by omega)) (letV (y:=Nt A) rfl (bindE (lessH_eq (ln _ (by omega)) (by omega)) ?_)))
    rw [show W - A = 0 by omega,Nat.add_zero]
theorem rover {num den:Nat} (h1:bl num ≤ 2000) (h2:bl den ≤ 2000) {sg:Int} {s:BS} (ha:s.all dgQ = true) (hl:s.length ≤ 100) (hh:shD s = s) (hv:0 < vd s) {k low:Int} (hk:-395 ≤ k ∧ k ≤ 395) {c:Nat} (hc:c ≤ 1) (hlow:k - s.length - low = c) {P V:Nat} (hV:V = num * 10 ^ (-low).toNat) (hP:P = 10 ^ low.toNat * den) :
    Ref2.fraction.over_ ⟨sg,Nt num,Nt den⟩ (B s) k low = some (Nt (absD V (vd s * 10 ^ c * P))) ∧ bl (absD V (vd s * 10 ^ c * P)) ≤ 7000:=by
  have hsz:(B s).size = s.length:=B_size _
  obtain ⟨d1,d2⟩:=rdistance h1 h2 (sg:=sg) ha hl hh hv hk
  rw [hV,hP]
  have bt:bl (10 ^ c) ≤ 5:=Nat.le_trans (bl_ten c) (by omega)
  have go:∀ {R},(if low < 0 ∧ c = 1 then Ref2.fraction.over_.j0 low (Nt (absD (num * 10 ^ ((s.length:Int) - k).toNat) (vd s * 10 ^ (k - s.length).toNat * den))) c true else some (Nt (absD (num * 10 ^ ((s.length:Int) - k).toNat) (vd s * 10 ^ (k - s.length).toNat * den)))) = R → Ref2.fraction.over_ ⟨sg,Nt num,Nt den⟩ (B s) k low = R:=by
    intro R hR
    unfold Ref2.fraction.over_
    refine bindE d1 (letV (y:=(s.length:Int)) (by rw [hsz]) (letV (y:=k - s.length) (wi (by omega) (by omega)) (letV (y:=(c:Int)) (by rw [wi (by omega) (by omega)]; omega) ?_)))
    by_cases q1:c = 1
    · refine letT (decide_eq_true (by omega)) ?_
      by_cases q2:low < 0
      · rw [if_pos ⟨q2,q1⟩] at hR
        exact letV (decide_eq_true q2) hR
      · rw [if_neg (fun q=>q2 q.1)] at hR
        exact letV (decide_eq_false q2) hR
    · rw [if_neg (fun q=>q1 q.2)] at hR
      exact letF (decide_eq_false (by omega)) hR
  have same:∀ u:Nat,(low < 0 ∧ c = 1 → u = 10) → (¬ (low < 0 ∧ c = 1) → u = 1) → absD (num * 10 ^ ((s.length:Int) - k).toNat) (vd s * 10 ^ (k - s.length).toNat * den) * u = absD (num * 10 ^ (-low).toNat) (vd s * 10 ^ c * (10 ^ low.toNat * den)):=by
    intro u u1 u2
    rw [absD_mul]
    by_cases q:low < 0 ∧ c = 1
    · rw [u1 q,show (-low).toNat = ((s.length:Int) - k).toNat + 1 by omega,show (k - s.length).toNat = 0 by omega,show low.toNat = 0 by omega,q.2]
      simp only [Nat.pow_zero,Nat.pow_one,Nat.mul_one,Nat.one_mul,Nat.pow_succ,Nat.mul_assoc,Nat.mul_comm,Nat.mul_left_comm]
    · rw [u2 q,Nat.mul_one,Nat.mul_one,show (-low).toNat = ((s.length:Int) - k).toNat by omega,show (k - s.length).toNat = c + low.toNat by omega,Nat.pow_add]
      simp only [Nat.mul_assoc]
  by_cases q:low < 0 ∧ c = 1
  · have e:=same 10 (fun _=>rfl) (fun x=>absurd q x)
    refine ⟨go ?_,?_⟩
    · rw [if_pos q]
      unfold Ref2.fraction.over_.j0
      refine condT rfl (letV (y:=-low) (by show IntKind.i64.wrap (0 - low) = _; rw [wi (by omega) (by omega)]; omega) (letV (y:=((1:Nat):Int)) (by have q1:=q.1; have q2:=q.2; split <;> omega) (bindE (rpower_eq (by omega)) (bindE (tim (by omega) (Nat.le_trans (bl_ten 1) (by omega))) ?_))))
      rw [Nat.pow_one,e]
    · rw [← e]
      have:=bl_mul (absD (num * 10 ^ ((s.length:Int) - k).toNat) (vd s * 10 ^ (k - s.length).toNat * den)) 10
      have h10:bl 10 = 4:=by decide
      omega
  · have e:=same 1 (fun x=>absurd x q) (fun _=>rfl)
    rw [Nat.mul_one] at e
    refine ⟨go ?_,?_⟩
    · rw [if_neg q,e]
    · rw [← e]; omega
theorem vd_par {s:BS} (ha:s.all dgQ = true) (hne:s ≠ []):IntKind.u8.wrap (bt (B s) ((s.length:Int) - 1) - 48) = ((cv (s.getLast hne):Nat):Int) ∧ vd s % 2 = cv (s.getLast hne) % 2:=by
  have hpos:0 < s.length:=List.length_pos_iff.2 hne
  have hlast:s.getLast hne = s[s.length - 1]:=List.getLast_eq_getElem hne
  have hd:dgQ (s.getLast hne) = true:=List.all_eq_true.1 ha _ (List.getLast_mem hne)
  constructor
  · rw [show (s.length:Int) - 1 = ((s.length - 1:Nat):Int) by omega,bt_B s (s.length - 1) (by omega),← hlast]
    have hc:dgQ (s.getLast hne) = true:=hd
    unfold dgQ at hd
    rw [Bool.and_eq_true,decide_eq_true_eq,decide_eq_true_eq] at hd
    unfold cv
    show (((s.getLast hne).toNat:Int) - 48) % 256 = _
    omega
  · have e:s = s.dropLast ++ [s.getLast hne]:=(List.dropLast_concat_getLast hne).symm
    have h1:vd [s.getLast hne] = cv (s.getLast hne):=by rw [vd_cons]; simp [vd_nil]
    have h2:vd s = vd s.dropLast * 10 + cv (s.getLast hne):=by
      have:=vd_append s.dropLast [s.getLast hne]
      rw [← e,h1] at this
      exact this
    omega
end Go.Q
namespace Go.Q
open Go
set_option maxRecDepth 10000
variable {p w:Nat} {a:Int} {D:BS} {X:Int}
theorem res_hi (ho:Own p w a D X) {n:Nat} (hn:1 ≤ n) (more:Bool):(resD D X n more).1.length = n ∧ (resD D X n more).1.all dgQ = true ∧ 10 ^ (n - 1) ≤ vd (resD D X n more).1 ∧ ∃ c,c ≤ 1 ∧ (resD D X n more).2 = X + (c:Nat) ∧ vd (resD D X n more).1 * 10 ^ c = RA D n more ∧ (more = false → c = 0) ∧ (c = 1 → vd (resD D X n more).1 = 10 ^ (n - 1)):=by
  obtain ⟨r1,r2,r3,r4⟩:=res_ok ho.all ho.head ho.ne hn X more
  refine ⟨r1,r2,r3,?_⟩
  rcases r4 with ⟨q1,q2,q3⟩ | ⟨q1,q2,q3⟩
  · exact ⟨0,by decide,by rw [q3]; omega,by rw [q1,Nat.pow_zero,Nat.mul_one],fun _=>rfl,fun h=>by cases h⟩
  · refine ⟨1,by decide,by rw [q3]; rfl,by rw [q1,q2,← Nat.pow_add]; congr 1; omega,fun h=>?_,fun _=>q2⟩
    have:=(topD_low ho.all ho.head ho.ne hn).2
    rw [h] at q1
    unfold RA at q1
    simp at q1
    omega
theorem nearer_eq (h:OkS p w) (hc:(numS p w a).class_ = 1) (ho:Own p w a D X) {n:Nat} (hn1:1 ≤ n) (hn:n ≤ 100) {sg:Int} :
    Ref2.nearer ⟨sg,Nt ((numS p w a).m.toNat * 2 ^ (numS p w a).e.toNat),Nt (2 ^ (-(numS p w a).e).toNat)⟩ (B (resD D X n true).1) (resD D X n true).2 (B (resD D X n false).1) (resD D X n false).2 =
      some (decide (10 ^ (D.drop n).length < 2 * vd (D.drop n)) || (decide (10 ^ (D.drop n).length = 2 * vd (D.drop n)) && decide (vd (resD D X n true).1 % 2 = 0))):=by
  obtain ⟨b0,b1,b2⟩:=own_bits h hc
  have hx:=own_lim h ho hc
  obtain ⟨h1,h2,h3,c,hc1,h4,h5,_,_⟩:=res_hi ho hn1 true
  obtain ⟨l1,l2,l3,c0,_,l4,l5,l6,_⟩:=res_hi ho hn1 false
  obtain rfl:=l6 rfl
  have hd:=Nat.two_pow_pos (-(numS p w a).e).toNat
  obtain ⟨low,hlow⟩:∃ low:Int,low = X - n:=⟨_,rfl⟩
  obtain ⟨i1,i2⟩:=is10_div (Nat.mul_pos hd (Nat.pow_pos (by decide))) (is10_times (own_is ho) (-low))
  obtain ⟨t1,t2,t3⟩:=topD_vd ho.all (n:=n) (t:=X - D.length + -low) (by omega)
  rw [← t1] at i1
  rw [t2,t3] at i2
  rw [Int.neg_neg] at i1 i2
  generalize hr1:resD D X n true = r1 at *
  generalize hr0:resD D X n false = r0 at *
  generalize (numS p w a).m.toNat * 2 ^ (numS p w a).e.toNat = num at *
  generalize 2 ^ (-(numS p w a).e).toNat = den at *
  have s1:shD r1.1 = r1.1:=shD_full h2 (by omega) (by rw [h1]; exact h3)
  have s0:shD r0.1 = r0.1:=shD_full l2 (by omega) (by rw [l1]; exact l3)
  have v1:0 < vd r1.1:=Nat.lt_of_lt_of_le (Nat.pow_pos (by decide)) h3
  have v0:0 < vd r0.1:=Nat.lt_of_lt_of_le (Nat.pow_pos (by decide)) l3
  obtain ⟨V,hV⟩:∃ V,V = num * 10 ^ (-low).toNat:=⟨_,rfl⟩
  obtain ⟨P,hP⟩:∃ P,P = 10 ^ low.toNat * den:=⟨_,rfl⟩
  obtain ⟨o1,o2⟩:=rover (sg:=sg) (by omega) (by omega) h2 (by omega) s1 v1 (k:=r1.2) (low:=low) (by omega) hc1 (by omega) hV hP
  obtain ⟨p1,p2⟩:=rover (sg:=sg) (by omega) (by omega) l2 (by omega) s0 v0 (k:=r0.2) (low:=low) (by omega) (c:=0) (by decide) (by omega) hV hP
  rw [h5] at o1 o2
  rw [l5] at p1 p2
  have hPd:P = den * 10 ^ low.toNat:=by rw [hP,Nat.mul_comm]
  rw [← hV,← hPd] at i1 i2
  have hP0:0 < P:=by rw [hPd]; exact Nat.mul_pos hd (Nat.pow_pos (by decide))
  have hL:0 < 10 ^ (D.drop n).length:=Nat.pow_pos (by decide)
  have e1:absD V (RA D n true * P) = P - V % P:=by
    have hm:=Nat.div_add_mod V P
    have hlt:=Nat.mod_lt V hP0
    unfold absD RA
    rw [if_pos rfl,← i1,Nat.add_mul,Nat.one_mul,Nat.mul_comm (V / P) P]
    omega
  have e0:absD V (RA D n false * P) = V % P:=by
    have hm:=Nat.div_add_mod V P
    have hlt:=Nat.mod_lt V hP0
    unfold absD RA
    rw [if_neg (by decide),← i1,Nat.add_zero,Nat.mul_comm (V / P) P]
    omega
  rw [e1] at o1 o2
  rw [e0] at p1 p2
  have hlt:=Nat.mod_lt V hP0
  obtain ⟨f1,f2,_⟩:=frac_half (r:=V % P) (b:=P) (t:=vd (D.drop n)) (d:=10 ^ (D.drop n).length) hP0 hL i2
  have hne:r1.1 ≠ []:=by intro q; rw [q] at h1; simp at h1; omega
  obtain ⟨y1,y2⟩:=vd_par h2 hne
  have z1:(B r1.1).size = n:=by rw [B_size,h1]
  have z0:(B r0.1).size = n:=by rw [B_size,l1]
  unfold Ref2.nearer
  refine letV (y:=(n:Int)) (by rw [z1]) (letV (y:=r1.2 - n) (wi (by omega) (by omega)) (letV (y:=(n:Int)) (by rw [z0]) (letV (y:=r0.2 - n) (wi (by omega) (by omega)) (letV (y:=low) (by split <;> omega) (bindE o1 (bindE p1 (bindE (ncomp_eq _ _ (by have:=ln_bl (P - V % P); omega) (by have:=ln_bl (V % P); omega)) ?_)))))))
  unfold cmpI
  by_cases q1:P - V % P < V % P
  · rw [if_pos q1,show decide (10 ^ (D.drop n).length < 2 * vd (D.drop n)) = true from decide_eq_true (f1.1 (by omega))]
    exact letT rfl rfl
  · rw [if_neg q1,show decide (10 ^ (D.drop n).length < 2 * vd (D.drop n)) = false from decide_eq_false (fun q=>q1 (by have:=f1.2 q; omega)),Bool.false_or]
    by_cases q2:P - V % P = V % P
    · rw [if_pos q2,show decide (10 ^ (D.drop n).length = 2 * vd (D.drop n)) = true from decide_eq_true (f2.1 (by omega)),Bool.true_and]
      refine letF rfl (letT rfl (letV (y:=(n:Int)) (by rw [z1]) (letV (y:=(n:Int) - 1) (wi (by omega) (by omega)) (chkE (by rw [z1]; omega) (letV rfl (letV (y:=((cv (r1.1.getLast hne):Nat):Int)) (by rw [← h1]; exact y1) (chkE (by decide) (letV rfl (letV (y:=decide (vd r1.1 % 2 = 0)) ?_ rfl)))))))))
      rw [y2,Bool.eq_iff_iff,beq_iff_eq,decide_eq_true_eq,Int.tmod_eq_emod_of_nonneg (Int.natCast_nonneg _)]
      omega
    · rw [if_neg q2,show decide (10 ^ (D.drop n).length = 2 * vd (D.drop n)) = false from decide_eq_false (fun q=>q2 (by have:=f2.2 q; omega)),Bool.false_and]
      exact letF rfl (letF rfl rfl)
end Go.Q
namespace Go.Q
open Go
set_option maxRecDepth 10000
variable {p w:Nat} {a:Int}
theorem code_two {P E f E2 f2:Nat} (h1:f < P) (h2:f2 < P) (e:E * P + f = E2 * P + f2):E = E2 ∧ f = f2:=by
  have hP:0 < P:=by omega
  have a1:(E * P + f) / P = E:=by rw [Nat.mul_comm,Nat.mul_add_div hP,Nat.div_eq_of_lt h1,Nat.add_zero]
  have a2:(E2 * P + f2) / P = E2:=by rw [Nat.mul_comm,Nat.mul_add_div hP,Nat.div_eq_of_lt h2,Nat.add_zero]
  rw [e,a2] at a1
  subst a1
  exact ⟨rfl,by omega⟩
theorem own_code (h:OkS p w) (hi:I6 a) (hb:bitsOk p w a) (hc:(numS p w a).class_ = 1):∃ (s E f:Nat),s < 2 ∧ (numS p w a).sign = (s:Nat) ∧ a = codeS p w s (E * 2 ^ (p - 1) + f) ∧ E + 1 < 2 ^ w ∧ f < 2 ^ (p - 1) ∧
    ((E = 0 ∧ (numS p w a).m.toNat = f ∧ (numS p w a).e = lstS p w) ∨ (0 < E ∧ (numS p w a).m.toNat = f + 2 ^ (p - 1) ∧ (numS p w a).e = (E:Int) - biasS w - p + 1)):=by
  have hps:=pack_self h hi hb
  have hsg:sgnS p w (uS a) < 2:=Nat.mod_lt _ (by decide)
  have hE:expS p w (uS a) < 2 ^ w:=Nat.mod_lt _ (Nat.two_pow_pos w)
  have hf:frcS p (uS a) < 2 ^ (p - 1):=Nat.mod_lt _ (Nat.two_pow_pos _)
  have hn:numS p w a = readS p w (uS a):=rfl
  rw [pack_code] at hps
  refine ⟨sgnS p w (uS a),expS p w (uS a),frcS p (uS a),hsg,?_,hps.symm,?_,hf,?_⟩
  · exact numS_sign a
  · rw [hn] at hc
    unfold readS at hc
    by_cases c1:expS p w (uS a) = 2 ^ w - 1
    · exfalso
      by_cases c2:frcS p (uS a) = 0
      · rw [if_pos ⟨c1,c2⟩] at hc; cases hc
      · rw [if_neg (fun q=>c2 q.2),if_pos c1] at hc; cases hc
    · omega
  · rw [hn] at hc ⊢
    unfold readS at hc ⊢
    by_cases c1:expS p w (uS a) = 2 ^ w - 1
    · exfalso
      by_cases c2:frcS p (uS a) = 0
      · rw [if_pos ⟨c1,c2⟩] at hc; cases hc
      · rw [if_neg (fun q=>c2 q.2),if_pos c1] at hc; cases hc
    · rw [if_neg (fun q=>c1 q.1),if_neg c1] at hc ⊢
      by_cases c3:expS p w (uS a) = 0
      · by_cases c4:frcS p (uS a) = 0
        · rw [if_pos ⟨c3,c4⟩] at hc; cases hc
        · rw [if_neg (fun q=>c4 q.2),if_pos c3]
          exact .inl ⟨c3,rfl,rfl⟩
      · rw [if_neg (fun q=>c3 q.1),if_neg c3]
        exact .inr ⟨by omega,rfl,rfl⟩
theorem far_rnd (h:OkS p w) (hi:I6 a) (hb:bitsOk p w a) (hc:(numS p w a).class_ = 1) {num den:Nat} (hn:0 < num) (hd:0 < den) (hr:(rndF p w 0 (numS p w a).sign num den).1 = a) {L W:Nat} (hL:lstS p w = -(L:Int)) (hW:W = (numS p w a).m.toNat * 2 ^ ((numS p w a).e + L).toNat) :
    ∃ n s1,W = n * 2 ^ s1 ∧ (2 ^ (p - 1) ≤ n ∨ s1 = 0) ∧ 2 * (W * den) ≤ 2 * (num * 2 ^ L) + den * 2 ^ s1:=by
  obtain ⟨a1,a2,a3,a4,a5,_⟩:=h.facts
  obtain ⟨b1,b2,b3,b4⟩:=bias_pow h
  have hlst:lstS p w = 2 - biasS w - p:=rfl
  have hpp:2 ^ p = 2 * 2 ^ (p - 1):=by rw [Nat.mul_comm,← Nat.pow_succ]; congr 1; omega
  have hp1:=Nat.two_pow_pos (p - 1)
  obtain ⟨s,E,f,hs,hsg,hcode,hE,hf,hor⟩:=own_code h hi hb hc
  obtain ⟨e,q,t,d,h1,h2,h3,h4,h5,h6,h7⟩:=frac_parts (p:=p) (w:=w) (by omega) hn hd
  have hq:q < 2 ^ p:=bl_le_iff.1 h5
  obtain ⟨n,hnd⟩:∃ n,n = if awayS 0 (s:Int) (decide (q % 2 = 1)) (rsC t d) = true then q + 1 else q:=⟨_,rfl⟩
  rw [hsg,ref_rnd hd hn h1 h2 h3 h4 h5 h6 (by omega),fin_end h h4 h5 h6 hnd] at hr
  have hnn:n ≤ 2 ^ p:=by rw [hnd]; split <;> omega
  have hup:2 * (n * d) ≤ 2 * (d * q + t) + d:=by
    have hm:=Nat.mul_comm d q
    rw [hnd]
    by_cases c:awayS 0 (s:Int) (decide (q % 2 = 1)) (rsC t d) = true
    · rw [if_pos c,Nat.add_mul,Nat.one_mul]
      have:d ≤ 2 * t:=by
        unfold awayS rsC at c
        rw [if_pos rfl] at c
        by_cases t0:t = 0
        · rw [if_pos t0] at c; simp at c
        · rw [if_neg t0] at c
          by_cases t1:2 * t < d
          · rw [if_pos t1] at c; simp at c
          · omega
      omega
    · rw [if_neg c]; omega
  obtain ⟨e2,he2⟩:∃ e2,e2 = if n = 2 ^ p then e + 1 else e:=⟨_,rfl⟩
  obtain ⟨n2,hn2⟩:∃ n2,n2 = if n = 2 ^ p then 2 ^ (p - 1) else n:=⟨_,rfl⟩
  rw [← he2,← hn2] at hr
  have hadd:=Nat.add_mul (2 ^ w - 2) 1 (2 ^ (p - 1))
  rw [Nat.one_mul,show 2 ^ w - 2 + 1 = 2 ^ w - 1 by omega] at hadd
  have hEle:E * 2 ^ (p - 1) ≤ (2 ^ w - 2) * 2 ^ (p - 1):=Nat.mul_le_mul_right _ (by omega)
  have hn2p:n2 < 2 ^ p:=by rw [hn2]; split <;> omega
  have small:n < 2 ^ (p - 1) → e = lstS p w:=fun hh=>by
    rcases h6 with h6 | h6
    · have:q < 2 ^ (p - 1):=by rw [hnd] at hh; revert hh; split <;> omega
      have:=bl_le_iff.2 this; omega
    · exact h6
  have val:(numS p w a).m.toNat = n2 ∧ (numS p w a).e = e2:=by
    unfold endS at hr
    by_cases ov:e2 + p - 1 > biasS w
    · exfalso
      rw [if_pos ov] at hr
      have hov:ovB 0 (s:Int) = false:=by unfold ovB; rfl
      rw [hov] at hr
      have hr:packS p w s (2 ^ w - 1) 0 = a:=hr
      rw [pack_code,hcode] at hr
      have:=code_inj h hs (by omega) (by omega) hr
      omega
    · rw [if_neg ov] at hr
      by_cases c:n2 < 2 ^ (p - 1)
      · rw [if_pos c] at hr
        have hr:packS p w s 0 n2 = a:=hr
        rw [pack_code,hcode] at hr
        have hk:=code_inj h hs (by omega) (by omega) hr
        obtain ⟨g1,g2⟩:=code_two c hf hk
        have hnp:n ≠ 2 ^ p:=fun q=>by rw [hn2,if_pos q] at c; omega
        have hne:n2 = n:=by rw [hn2,if_neg hnp]
        have hee:e2 = e:=by rw [he2,if_neg hnp]
        have:=small (by omega)
        rcases hor with ⟨_,q1,q2⟩ | ⟨q0,_,_⟩
        · exact ⟨by omega,by omega⟩
        · omega
      · rw [if_neg c] at hr
        have hr:packS p w s (e2 + biasS w + p - 1).toNat (n2 - 2 ^ (p - 1)) = a:=hr
        have he2l:lstS p w ≤ e2:=by rw [he2]; split <;> omega
        have hEE:(e2 + biasS w + p - 1).toNat * 2 ^ (p - 1) ≤ (2 ^ w - 2) * 2 ^ (p - 1):=Nat.mul_le_mul_right _ (by omega)
        rw [pack_code,hcode] at hr
        have hk:=code_inj h hs (by omega) (by omega) hr
        obtain ⟨g1,g2⟩:=code_two (by omega) hf hk
        rcases hor with ⟨q0,_,_⟩ | ⟨_,q1,q2⟩
        · omega
        · exact ⟨by omega,by omega⟩
  obtain ⟨s1,hs1⟩:∃ s1:Nat,(s1:Int) = e + L:=⟨(e + L).toNat,by omega⟩
  refine ⟨n,s1,?_,?_,?_⟩
  · rw [hW,val.1,val.2,hn2,he2]
    by_cases c:n = 2 ^ p
    · rw [if_pos c,if_pos c,c,show (e + 1 + (L:Int)).toNat = s1 + 1 by omega,hpp,Nat.pow_succ,Nat.mul_comm (2 ^ s1) 2,← Nat.mul_assoc,Nat.mul_comm _ 2]
    · rw [if_neg c,if_neg c,show (e + (L:Int)).toNat = s1 by omega]
  · rcases Nat.lt_or_ge n (2 ^ (p - 1)) with c | c
    · have:=small c; right; omega
    · exact .inl c
  · have hWn:W = n * 2 ^ s1:=by
      rw [hW,val.1,val.2,hn2,he2]
      by_cases c:n = 2 ^ p
      · rw [if_pos c,if_pos c,c,show (e + 1 + (L:Int)).toNat = s1 + 1 by omega,hpp,Nat.pow_succ,Nat.mul_comm (2 ^ s1) 2,← Nat.mul_assoc,Nat.mul_comm _ 2]
      · rw [if_neg c,if_neg c,show (e + (L:Int)).toNat = s1 by omega]
    obtain ⟨C,hC1,hC2⟩:∃ C,C * 2 ^ e.toNat = 2 ^ s1 ∧ C * 2 ^ (-e).toNat = 2 ^ L:=by
      rcases Int.lt_or_le e 0 with c | c
      · exact ⟨2 ^ s1,by rw [show e.toNat = 0 by omega,Nat.pow_zero,Nat.mul_one],by rw [← Nat.pow_add]; congr 1; omega⟩
      · exact ⟨2 ^ L,by rw [← Nat.pow_add]; congr 1; omega,by rw [show (-e).toNat = 0 by omega,Nat.pow_zero,Nat.mul_one]⟩
    have k1:num * 2 ^ L = C * (d * q + t):=by
      rw [← hC2,Nat.mul_left_comm,h1,← h2]
    have k2:den * 2 ^ s1 = C * d:=by rw [← hC1,Nat.mul_left_comm,← h2]
    have k3:W * den = C * (n * d):=by rw [hWn,Nat.mul_assoc,Nat.mul_comm (2 ^ s1) den,k2,Nat.mul_left_comm]
    rw [k1,k2,k3]
    have:=Nat.mul_le_mul_left C hup
    rw [Nat.mul_add,Nat.mul_left_comm,Nat.mul_left_comm C 2] at this
    exact this
end Go.Q
namespace Go.Q
open Go
set_option maxRecDepth 10000
variable {p w:Nat} {a:Int} {D:BS} {X:Int}
noncomputable def bkF (p w:Nat) (sg:Int) (D:BS) (X:Int) (n:Nat) (b:Bool):Int × Int :=
  rndF p w 0 sg ((vxD (resD D X n b).1 ((resD D X n b).2 - n)).1 * 10 ^ (vxD (resD D X n b).1 ((resD D X n b).2 - n)).2.toNat) (10 ^ (-(vxD (resD D X n b).1 ((resD D X n b).2 - n)).2).toNat)
theorem lst_L (h:OkS p w):∃ L:Nat,lstS p w = -(L:Int) ∧ 1 ≤ L:=by
  rcases h with ⟨rfl,rfl⟩ | ⟨rfl,rfl⟩ | ⟨rfl,rfl⟩
  · exact ⟨24,by decide,by decide⟩
  · exact ⟨149,by decide,by decide⟩
  · exact ⟨1074,by decide,by decide⟩
theorem own_L (h:OkS p w) (hc:(numS p w a).class_ = 1) (ho:Own p w a D X) {L W:Nat} (hL:lstS p w = -(L:Int)) (hW:W = (numS p w a).m.toNat * 2 ^ ((numS p w a).e + L).toNat) :
    vd D * 10 ^ (X - D.length).toNat * 2 ^ L = W * 10 ^ ((D.length:Int) - X).toNat:=by
  obtain ⟨M,eM,m0,m1,e0,e1,mn⟩:=(numS_ok h a).mag hc
  obtain ⟨e,he⟩:∃ e,e = (numS p w a).e:=⟨_,rfl⟩
  rw [← he] at e0 hW
  obtain ⟨C,hC1,hC2⟩:∃ C,C * 2 ^ e.toNat = 2 ^ (e + L).toNat ∧ C * 2 ^ (-e).toNat = 2 ^ L:=by
    rcases Int.lt_or_le e 0 with c | c
    · exact ⟨2 ^ (e + L).toNat,by rw [show e.toNat = 0 by omega,Nat.pow_zero,Nat.mul_one],by rw [← Nat.pow_add]; congr 1; omega⟩
    · exact ⟨2 ^ L,by rw [← Nat.pow_add]; congr 1; omega,by rw [show (-e).toNat = 0 by omega,Nat.pow_zero,Nat.mul_one]⟩
  have hown:=own_eq ho
  rw [← he] at hown
  have this:C * (vd D * 10 ^ (X - D.length).toNat * 2 ^ (-e).toNat) = C * ((numS p w a).m.toNat * 2 ^ e.toNat * 10 ^ ((D.length:Int) - X).toNat):=congrArg (fun x=>C * x) hown
  rw [hW,← hC1,← hC2]
  have l:vd D * 10 ^ (X - D.length).toNat * (C * 2 ^ (-e).toNat) = C * (vd D * 10 ^ (X - D.length).toNat * 2 ^ (-e).toNat):=Nat.mul_left_comm _ _ _
  rw [l,this]
  simp only [Nat.mul_assoc,Nat.mul_left_comm]
theorem no_nine (h:OkS p w) (hi:I6 a) (hb:bitsOk p w a) (hc:(numS p w a).class_ = 1) (ho:Own p w a D X) (hD:D.length = 2) (hv:vd D = 95):(bkF p w (numS p w a).sign D X 1 false).1 ≠ a:=by
  intro hr
  obtain ⟨r1,r2,r3,c,_,r4,r5,r6,_⟩:=res_hi ho (n:=1) (Nat.le_refl _) false
  obtain rfl:=r6 rfl
  have hx:=own_lim h ho hc
  have ht:vd (topD D 1) = 9:=by
    obtain ⟨t1,_,t3⟩:=topD_vd ho.all (n:=1) (t:=-1) (by omega)
    rw [t1,hv]; decide
  have v9:vd (resD D X 1 false).1 = 9:=by
    rw [Nat.pow_zero,Nat.mul_one] at r5
    rw [r5]; unfold RA; rw [ht]; rfl
  have hsh:shD (resD D X 1 false).1 = (resD D X 1 false).1:=shD_full r2 (by omega) (by rw [r1]; exact r3)
  have hvx:vxD (resD D X 1 false).1 ((resD D X 1 false).2 - (1:Nat)) = (9,X - 1):=by
    unfold vxD
    rw [hsh,r1,if_neg (by omega),if_neg (by omega),v9,r4]
    congr 1; omega
  unfold bkF at hr
  rw [hvx] at hr
  have hr:(rndF p w 0 (numS p w a).sign (9 * 10 ^ (X - 1).toNat) (10 ^ (-(X - 1)).toNat)).1 = a:=hr
  obtain ⟨L,hL,hL1⟩:=lst_L h
  obtain ⟨W,hW⟩:∃ W,W = (numS p w a).m.toNat * 2 ^ ((numS p w a).e + L).toNat:=⟨_,rfl⟩
  have how:=own_L h hc ho hL hW
  obtain ⟨n,s1,hWn,hor,hfar⟩:=far_rnd h hi hb hc (Nat.mul_pos (by decide) (Nat.pow_pos (by decide))) (Nat.pow_pos (by decide)) hr hL hW
  rw [hD,hv] at how
  obtain ⟨a1,a2,a3,a4,a5,_⟩:=h.facts
  have hp10:1024 ≤ 2 ^ (p - 1):=Nat.pow_le_pow_right (n:=2) (by decide) (show 10 ≤ p - 1 by omega)
  have hU:=Nat.two_pow_pos s1
  have hLL:2 ≤ 2 ^ L:=Nat.pow_le_pow_right (n:=2) (by decide) hL1
  rcases Int.lt_or_le X 2 with hX | hX
  · -- below
    obtain ⟨den,hden⟩:∃ den,den = 10 ^ (-(X - 1)).toNat:=⟨_,rfl⟩
    rw [← hden,show (X - 1).toNat = 0 by omega,Nat.pow_zero,Nat.mul_one] at hfar
    rw [show (X - ((2:Nat):Int)).toNat = 0 by omega,Nat.pow_zero,Nat.mul_one,show (((2:Nat):Int) - X).toNat = (-(X - 1)).toNat + 1 by omega,Nat.pow_succ,← hden] at how
    have e1:19 * 2 ^ L = 2 * (W * den):=by rw [← Nat.mul_assoc] at how; omega
    have q1:2 ^ L ≤ den * 2 ^ s1:=by omega
    have q2:W * den = n * (den * 2 ^ s1):=by rw [hWn,Nat.mul_assoc,Nat.mul_comm (2 ^ s1) den]
    have q3:n ≤ 9:=by
      rcases Nat.lt_or_ge 9 n with hn | hn
      · exfalso
        have:=Nat.mul_le_mul hn q1
        have e2:n * (den * 2 ^ s1) = W * den:=q2.symm
        rw [e2] at this
        have h10:(9 + 1) * 2 ^ L = 10 * 2 ^ L:=rfl
        have:Nat.succ 9 * 2 ^ L ≤ W * den:=this
        rw [show Nat.succ 9 = 10 from rfl] at this
        omega
      · exact hn
    have s0:s1 = 0:=by omega
    rw [s0,Nat.pow_zero,Nat.mul_one] at hWn q1
    rcases Nat.eq_zero_or_pos (-(X - 1)).toNat with hz | hz
    · rw [hz,Nat.pow_zero] at hden
      omega
    · have hd5:5 ∣ den:=by
        obtain ⟨m,hm⟩:∃ m,(-(X - 1)).toNat = m + 1:=⟨(-(X - 1)).toNat - 1,by omega⟩
        rw [hden,hm,Nat.pow_succ]
        exact Nat.dvd_mul_left_of_dvd (by decide) _
      have h5:5 ∣ 19 * 2 ^ L:=by rw [e1]; exact Nat.dvd_mul_left_of_dvd (Nat.dvd_mul_left_of_dvd hd5 _) _
      have hcop:Nat.Coprime 5 (2 ^ L):=Nat.Coprime.pow_right L (by decide)
      have:=hcop.dvd_of_dvd_mul_right h5
      omega
  · obtain ⟨c,hcd⟩:∃ c,c = 10 ^ (X - ((2:Nat):Int)).toNat * 2 ^ L:=⟨_,rfl⟩
    have hc1:2 ≤ c:=by rw [hcd]; exact Nat.le_trans hLL (Nat.le_mul_of_pos_left _ (Nat.pow_pos (by decide)))
    rw [show (-(X - 1)).toNat = 0 by omega,Nat.pow_zero,Nat.mul_one,Nat.one_mul,show (X - 1).toNat = (X - ((2:Nat):Int)).toNat + 1 by omega,Nat.pow_succ] at hfar
    rw [show (((2:Nat):Int) - X).toNat = 0 by omega,Nat.pow_zero,Nat.mul_one,Nat.mul_assoc,← hcd] at how
    have e2:9 * (10 ^ (X - ((2:Nat):Int)).toNat * 10) * 2 ^ L = 90 * c:=by
      rw [hcd,Nat.mul_comm _ 10,← Nat.mul_assoc,Nat.mul_assoc]
    rw [e2] at hfar
    have q1:10 * c ≤ 2 ^ s1:=by omega
    rcases hor with hn | h0
    · have:=Nat.mul_le_mul (Nat.le_trans hp10 hn) q1
      rw [← hWn] at this
      omega
    · rw [h0] at q1
      omega
theorem nearer_away (h:OkS p w) (hi:I6 a) (hb:bitsOk p w a) (hc:(numS p w a).class_ = 1) (ho:Own p w a D X) {n:Nat} (hn1:1 ≤ n) (hn:n < D.length) (hbk:(bkF p w (numS p w a).sign D X n false).1 = a) :
    (decide (10 ^ (D.drop n).length < 2 * vd (D.drop n)) || (decide (10 ^ (D.drop n).length = 2 * vd (D.drop n)) && decide (vd (resD D X n true).1 % 2 = 0))) = awD 0 (numS p w a).sign D n:=by
  unfold awD
  rw [if_neg (by omega),if_pos rfl]
  by_cases q:10 ^ (D.drop n).length = 2 * vd (D.drop n)
  · congr 2
    refine decide_eq_decide.2 ?_
    obtain ⟨h1,h2,h3,c,hc1,h4,h5,_,h6⟩:=res_hi ho hn1 true
    have htop:topD D n = D.take n:=by unfold topD; rw [show n - D.length = 0 by omega,List.replicate_zero,List.append_nil]
    have hRA:RA D n true = vd (D.take n) + 1:=by unfold RA; rw [if_pos rfl,htop]
    rw [hRA] at h5
    rcases Nat.eq_zero_or_pos c with h0 | h0
    · rw [h0,Nat.pow_zero,Nat.mul_one] at h5
      omega
    · obtain rfl:c = 1:=by omega
      have h6:=h6 rfl
      rcases Nat.lt_or_ge 1 n with hn2 | hn2
      · obtain ⟨m,rfl⟩:∃ m,n = m + 2:=⟨n - 2,by omega⟩
        rw [show m + 2 - 1 = m + 1 by omega,Nat.pow_succ] at h6
        rw [h6] at h5 ⊢
        omega
      · exfalso
        obtain rfl:n = 1:=by omega
        rw [h6] at h5
        have h9:vd (D.take 1) = 9:=by
          rw [show (10:Nat) ^ (1 - 1) * 10 ^ 1 = 10 by decide] at h5; omega
        have hdl:(D.drop 1).length = D.length - 1:=List.length_drop ..
        have hne:D.drop 1 ≠ []:=fun e=>by rw [e] at hdl; simp at hdl; omega
        have hDs:D = D.take 1 ++ D.drop 1:=(List.take_append_drop 1 D).symm
        have hlast:vd (D.drop 1) % 10 ≠ 0:=by
          have e:D.drop 1 = (D.drop 1).dropLast ++ [(D.drop 1).getLast hne]:=(List.dropLast_concat_getLast hne).symm
          have hdg:dgQ ((D.drop 1).getLast hne) = true:=List.all_eq_true.1 (all_drop 1 ho.all) _ (List.getLast_mem hne)
          have hv1:vd [(D.drop 1).getLast hne] = cv ((D.drop 1).getLast hne):=by rw [vd_cons]; simp [vd_nil]
          have hv2:=vd_append (D.drop 1).dropLast [(D.drop 1).getLast hne]
          rw [← e,hv1] at hv2
          have hcl:=cv_lt hdg
          have hc0:cv ((D.drop 1).getLast hne) ≠ 0:=fun z=>by
            have hz:=(cv_zero hdg).1 z
            refine ho.last _ (D.take 1 ++ (D.drop 1).dropLast) ?_ hz
            rw [List.append_assoc,← e]; exact hDs
          rw [hv2]
          show (_ * 10 ^ 1 + _) % 10 ≠ 0
          omega
        obtain ⟨m,hm⟩:∃ m,(D.drop 1).length = m + 1:=⟨D.length - 2,by omega⟩
        have h5v:vd (D.drop 1) = 5 * 10 ^ m:=by rw [hm,Nat.pow_succ] at q; omega
        rcases Nat.eq_zero_or_pos m with hm0 | hm0
        · rw [hm0] at h5v hm
          have hvD:vd D = 95:=by
            have:=vd_append (D.take 1) (D.drop 1)
            rw [← hDs,h9,h5v,hm] at this
            exact this
          exact no_nine h hi hb hc ho (by omega) hvD hbk
        · obtain ⟨k,rfl⟩:∃ k,m = k + 1:=⟨m - 1,by omega⟩
          rw [Nat.pow_succ] at h5v
          omega
  · rw [show decide (10 ^ (D.drop n).length = 2 * vd (D.drop n)) = false from decide_eq_false q,Bool.false_and,Bool.false_and]
end Go.Q
namespace Go.Q
open Go
set_option maxRecDepth 10000
variable {kind:Int} {p w:Nat} {a:Int} {D:BS} {X:Int}
theorem cand (h:kindS kind p w) (hc:(numS p w a).class_ = 1) (ho:Own p w a D X) {n:Nat} (hn1:1 ≤ n) (hn:n ≤ 100) (b:Bool):∃ (o1 o2:Nat),
    Dec.round kind 0 (numS p w a).sign (B (resD D X n b).1) (resD D X n b).2 = some ((bkF p w (numS p w a).sign D X n b).1,(bkF p w (numS p w a).sign D X n b).2,0) ∧
    Ref2.text.fraction ⟨(numS p w a).sign,B (resD D X n b).1,(resD D X n b).2 - n,⟨#[]⟩⟩ = some (⟨(numS p w a).sign,Nt o1,Nt o2⟩,true) ∧
    Ref2.Form.round ⟨p,w⟩ 0 ⟨(numS p w a).sign,Nt o1,Nt o2⟩ = some (bkF p w (numS p w a).sign D X n b):=by
  obtain ⟨s,hs,hsg⟩:∃ s:Nat,s < 2 ∧ (numS p w a).sign = (s:Int):=by
    rcases own_sgn h.ok hc with q | q
    · exact ⟨0,by decide,q⟩
    · exact ⟨1,by decide,q⟩
  have hx:=own_lim h.ok ho hc
  obtain ⟨r1,r2,r3,c,hc1,r4,_⟩:=res_hi ho hn1 b
  have hv:0 < vd (resD D X n b).1:=Nat.lt_of_lt_of_le (Nat.pow_pos (by decide)) r3
  unfold bkF
  rw [hsg]
  generalize resD D X n b = r at *
  have hx2:-20000 ≤ r.2 - n ∧ r.2 - (n:Int) ≤ 20000:=by omega
  have k1:=same_round h (mode:=0) (by decide) hs (d:=r.1) (x:=r.2 - n) r2 (by omega) hx2 hv
  have k2:=rfrac_pos (d:=r.1) (w:=[]) (sg:=(s:Int)) (x:=r.2 - n) r2 (by omega) hx2 hv
  obtain ⟨v1,v2,v3,v4⟩:=vx_bits (x:=r.2 - n) r2 (by omega) hv
  have k3:=fRound h.ok (mode:=0) (by decide) hs v1 v2 v3 v4
  rw [r1,Int.sub_add_cancel] at k1
  exact ⟨_,_,k1,k2,k3⟩
noncomputable def pickS (p w:Nat) (a:Int) (D:BS) (X:Int) (n:Nat):Option (BS × Int) :=
  if (bkF p w (numS p w a).sign D X n (awD 0 (numS p w a).sign D n)).1 = a then some (resD D X n (awD 0 (numS p w a).sign D n))
  else if D.length ≤ n then none
  else if (bkF p w (numS p w a).sign D X n (!awD 0 (numS p w a).sign D n)).1 = a then some (resD D X n (!awD 0 (numS p w a).sign D n)) else none
theorem ref_s1 (h:kindS kind p w) (hc:(numS p w a).class_ = 1) (ho:Own p w a D X) {n:Nat} (hn1:1 ≤ n) (hn:n ≤ 100) {mode:Int} (hm:mode = 1 ∨ mode = 3) {b:Bool} (hb:awD mode 0 D n = b) (g:BS) (k:Int) (N Q:List Int) (hN:N = Nt ((numS p w a).m.toNat * 2 ^ (numS p w a).e.toNat)) (hQ:Q = Nt (2 ^ (-(numS p w a).e).toNat)) :
    ((bkF p w (numS p w a).sign D X n b).1 ≠ a → Ref2.Shortest.s1 a n p w (numS p w a).sign N Q 0 N Q (B g) k mode = some (.inl (p,w,(numS p w a).sign,N,Q,0,N,Q,B g,k,mode + 2))) ∧
    ((bkF p w (numS p w a).sign D X n b).1 = a → g = [] → Ref2.Shortest.s1 a n p w (numS p w a).sign N Q 0 N Q (B g) k mode = some (.inl (p,w,(numS p w a).sign,N,Q,0,N,Q,B (resD D X n b).1,(resD D X n b).2,mode + 2))) ∧
    ((bkF p w (numS p w a).sign D X n b).1 = a → g ≠ [] → ∀ nr,Ref2.nearer ⟨0,N,Q⟩ (B (resD D X n b).1) (resD D X n b).2 (B g) k = some nr → Ref2.Shortest.s1 a n p w (numS p w a).sign N Q 0 N Q (B g) k mode = some (.inl (p,w,(numS p w a).sign,N,Q,0,N,Q,if nr = true then B (resD D X n b).1 else B g,if nr = true then (resD D X n b).2 else k,mode + 2))):=by
  have hdg:=rdigitsS h.ok hc ho (mode:=mode) (sg:=0) (.inl rfl) (by omega) hn1 hn hb
  rw [← hN,← hQ] at hdg
  have hx:=own_lim h.ok ho hc
  obtain ⟨r1,r2,r3,c,hc1,r4,_⟩:=res_hi ho hn1 b
  obtain ⟨o1,o2,_,k2,k3⟩:=cand h hc ho hn1 hn b
  generalize resD D X n b = r at *
  generalize bkF p w (numS p w a).sign D X n b = bk at *
  have go:∀ {R},(if bk.1 ≠ a then some (.inl (p,w,(numS p w a).sign,N,Q,0,N,Q,B g,k,mode + 2)) else if g = [] then some (.inl (p,w,(numS p w a).sign,N,Q,0,N,Q,B r.1,r.2,mode + 2)) else Option.bind (Ref2.nearer ⟨0,N,Q⟩ (B r.1) r.2 (B g) k) fun nr=>some (.inl (p,w,(numS p w a).sign,N,Q,0,N,Q,if nr = true then B r.1 else B g,if nr = true then r.2 else k,mode + 2))) = R → Ref2.Shortest.s1 a n p w (numS p w a).sign N Q 0 N Q (B g) k mode = R:=by
    intro R hR
    have hm2:IntKind.i64.wrap (mode + 2) = mode + 2:=wi (by omega) (by omega)
    unfold Ref2.Shortest.s1
    refine letT (decide_eq_true (by omega)) (bindE hdg (letV (y:=r.2 - n) (wi (by omega) (by omega)) (bindE k2 (bindE k3 ?_))))
    by_cases q1:bk.1 = a
    · rw [if_neg (fun q=>q q1)] at hR
      refine letF (by rw [q1]; exact bne_self_eq_false _) ?_
      by_cases q2:g = []
      · rw [if_pos q2] at hR
        exact letT (by rw [nil_eq]; exact decide_eq_true q2) (letV hm2 hR)
      · rw [if_neg q2] at hR
        refine letF (by rw [nil_eq]; exact decide_eq_false q2) ?_
        cases hnr:Ref2.nearer ⟨0,N,Q⟩ (B r.1) r.2 (B g) k with
        | none=>rw [hnr] at hR; exact hR
        | some nr =>
          rw [hnr] at hR
          refine bindE (a:=nr) rfl ?_
          cases nr with
          | true=>exact condT rfl (letV hm2 hR)
          | false=>exact condF rfl (letV hm2 hR)
    · rw [if_pos q1] at hR
      exact letT (bne_iff_ne.2 q1) (letV hm2 hR)
  refine ⟨fun q=>go (if_pos q),fun q1 q2=>go ?_,fun q1 q2 nr hnr=>go ?_⟩
  · rw [if_neg (fun q=>q q1),if_pos q2]
  · rw [if_neg (fun q=>q q1),if_neg q2,hnr]; rfl
theorem nearer_self (h:OkS p w) (hc:(numS p w a).class_ = 1) (ho:Own p w a D X) {n:Nat} (hn1:1 ≤ n) (hn:n ≤ 100) (N Q:List Int) (hN:N = Nt ((numS p w a).m.toNat * 2 ^ (numS p w a).e.toNat)) (hQ:Q = Nt (2 ^ (-(numS p w a).e).toNat)) :
    ∃ nr,Ref2.nearer ⟨0,N,Q⟩ (B (resD D X n false).1) (resD D X n false).2 (B (resD D X n false).1) (resD D X n false).2 = some nr:=by
  obtain ⟨b0,b1,b2⟩:=own_bits h hc
  have hx:=own_lim h ho hc
  obtain ⟨l1,l2,l3,c0,_,l4,l5,l6,_⟩:=res_hi ho hn1 false
  obtain rfl:=l6 rfl
  rw [hN,hQ]
  generalize resD D X n false = r0 at *
  generalize (numS p w a).m.toNat * 2 ^ (numS p w a).e.toNat = num at *
  generalize 2 ^ (-(numS p w a).e).toNat = den at *
  have s0:shD r0.1 = r0.1:=shD_full l2 (by omega) (by rw [l1]; exact l3)
  have v0:0 < vd r0.1:=Nat.lt_of_lt_of_le (Nat.pow_pos (by decide)) l3
  obtain ⟨low,hlow⟩:∃ low:Int,low = X - n:=⟨_,rfl⟩
  obtain ⟨p1,p2⟩:=rover (sg:=0) (num:=num) (den:=den) (by omega) (by omega) l2 (by omega) s0 v0 (k:=r0.2) (low:=low) (by omega) (c:=0) (by decide) (by omega) rfl rfl
  generalize absD (num * 10 ^ (-low).toNat) (vd r0.1 * 10 ^ 0 * (10 ^ low.toNat * den)) = z at *
  have hz:lnB 4294967296 z ≤ 100000:=by have:=ln_bl z; omega
  have hne:r0.1 ≠ []:=by intro q; rw [q] at l1; simp at l1; omega
  obtain ⟨y1,y2⟩:=vd_par l2 hne
  have z0:(B r0.1).size = n:=by rw [B_size,l1]
  refine ⟨((cv (r0.1.getLast hne):Nat):Int).tmod 2 == 0,?_⟩
  unfold Ref2.nearer
  refine letV (y:=(n:Int)) (by rw [z0]) (letV (y:=r0.2 - n) (wi (by omega) (by omega)) (letV (y:=(n:Int)) (by rw [z0]) (letV (y:=r0.2 - n) (wi (by omega) (by omega)) (letV (y:=low) (by split <;> omega) (bindE p1 (bindE p1 (bindE (ncomp_eq _ _ hz hz) ?_)))))))
  unfold cmpI
  rw [if_neg (Nat.lt_irrefl _),if_pos rfl]
  exact letF rfl (letT rfl (letV (y:=(n:Int)) (by rw [z0]) (letV (y:=(n:Int) - 1) (wi (by omega) (by omega)) (chkE (by rw [z0]; omega) (letV rfl (letV (y:=((cv (r0.1.getLast hne):Nat):Int)) (by rw [← l1]; exact y1) (chkE (by decide) (letV rfl (letV rfl rfl)))))))))
theorem ref_step (h:kindS kind p w) (hi:I6 a) (hb:bitsOk p w a) (hc:(numS p w a).class_ = 1) (ho:Own p w a D X) {n:Nat} (hn1:1 ≤ n) (hn:n ≤ 100) (N Q:List Int) (hN:N = Nt ((numS p w a).m.toNat * 2 ^ (numS p w a).e.toNat)) (hQ:Q = Nt (2 ^ (-(numS p w a).e).toNat)) :
    Ref2.Shortest.s0 a p w (numS p w a).sign N Q 0 N Q n = some (match pickS p w a D X n with | some r=>.inr ((numS p w a).sign,B r.1,r.2,0) | none=>.inl (p,w,(numS p w a).sign,N,Q,0,N,Q,n + 1)):=by
  obtain ⟨w1,w3⟩:=awD_13 D n
  have A:=ref_s1 h hc ho hn1 hn (.inl rfl) w1 [] 0 N Q hN hQ
  have Bq:=fun g k=>ref_s1 h hc ho hn1 hn (.inr rfl) w3 g k N Q hN hQ
  obtain ⟨l1,_⟩:=res_hi ho hn1 false
  have lne:(resD D X n false).1 ≠ []:=by intro q; rw [q] at l1; simp at l1; omega
  have fin:∀ g k,Ref2.Shortest.s1 a n p w (numS p w a).sign N Q 0 N Q (B g) k 5 = some (.inr (if g = [] then .inl (p,w,(numS p w a).sign,N,Q,0,N,Q,n + 1) else .inr ((numS p w a).sign,B g,k,0))):=by
    intro g k
    unfold Ref2.Shortest.s1
    by_cases q:g = []
    · rw [if_pos q]
      exact letF rfl (congrArg (Option.map Sum.inr) (letF (by rw [nil_eq,decide_eq_true q]; rfl) (letV (wi (by omega) (by omega)) rfl)))
    · rw [if_neg q]
      exact letF rfl (congrArg (Option.map Sum.inr) (letT (by rw [nil_eq,decide_eq_false q]; rfl) rfl))
  have endl:∀ g k,Ref2.Shortest.l1 a n p w (numS p w a).sign N Q 0 N Q (B g) k 5 = some (if g = [] then .inl (p,w,(numS p w a).sign,N,Q,0,N,Q,n + 1) else .inr ((numS p w a).sign,B g,k,0)):=by
    intro g k
    rw [Ref2.Shortest.l1_eq,fin]; rfl
  have run:∀ g1 k1 g3 k3,Ref2.Shortest.s1 a n p w (numS p w a).sign N Q 0 N Q (B []) 0 1 = some (.inl (p,w,(numS p w a).sign,N,Q,0,N,Q,B g1,k1,1 + 2)) → Ref2.Shortest.s1 a n p w (numS p w a).sign N Q 0 N Q (B g1) k1 3 = some (.inl (p,w,(numS p w a).sign,N,Q,0,N,Q,B g3,k3,3 + 2)) → Ref2.Shortest.s0 a p w (numS p w a).sign N Q 0 N Q n = some (if g3 = [] then .inl (p,w,(numS p w a).sign,N,Q,0,N,Q,n + 1) else .inr ((numS p w a).sign,B g3,k3,0)):=by
    intro g1 k1 g3 k3 e1 e3
    unfold Ref2.Shortest.s0
    refine (Ref2.Shortest.l1_eq ..).trans ?_
    rw [show (⟨#[]⟩:ByteArray) = B [] from rfl,e1]
    refine (Ref2.Shortest.l1_eq ..).trans ?_
    rw [show (1:Int) + 2 = 3 from rfl,e3]
    exact endl g3 k3
  unfold pickS
  by_cases cl:D.length ≤ n
  · -- all its digits: one number
    have haw:awD 0 (numS p w a).sign D n = false:=by unfold awD; rw [if_pos cl]
    have hb3:decide (n < D.length) = false:=decide_eq_false (by omega)
    rw [hb3] at Bq
    rw [haw]
    by_cases q:(bkF p w (numS p w a).sign D X n false).1 = a
    · rw [if_pos q]
      obtain ⟨nr,hnr⟩:∃ nr,Ref2.nearer ⟨0,N,Q⟩ (B (resD D X n false).1) (resD D X n false).2 (B (resD D X n false).1) (resD D X n false).2 = some nr:=nearer_self h.ok hc ho hn1 hn N Q hN hQ
      have e3:=(Bq (resD D X n false).1 (resD D X n false).2).2.2 q lne nr hnr
      rw [ite_self,ite_self] at e3
      have:=run _ _ _ _ (A.2.1 q rfl) e3
      rw [if_neg lne] at this
      exact this
    · rw [if_neg q,if_pos cl]
      exact run [] 0 [] 0 (A.1 q) ((Bq [] 0).1 q)
  · have hb3:decide (n < D.length) = true:=decide_eq_true (by omega)
    rw [hb3] at Bq
    obtain ⟨u1,_⟩:=res_hi ho hn1 true
    have une:(resD D X n true).1 ≠ []:=by intro q; rw [q] at u1; simp at u1; omega
    rw [if_neg cl]
    by_cases q0:(bkF p w (numS p w a).sign D X n false).1 = a
    · by_cases q1:(bkF p w (numS p w a).sign D X n true).1 = a
      · have hnr:=nearer_eq h.ok hc ho hn1 hn (sg:=0)
        rw [nearer_away h.ok hi hb hc ho hn1 (by omega) q0,← hN,← hQ] at hnr
        have e3:=(Bq (resD D X n false).1 (resD D X n false).2).2.2 q1 lne _ hnr
        cases haw:awD 0 (numS p w a).sign D n with
        | true =>
          rw [haw,if_pos rfl,if_pos rfl] at e3
          rw [if_pos q1]
          have:=run _ _ _ _ (A.2.1 q0 rfl) e3
          rw [if_neg une] at this
          exact this
        | false =>
          rw [haw,if_neg (by decide),if_neg (by decide)] at e3
          rw [if_pos q0]
          have:=run _ _ _ _ (A.2.1 q0 rfl) e3
          rw [if_neg lne] at this
          exact this
      · have:=run _ _ _ _ (A.2.1 q0 rfl) ((Bq (resD D X n false).1 (resD D X n false).2).1 q1)
        rw [if_neg lne] at this
        cases haw:awD 0 (numS p w a).sign D n with
        | true=>rw [if_neg q1,Bool.not_true,if_pos q0]; exact this
        | false=>rw [if_pos q0]; exact this
    · by_cases q1:(bkF p w (numS p w a).sign D X n true).1 = a
      · have:=run [] 0 _ _ (A.1 q0) ((Bq [] 0).2.1 q1 rfl)
        rw [if_neg une] at this
        cases haw:awD 0 (numS p w a).sign D n with
        | true=>rw [if_pos q1]; exact this
        | false=>rw [if_neg q0,Bool.not_false,if_pos q1]; exact this
      · have:=run [] 0 [] 0 (A.1 q0) ((Bq [] 0).1 q1)
        rw [if_pos rfl] at this
        cases haw:awD 0 (numS p w a).sign D n with
        | true=>rw [if_neg q1,Bool.not_true,if_neg q0]; exact this
        | false=>rw [if_neg q0,Bool.not_false,if_neg q1]; exact this
end Go.Q
