import Derived.Test.YtmfhkipeapdfmaaGreatDoorDX
namespace Go.Q
open Go
set_option maxRecDepth 10000
theorem back_of {kind:Int} {p w:Nat} (h:kindS kind p w) {a:Int} (hi:I6 a) (hb:bitsOk p w a) (hc:(numS p w a).class_ = 1) {D:BS} {X:Int} (ho:Own p w a D X) {n:Nat} (hn:1 ≤ n) (hn2:n ≤ 100) (hp:2 ^ p < 10 ^ (n - 1)) :
    ∃ f,Dec.round kind 0 (numS p w a).sign (B (resD D X n (awD 0 (numS p w a).sign D n)).1) (resD D X n (awD 0 (numS p w a).sign D n)).2 = some (a,f,0):=by
  obtain ⟨M,eM,m0,m1,hp53,e0,e1⟩:=num_lim h.ok hc
  obtain ⟨x0,x1⟩:=own_lim h.ok ho hc
  obtain ⟨r1,r2,r3,r4⟩:=res_ok ho.all ho.head ho.ne hn X (awD 0 (numS p w a).sign D n)
  obtain ⟨c,hcd⟩:∃ c,c = (resD D X n (awD 0 (numS p w a).sign D n)).1:=⟨_,rfl⟩
  obtain ⟨k,hkd⟩:∃ k,k = (resD D X n (awD 0 (numS p w a).sign D n)).2:=⟨_,rfl⟩
  rw [← hcd] at r1 r2 r3 r4
  rw [← hkd] at r4
  rw [← hcd,← hkd]
  have hsg:=(numS_ok h.ok a).sgn
  have hkX:X ≤ k ∧ k ≤ X + 1:=by rcases r4 with ⟨_,_,q⟩ | ⟨_,_,q⟩ <;> omega
  have hvc:0 < vd c:=Nat.lt_of_lt_of_le (Nat.pow_pos (by decide)) r3
  have hsh:(shD c).length = c.length:=by
    have q1:=vd_lt (shD c) (shD_all r2)
    rw [shD_vd] at q1
    have q2:=shD_len c
    have q3:=(Nat.pow_lt_pow_iff_right (show 1 < 10 by decide)).1 (Nat.lt_of_le_of_lt r3 q1)
    omega
  have hat:atD c k = k:=by unfold atD; omega
  have hr:=round_in (mode:=0) h (by decide) hsg r2 (by omega) (x:=k) (by omega) hvc (by omega) (by omega)
  refine ⟨(rndF p w 0 (numS p w a).sign (vd c * 10 ^ (k - c.length).toNat) (10 ^ ((c.length:Int) - k).toNat)).2,hr.trans ?_⟩
  suffices hh:(rndF p w 0 (numS p w a).sign (vd c * 10 ^ (k - c.length).toNat) (10 ^ ((c.length:Int) - k).toNat)).1 = a by rw [hh]
  obtain ⟨K,hK⟩:∃ K,K = 9000:=⟨_,rfl⟩
  obtain ⟨J,hJ⟩:∃ J,J = 1080:=⟨_,rfl⟩
  have l1:=ho.len
  obtain ⟨P,hP⟩:∃ P,P = 10 ^ (X - n + K).toNat:=⟨_,rfl⟩
  obtain ⟨V,hVd⟩:∃ V,V = vd D * 10 ^ (X - D.length + K).toNat:=⟨_,rfl⟩
  obtain ⟨W,hWd⟩:∃ W,W = vd c * 10 ^ (k - n + K).toNat:=⟨_,rfl⟩
  have hP0:0 < P:=by rw [hP]; exact Nat.pow_pos (by decide)
  have hW0:0 < W:=by rw [hWd]; exact Nat.mul_pos hvc (Nat.pow_pos (by decide))
  have hT0:0 < 10 ^ K:=Nat.pow_pos (by decide)
  have hWR:W = RA D n (awD 0 (numS p w a).sign D n) * P:=by
    rcases r4 with ⟨q1,_,q3⟩ | ⟨q1,q2,q3⟩
    · rw [hWd,q1,q3,hP]
    · rw [hWd,q1,q2,q3,hP,← Nat.pow_add,← Nat.pow_add]; congr 1; omega
  have hVL:V * 10 ^ (D.drop n).length = (vd (topD D n) * 10 ^ (D.drop n).length + vd (D.drop n)) * P:=by
    obtain ⟨a1,a2,a3⟩:=topD_vd ho.all (n:=n) rfl
    have da:=Nat.div_add_mod (vd D * 10 ^ ((n:Int) - D.length).toNat) (10 ^ (-((n:Int) - D.length)).toNat)
    rw [← a1,a2,a3] at da
    rw [Nat.mul_comm (vd (topD D n)),da,hVd,hP,Nat.mul_assoc,Nat.mul_assoc,← Nat.pow_add,← Nat.pow_add,List.length_drop]
    congr 2; omega
  obtain ⟨g1,g2⟩:=near_dig ho.all n (sg:=(numS p w a).sign) hVL rfl
  rw [← hWR] at g1 g2
  have hVlow:2 ^ p * P < V:=by
    have vD:=own_low2 ho
    have q1:10 ^ (D.length - 1) * 10 ^ (X - D.length + K).toNat ≤ V:=by rw [hVd]; exact Nat.mul_le_mul_right _ vD.1
    have q2:10 ^ (D.length - 1) * 10 ^ (X - D.length + K).toNat = 10 ^ (n - 1) * P:=by rw [hP,← Nat.pow_add,← Nat.pow_add]; congr 1; omega
    have q3:2 ^ p * P < 10 ^ (n - 1) * P:=Nat.mul_lt_mul_of_pos_right hp hP0
    omega
  have s1:=own_scale ho (K:=K) (J:=J) (by omega) (by omega)
  rw [eM,Int.toNat_natCast,← hVd] at s1
  obtain ⟨U,hU⟩:∃ U,U = 2 ^ ((numS p w a).e + J).toNat:=⟨_,rfl⟩
  rw [← hU] at s1
  have hPU:M * (2 ^ p * P * 2 ^ J) < M * (M * U * 10 ^ K):=by
    rw [← s1]
    exact Nat.mul_lt_mul_of_pos_left (Nat.mul_lt_mul_of_pos_right hVlow (Nat.two_pow_pos _)) m0
  have hPU2:2 ^ p * (P * 2 ^ J) < M * (U * 10 ^ K):=by
    have:=Nat.lt_of_mul_lt_mul_left hPU
    rwa [Nat.mul_assoc,Nat.mul_assoc] at this
  have hlast:P * 2 ^ J < U * 10 ^ K:=by
    refine Nat.lt_of_mul_lt_mul_left (a:=2 ^ p) (Nat.lt_of_lt_of_le hPU2 (Nat.mul_le_mul_right _ (Nat.le_of_lt m1)))
  have hsame:vd c * 10 ^ (k - c.length).toNat * 10 ^ K = W * 10 ^ ((c.length:Int) - k).toNat:=by
    rw [hWd,Nat.mul_assoc,Nat.mul_assoc,← Nat.pow_add,← Nat.pow_add]
    congr 2; omega
  rw [rndF_same (Nat.mul_pos hvc (Nat.pow_pos (by decide))) (Nat.pow_pos (by decide)) hT0 hsame]
  have g1J:2 * (W * 2 ^ J) ≤ 2 * (M * U * 10 ^ K) + P * 2 ^ J:=by
    have:=Nat.mul_le_mul_right (2 ^ J) g1
    rw [Nat.add_mul,Nat.mul_assoc,Nat.mul_assoc,s1] at this; exact this
  have g2J:2 * (M * U * 10 ^ K) ≤ 2 * (W * 2 ^ J) + P * 2 ^ J:=by
    have:=Nat.mul_le_mul_right (2 ^ J) g2
    rw [Nat.add_mul,Nat.mul_assoc,Nat.mul_assoc,s1] at this; exact this
  refine rnd_near h.ok hi hb hc (J:=J) eM rfl hW0 hT0 (by omega) ?_ ?_
  · rw [← hU]
    have:(2 * M + 1) * U * 10 ^ K = 2 * (M * U * 10 ^ K) + U * 10 ^ K:=by rw [Nat.add_mul,Nat.add_mul,Nat.one_mul]; simp only [Nat.mul_assoc]
    omega
  · rw [← hU]
    have hT:∀ z:Nat,1 ≤ z * M → (z * M - 1) * U * 10 ^ K = z * (M * U * 10 ^ K) - U * 10 ^ K:=by
      intro z _
      rw [Nat.sub_mul,Nat.sub_mul,Nat.one_mul]; simp only [Nat.mul_assoc]
    have hUK:U * 10 ^ K ≤ M * U * 10 ^ K:=by rw [Nat.mul_assoc]; exact Nat.le_mul_of_pos_left _ m0
    have hUK0:0 < U * 10 ^ K:=Nat.mul_pos (by rw [hU]; exact Nat.two_pow_pos _) hT0
    split
    · rename_i hx
      rw [hT 4 (by omega)]
      have hpp:2 ^ p = 2 ^ (p - 1) * 2:=by rw [← Nat.pow_succ]; congr 1; have:=h.ok.facts; omega
      have hl2:2 * (P * 2 ^ J) < U * 10 ^ K:=by
        refine Nat.lt_of_mul_lt_mul_left (a:=2 ^ (p - 1)) ?_
        rw [hpp,Nat.mul_assoc,hx.1] at hPU2
        exact hPU2
      omega
    · rw [hT 2 (by omega)]
      omega
end Go.Q
namespace Go.Q
open Go
set_option maxRecDepth 10000
variable {kind:Int} {p w:Nat} (h:kindS kind p w) {a:Int} (hi:I6 a) (hb:bitsOk p w a) (hc:(numS p w a).class_ = 1) {D:BS} {X:Int} (ho:Own p w a D X)
include h hc ho
theorem cand_any {n:Nat} (hn:1 ≤ n) (hn2:n ≤ 100) (more:Bool):∃ b f,Dec.round kind 0 (numS p w a).sign (B (resD D X n more).1) (resD D X n more).2 = some (b,f,0):=by
  obtain ⟨x0,x1⟩:=own_lim h.ok ho hc
  obtain ⟨r1,r2,r3,r4⟩:=res_ok ho.all ho.head ho.ne hn X more
  have hk:X ≤ (resD D X n more).2 ∧ (resD D X n more).2 ≤ X + 1:=by rcases r4 with ⟨_,_,q⟩ | ⟨_,_,q⟩ <;> omega
  obtain ⟨num,den,_,_,hr⟩:=round_any h r2 (by omega) (x:=(resD D X n more).2) (by omega) (Nat.lt_of_lt_of_le (Nat.pow_pos (by decide)) r3)
  exact ⟨_,_,hr 0 _ (by decide) (numS_ok h.ok a).sgn⟩
theorem to_res {n:Nat} (hn2:n ≤ 100) (more:Bool):Dec.to (B D) X (n:Int) more = some (B (resD D X n more).1,(resD D X n more).2):=by
  obtain ⟨x0,x1⟩:=own_lim h.ok ho hc
  have l1:=ho.len
  rw [to_eq ho.all (by omega) (by omega) (by omega)]
  unfold resD
  split <;> rfl
theorem short_j0 {n:Nat} (hn:1 ≤ n) (hn2:n ≤ 100) (t40 idx:Int) (hidx:0 ≤ idx ∧ idx < 100) (more:Bool) (l:List Bool) :
    (∃ f,Dec.round kind 0 (numS p w a).sign (B (resD D X n more).1) (resD D X n more).2 = some (a,f,0) ∧ Dec.Shortest.j0 kind a (B D) X n t40 (numS p w a).sign idx more l = some (.inr (.inr ((numS p w a).sign,B (resD D X n more).1,(resD D X n more).2,0)))) ∨
    ((∀ f,Dec.round kind 0 (numS p w a).sign (B (resD D X n more).1) (resD D X n more).2 ≠ some (a,f,0)) ∧ Dec.Shortest.j0 kind a (B D) X n t40 (numS p w a).sign idx more l = some (.inl ((numS p w a).sign,l,idx + 1))):=by
  obtain ⟨b,f,hr⟩:=cand_any h hc ho hn hn2 more
  have ht:=to_res h hc ho hn2 more
  unfold Dec.Shortest.j0
  by_cases he:b = a
  · left
    rw [he] at hr
    exact ⟨f,hr,bindE ht (bindE hr (letT (beq_self_eq_true a) rfl))⟩
  · right
    refine ⟨fun g hg=>?_,bindE ht (bindE hr (letF (beq_eq_false_iff_ne.2 he) (letV (wi (by omega) (by omega)) rfl)))⟩
    rw [hr] at hg
    simp only [Option.some.injEq,Prod.mk.injEq] at hg
    exact he hg.1
end Go.Q
namespace Go.Q
open Go
set_option maxRecDepth 10000
end Go.Q
namespace Go.Q
open Go
set_option maxRecDepth 10000
theorem shD_full {c:BS} (ha:c.all dgQ = true) (h1:1 ≤ c.length) (hl:10 ^ (c.length - 1) ≤ vd c):shD c = c:=by
  obtain ⟨k,hk⟩:=shD_split c
  have q1:=vd_lt (shD c) (shD_all ha)
  rw [shD_vd] at q1
  have q3:=(Nat.pow_lt_pow_iff_right (show 1 < 10 by decide)).1 (Nat.lt_of_le_of_lt hl q1)
  have q4:=congrArg List.length hk
  rw [List.length_append,List.length_replicate] at q4
  obtain rfl:k = 0:=by omega
  exact hk.symm
end Go.Q
namespace Go.Q
open Go
set_option maxRecDepth 10000
theorem Itoa_any {n:Int} (hn:-999 ≤ n ∧ n ≤ 999):Strconv.Itoa n = some (B (Lib.itoa n)):=by
  unfold Strconv.Itoa
  rw [chk_pos (by omega)]
theorem itoa_len4 {n:Int} (hn:-999 ≤ n ∧ n ≤ 999):(Lib.itoa n).length ≤ 4:=by
  rcases Int.lt_or_le n 0 with h | h
  · obtain ⟨u,rfl⟩:∃ u:Nat,n = -(u:Int):=⟨n.natAbs,by omega⟩
    rw [Lib.itoa_neg u (by omega),← Lib.itoa_nonneg u,List.length_cons]
    have:=itoa_len (n:=u) (k:=3) (by omega) (by decide); omega
  · obtain ⟨u,rfl⟩:∃ u:Nat,n = (u:Int):=⟨n.toNat,by omega⟩
    have:=itoa_len (n:=u) (k:=3) (by omega) (by decide); omega
variable {sg:Int} (hs:sg = 0 ∨ sg = 1) {c:BS} {k:Int} (h1:1 ≤ c.length) (hl:c.length ≤ 17) (hk:-400 ≤ k ∧ k ≤ 400)
include hs h1 hl hk
theorem plain_exp:Dec.Plain.j1 sg k (B c) true = some (B (minD sg ++ c.take 1 ++ [46] ++ (c.drop 1 ++ List.replicate (2 - c.length) 48) ++ [69] ++ Lib.itoa (k - 1)),0):=by
  have sz:∀ l:BS,(B l).size = l.length:=B_size
  have hml:(minD sg).length ≤ 1:=by unfold minD; split <;> simp
  have hi:=itoa_len4 (n:=k - 1) (by omega)
  have k46:(⟨#[46]⟩:ByteArray).size = 1:=rfl
  have k69:(⟨#[69]⟩:ByteArray).size = 1:=rfl
  unfold Dec.Plain.j1
  refine condT rfl (bindE (minus_eq hs) (chkE (by rw [sz]; omega) (letV (y:=B (c.take 1)) (take_B c 1) (chkE (by rw [sz,sz,List.length_take]; omega) (letV (B_app _ _) (chkE (by rw [sz,List.length_append,List.length_take]; omega) (letV (B_app _ [46]) (chkE (by rw [sz]; omega) (letV (y:=B (c.drop 1)) (drop_B c 1)
    (chkE (by rw [sz,sz]; simp; omega) (letV (B_app _ _) (letV (y:=(c.length:Int)) (by rw [sz]) (letV (wi (by omega) (by omega)) (letV (y:=if (c.length:Int) - 1 < 1 then (c.length:Int) - 1 else 1) rfl (letV (y:=((2 - c.length:Nat):Int)) ?_ (bindE (rep0 (by omega)) (chkE (by rw [sz,sz]; simp; omega) (letV (B_app _ _)
    (chkE (by rw [sz]; simp; omega) (letV (B_app _ [69]) (letV (wi (by omega) (by omega)) (bindE (Itoa_any (by omega)) (chkE (by rw [sz,sz]; simp; omega) (letV (B_app _ _) ?_))))))))))))))))))))))))
  · split <;> rw [wi (by omega) (by omega)] <;> omega
  · congr 3
    simp
theorem plain_low (hk0:k ≤ 0):Dec.Plain.j1 sg k (B c) false = some (B (minD sg ++ [48] ++ [46] ++ (List.replicate (-k).toNat 48 ++ c)),0):=by
  have sz:∀ l:BS,(B l).size = l.length:=B_size
  have hml:(minD sg).length ≤ 1:=by unfold minD; split <;> simp
  have k2:(⟨#[48,46]⟩:ByteArray).size = 2:=rfl
  unfold Dec.Plain.j1
  refine condF rfl (letT (decide_eq_true hk0) (bindE (minus_eq hs) (chkE (by rw [sz]; omega) (letV (B_app _ [48,46]) (letV (y:=(((-k).toNat:Nat):Int)) (by rw [wi (by omega) (by omega)]; omega) (bindE (rep0 (by omega)) (chkE (by rw [sz,sz]; simp; omega) (letV (B_app _ _) (chkE (by rw [sz,sz]; simp; omega) (letV (B_app _ _) ?_))))))))))
  congr 3
  simp
theorem plain_mid (hk0:0 < k) {n:Nat} (hn:k = n):Dec.Plain.j1 sg k (B c) false = some (B (ptD sg (c ++ List.replicate (n + 1 - c.length) 48) (c.length + (n + 1 - c.length) - n)),0):=by
  have sz:∀ l:BS,(B l).size = l.length:=B_size
  have hml:(minD sg).length ≤ 1:=by unfold minD; split <;> simp
  obtain ⟨S,hS⟩:∃ S,S = c ++ List.replicate (n + 1 - c.length) 48:=⟨_,rfl⟩
  have hSl:S.length = c.length + (n + 1 - c.length):=by rw [hS,List.length_append,List.length_replicate]
  have k1:(⟨#[46]⟩:ByteArray).size = 1:=rfl
  unfold Dec.Plain.j1
  refine condF rfl (letF (decide_eq_false (by omega)) ?_)
  unfold Dec.Plain.j0
  refine letV (wi (by omega) (by omega)) (letV (y:=(c.length:Int)) (by rw [sz]) (letV (wi (by omega) (by omega)) (letV (y:=((n + 1 - c.length:Nat):Int)) (by split <;> omega) (bindE (rep0 (by omega)) (chkE (by rw [sz,sz]; simp; omega) (letV (y:=B S) (by rw [B_app,← hS]) (bindE (minus_eq hs)
    (chkE (by rw [sz]; omega) (letV (y:=B (S.take n)) (by rw [hn,Int.toNat_natCast,take_B]) (chkE (by rw [sz,sz,List.length_take]; omega) (letV (B_app _ _) (chkE (by rw [sz,List.length_append,List.length_take]; omega) (letV (B_app _ [46]) (chkE (by rw [sz]; omega) (letV (y:=B (S.drop n)) (by rw [hn,Int.toNat_natCast,drop_B]) (chkE (by rw [sz,sz]; simp; omega) (letV (B_app _ _) ?_)))))))))))))))))
  rw [← hS]
  unfold ptD
  rw [show S.length - (c.length + (n + 1 - c.length) - n) = n by omega]
end Go.Q
