import Derived.Test.YtmfhkipeapdfmaaGreatDoorBK4
namespace Go.Q
open Go
set_option maxRecDepth 10000
theorem round_same {kind mode:Int} {p w:Nat} (h:kindS kind p w) (hm:0 ≤ mode ∧ mode < 4) {sign:Int} (hs:sign = 0 ∨ sign = 1) {l l2:BS} {x x2:Int} (ha:l.all dgQ = true) (ha2:l2.all dgQ = true) (hl:l.length ≤ 1000) (hl2:l2.length ≤ 1000)
    (hx:-10000 ≤ x ∧ x ≤ 10000) (hx2:-10000 ≤ x2 ∧ x2 ≤ 10000) (hv:0 < vd l) (hv2:0 < vd l2) (h1:-400 ≤ atD l x ∧ atD l x ≤ 400) (h2:-400 ≤ atD l2 x2 ∧ atD l2 x2 ≤ 400)
    (he:vd l * 10 ^ (x - l.length).toNat * 10 ^ ((l2.length:Int) - x2).toNat = vd l2 * 10 ^ (x2 - l2.length).toNat * 10 ^ ((l.length:Int) - x).toNat) :
    Dec.round kind mode sign (B l) x = Dec.round kind mode sign (B l2) x2:=by
  rw [round_in h hm hs ha hl (by omega) hv h1.1 h1.2,round_in h hm hs ha2 hl2 (by omega) hv2 h2.1 h2.2]
  rw [rndF_same (Nat.mul_pos hv (Nat.pow_pos (by decide))) (Nat.pow_pos (by decide)) (Nat.pow_pos (by decide)) he]
theorem exT_sgn {e:BS} {sg:UInt8} (hs:sg = 45 ∨ sg = 43) (he:e ≠ []) (hl:e.length ≤ 4) (ha:e.all dgQ = true):exT (sg :: e) = some (if sg = 45 then -(vd e:Int) else (vd e:Int)):=by
  have h1:(hd 45 (sg :: e) || hd 43 (sg :: e)) = true:=by rcases hs with rfl | rfl <;> rfl
  have h2:(hd 45 (sg :: e) = true) = (sg = 45):=by
    rcases hs with rfl | rfl
    · exact propext ⟨fun _=>rfl,fun _=>rfl⟩
    · exact propext ⟨fun q=>absurd (show (43 == (45:UInt8)) = true from q) (by decide),fun q=>absurd q (by decide)⟩
  unfold exT
  simp only [h1,if_true,List.tail_cons,h2]
  rw [if_neg]
  rintro (q | q | q)
  · exact he q
  · omega
  · rw [ha] at q; cases q
theorem prsS_exp {sg:Int} (hs:sg = 0 ∨ sg = 1) {F R e:BS} {n:Int} (hF:F.all dgQ = true) (hF1:F ≠ []) (hR:R.all dgQ = true) (hl:(F ++ R).length ≤ 60) (he:exT e = some n) :
    prsS (minD sg ++ F ++ [46] ++ R ++ [69] ++ e) = some (.num sg (F ++ R) (n - (R.length:Int))):=by
  obtain ⟨c,F',hc⟩:∃ c F',F = c :: F':=by cases F with | nil=>exact absurd rfl hF1 | cons c r=>exact ⟨c,r,rfl⟩
  have hcd:dgQ c = true:=by rw [hc] at hF; simp only [List.all_cons,Bool.and_eq_true] at hF; exact hF.1
  have hpt:minD sg ++ F ++ [46] ++ R ++ [69] ++ e = minD sg ++ (F ++ 46 :: (R ++ 69 :: e)):=by simp
  have hun:untD (minD sg ++ (F ++ 46 :: (R ++ 69 :: e))) = F ++ 46 :: (R ++ 69 :: e) ∧ sgnD (minD sg ++ (F ++ 46 :: (R ++ 69 :: e))) = sg:=by
    rcases hs with rfl | rfl
    · have hh:∀ x:UInt8,x.toNat < 48 → hd x (F ++ 46 :: (R ++ 69 :: e)) = false:=fun x hx=>by
        rw [hc]
        have:=dgQ_b hcd
        show (c == x) = false
        refine beq_eq_false_iff_ne.2 fun q=>?_
        subst q; omega
      have e3:minD 0 ++ (F ++ 46 :: (R ++ 69 :: e)) = F ++ 46 :: (R ++ 69 :: e):=rfl
      rw [e3]
      unfold untD sgnD
      rw [hh 45 (by decide),hh 43 (by decide)]; exact ⟨rfl,rfl⟩
    · exact ⟨rfl,rfl⟩
  rw [hpt]
  unfold prsS
  rw [hun.1,hun.2]
  have hi:¬ (F ++ 46 :: (R ++ 69 :: e) = infB ∨ F ++ 46 :: (R ++ 69 :: e) = nanB):=by
    rw [hc]
    rintro (h | h)
    · have:c = 105:=by injection h
      subst this; revert hcd; decide
    · have:c = 110:=by injection h
      subst this; revert hcd; decide
  rw [if_neg hi]
  have tw:∀ {G Q:BS} {x:UInt8},G.all dgQ = true → dgQ x = false → (G ++ x :: Q).takeWhile dgQ = G ∧ (G ++ x :: Q).dropWhile dgQ = x :: Q:=by
    intro G Q x hg hx
    induction G with
    | nil=>rw [List.nil_append,List.takeWhile_cons,List.dropWhile_cons,hx]; exact ⟨rfl,rfl⟩
    | cons y G ih =>
      simp only [List.all_cons,Bool.and_eq_true] at hg
      rw [List.cons_append,List.takeWhile_cons,List.dropWhile_cons,hg.1]
      exact ⟨congrArg _ (ih hg.2).1,(ih hg.2).2⟩
  have hw:=tw (Q:=R ++ 69 :: e) hF (show dgQ 46 = false by decide)
  have hw2:=tw (Q:=e) hR (show dgQ 69 = false by decide)
  have hn:nmT (F ++ 46 :: (R ++ 69 :: e)) = (F,R,69 :: e):=by
    rw [nmT_of,hw.1,hw.2]
    show (if (46 == (46:UInt8)) = true then (F,(R ++ 69 :: e).takeWhile dgQ,(R ++ 69 :: e).dropWhile dgQ) else _) = _
    rw [if_pos (by decide),hw2.1,hw2.2]
  rw [dgT_eq,hn]
  simp only
  have hcc:¬ (F ++ R = [] ∨ 60 < (F ++ R).length):=by
    rintro (q | q)
    · rw [hc] at q; cases q
    · omega
  rw [if_neg hcc]
  have ht:tlT (69 :: e) = some n:=by show (if isE 69 = true then exT e else none) = _; rw [if_pos (by decide),he]
  rw [ht]
  rfl
theorem rep_app (k:Nat) (l:BS) (ha:l.all dgQ = true):(List.replicate k 48 ++ l).all dgQ = true ∧ vd (List.replicate k 48 ++ l) = vd l:=by
  rw [List.all_append,zeros_dig,ha,vd_append,vd_zeros,Nat.zero_mul,Nat.zero_add]; exact ⟨rfl,rfl⟩
theorem Power_eq {kind:Int} {p w:Nat} (h:kindS kind p w) {a:Int} (hb:bitsOk p w a) (hc:(numS p w a).class_ = 1) {D:BS} {X:Int} (ho:Own p w a D X) (he:Dec.exact kind a = some ((numS p w a).sign,B D,X)) {n:Nat} (hn:1 ≤ n) (hn2:n ≤ 40)
    {c:BS} {k:Int} (hcd:c = (resD D X n (awD 0 (numS p w a).sign D n)).1) (hkd:k = (resD D X n (awD 0 (numS p w a).sign D n)).2) :
    Dec.Power kind 0 a n 2 = some (B (minD (numS p w a).sign ++ [48] ++ [46] ++ c ++ [69] ++ ((if k < 0 then 45 else 43) :: (List.replicate (2 - (Lib.itoa ((k.natAbs:Nat):Int)).length) 48 ++ Lib.itoa ((k.natAbs:Nat):Int)))),0):=by
  obtain ⟨x0,x1⟩:=own_lim h.ok ho hc
  obtain ⟨r1,r2,r3,r4⟩:=res_ok ho.all ho.head ho.ne hn X (awD 0 (numS p w a).sign D n)
  rw [← hcd] at r1 r2 r3 r4
  rw [← hkd] at r4
  have hkX:X ≤ k ∧ k ≤ X + 1:=by rcases r4 with ⟨_,_,q⟩ | ⟨_,_,q⟩ <;> omega
  have hsg:=(numS_ok h.ok a).sgn
  have l1:=ho.len
  have hpt:Dec.parts kind a = some ((numS p w a).sign,B D,X):=by
    unfold Dec.parts
    exact bindE (isFinite_eq h hb hc) (condT rfl (bindE he rfl))
  have hv:=(Valid_eq h a).trans (congrArg some (@decide_eq_true _ (Classical.propDecidable _) hb))
  have hto:=to_res h hc ho (n:=n) (by omega) (awD 0 (numS p w a).sign D n)
  rw [← hcd,← hkd] at hto
  have hit:(Lib.itoa ((k.natAbs:Nat):Int)).length ≤ 3:=itoa_len (by omega) (by decide)
  have hml:(minD (numS p w a).sign).length ≤ 1:=by unfold minD; split <;> simp
  have sz:∀ l:BS,(B l).size = l.length:=B_size
  have j1:∀ q:UInt8,Dec.Power.j1 2 (numS p w a).sign (B c) (B (Lib.itoa ((k.natAbs:Nat):Int))) (B [q]) = some (B (minD (numS p w a).sign ++ [48] ++ [46] ++ c ++ [69] ++ (q :: (List.replicate (2 - (Lib.itoa ((k.natAbs:Nat):Int)).length) 48 ++ Lib.itoa ((k.natAbs:Nat):Int)))),0):=by
    intro q
    generalize ht:Lib.itoa ((k.natAbs:Nat):Int) = t at hit
    unfold Dec.Power.j1
    have k2:(⟨#[48,46]⟩:ByteArray).size = 2:=rfl
    have k1:(⟨#[69]⟩:ByteArray).size = 1:=rfl
    refine bindE (minus_eq hsg) (chkE (by rw [sz]; omega) (letV (B_app _ [48,46]) (chkE (by rw [sz,sz,List.length_append]; simp; omega) (letV (B_app _ _) (chkE (by rw [sz]; simp; omega) (letV (B_app _ [69]) (chkE (by rw [sz,sz]; simp; omega) (letV (B_app _ _)
      (letV (y:=(t.length:Int)) (by rw [sz]) (letV (wi (by omega) (by omega)) (letV (y:=((2 - t.length:Nat):Int)) (by split <;> omega) (bindE (rep0 (by omega)) (chkE (by rw [sz,sz]; simp; omega) (letV (B_app _ _) (chkE (by rw [sz,sz]; simp; omega) (letV (B_app _ _) ?_))))))))))))))))
    congr 3
    simp
  unfold Dec.Power
  refine bindE (isKind_eq h (by decide)) (letF rfl (bindE hv (letF rfl (letF (decide_eq_false (by omega)) (letF (decide_eq_false (by omega)) (letF rfl (letF rfl ?_)))))))
  unfold Dec.Power.j0
  refine bindE (special_eq h hb hc) (condF rfl (bindE hpt (bindE (dAway_eq ho.all ho.last (by omega)) (bindE hto (letV (y:=-k) (by rw [wi (by omega) (by omega)]; omega) (letV (y:=((k.natAbs:Nat):Int)) (by split <;> omega) (bindE (Itoa_eq (by omega)) ?_)))))))
  by_cases hk:k < 0
  · rw [if_pos hk]; exact letT (decide_eq_true hk) (j1 45)
  · rw [if_neg hk]; exact letF (decide_eq_false hk) (j1 43)
end Go.Q
namespace Go.Q
open Go
set_option maxRecDepth 10000
theorem shD_full {c:BS} (ha:c.all dgQ = true) (h1:1 ≤ c.length) (hl:10 ^ (c.length - 1) ≤ vd c):shD c = c:=by
  obtain ⟨k,hk⟩:=shD_split c
  have q1:=vd_lt (shD c) (shD_all ha)
  rw [shD_vd] at q1
  have q3:=(Nat.pow_lt_pow_iff_right (show 1 < 10 by decide)).1 (Nat.lt_of_le_of_lt hl q1)
  have q4:=congrArg List.length hk
  rw [List.length_append,List.length_replicate] at q4
  obtain rfl:k = 0:=by omega
  exact hk.symm
theorem shD_zeros (k:Nat) (c:BS):shD (List.replicate k 48 ++ c) = shD c:=by
  induction k with
  | zero=>rfl
  | succ k ih =>
    rw [List.replicate_succ,List.cons_append]
    unfold shD at ih ⊢
    rw [List.dropWhile_cons,if_pos (by decide)]
    exact ih
theorem round_pad {kind mode:Int} {p w:Nat} (h:kindS kind p w) (hm:0 ≤ mode ∧ mode < 4) {sign:Int} (hs:sign = 0 ∨ sign = 1) {c:BS} {k:Int} (ha:c.all dgQ = true) (h1:1 ≤ c.length) (hl:10 ^ (c.length - 1) ≤ vd c) (hlen:c.length ≤ 500) (hk:-400 ≤ k ∧ k ≤ 400) {u v:Nat} (hu:u ≤ 200) (hv:v ≤ 200) :
    Dec.round kind mode sign (B (List.replicate u 48 ++ (c ++ List.replicate v 48))) (k + u) = Dec.round kind mode sign (B c) k:=by
  have hvc:0 < vd c:=Nat.lt_of_lt_of_le (Nat.pow_pos (by decide)) hl
  have a2:(c ++ List.replicate v 48).all dgQ = true:=by rw [List.all_append,ha,zeros_dig]; rfl
  obtain ⟨a3,v3⟩:=rep_app u _ a2
  have v2:vd (c ++ List.replicate v 48) = vd c * 10 ^ v:=by rw [vd_append,vd_zeros,List.length_replicate,Nat.add_zero]
  have l3:(List.replicate u 48 ++ (c ++ List.replicate v 48)).length = u + (c.length + v):=by simp
  have s1:(shD c).length = c.length:=by rw [shD_full ha h1 hl]
  have s2:(shD (List.replicate u 48 ++ (c ++ List.replicate v 48))).length = c.length + v:=by
    rw [shD_zeros,shD_full a2 (by rw [List.length_append]; omega)]
    · simp
    · rw [v2,List.length_append,List.length_replicate,show c.length + v - 1 = c.length - 1 + v by omega,Nat.pow_add]
      exact Nat.mul_le_mul_right _ hl
  refine round_same h hm hs a3 ha (by omega) (by omega) (by omega) (by omega) (by rw [v3,v2]; exact Nat.mul_pos hvc (Nat.pow_pos (by decide))) hvc (by unfold atD; omega) (by unfold atD; omega) ?_
  rw [v3,v2,Nat.mul_assoc,Nat.mul_assoc,Nat.mul_assoc,← Nat.pow_add,← Nat.pow_add,← Nat.pow_add,l3]
  congr 2
  omega
theorem Power_back {kind:Int} {p w:Nat} (h:kindS kind p w) {a:Int} (hi:I6 a) (hb:bitsOk p w a) (hc:(numS p w a).class_ = 1) {D:BS} {X:Int} (ho:Own p w a D X) (he:Dec.exact kind a = some ((numS p w a).sign,B D,X)) {n:Nat} (hn:1 ≤ n) (hn2:n ≤ 40) (hp:2 ^ p < 10 ^ (n - 1)) :
    ∃ t f,Dec.Power kind 0 a n 2 = some (t,0) ∧ Dec.Read t kind 0 = some (a,f,0):=by
  obtain ⟨c,hcd⟩:∃ c,c = (resD D X n (awD 0 (numS p w a).sign D n)).1:=⟨_,rfl⟩
  obtain ⟨k,hkd⟩:∃ k,k = (resD D X n (awD 0 (numS p w a).sign D n)).2:=⟨_,rfl⟩
  have hP:=Power_eq h hb hc ho he hn hn2 hcd hkd
  obtain ⟨f,hf⟩:=back_of h hi hb hc ho hn (by omega) hp
  rw [← hcd,← hkd] at hf
  obtain ⟨r1,r2,r3,r4⟩:=res_ok ho.all ho.head ho.ne hn X (awD 0 (numS p w a).sign D n)
  rw [← hcd] at r1 r2 r3 r4
  rw [← hkd] at r4
  obtain ⟨x0,x1⟩:=own_lim h.ok ho hc
  have hkX:X ≤ k ∧ k ≤ X + 1:=by rcases r4 with ⟨_,_,q⟩ | ⟨_,_,q⟩ <;> omega
  have hsg:=(numS_ok h.ok a).sgn
  have hit:(Lib.itoa ((k.natAbs:Nat):Int)).length ≤ 3:=itoa_len (by omega) (by decide)
  obtain ⟨iv,ia⟩:=itoa_vd k.natAbs
  obtain ⟨e1,e2⟩:=rep_app (2 - (Lib.itoa ((k.natAbs:Nat):Int)).length) _ ia
  have hne:(Lib.itoa ((k.natAbs:Nat):Int)) ≠ []:=by
    rcases Nat.eq_zero_or_pos k.natAbs with q | q
    · rw [q,show ((0:Nat):Int) = 0 from rfl,itoa_zero]; exact List.cons_ne_nil _ _
    · rw [itoa_ds q]; exact ds_ne q
  have hex:exT ((if k < 0 then 45 else 43) :: (List.replicate (2 - (Lib.itoa ((k.natAbs:Nat):Int)).length) 48 ++ Lib.itoa ((k.natAbs:Nat):Int))) = some k:=by
    rw [exT_sgn (by split <;> simp) (by simp [hne]) (by rw [List.length_append,List.length_replicate]; omega) e1,e2,iv]
    by_cases hk:k < 0
    · rw [if_pos hk,if_pos rfl]; congr 1; omega
    · rw [if_neg hk,if_neg (by decide)]; congr 1; omega
  have hprs:=prsS_exp hsg (F:=[48]) (R:=c) rfl (by simp) r2 (by rw [List.length_append,r1]; simp; omega) hex
  have hml:(minD (numS p w a).sign).length ≤ 1:=by unfold minD; split <;> simp
  have hrd:Dec.round kind 0 (numS p w a).sign (B ([48] ++ c)) (k - (c.length:Int) + ([48] ++ c).length) = some (a,f,0):=by
    have:=round_pad (mode:=0) h (by decide) hsg r2 (by omega) (by rw [r1]; exact r3) (by omega) (k:=k) (by omega) (u:=1) (v:=0) (by decide) (by decide)
    rw [List.replicate_zero,List.append_nil] at this
    have e:k - (c.length:Int) + ((([48] ++ c:BS).length:Nat):Int) = k + ((1:Nat):Int):=by
      rw [List.length_append,List.length_singleton]; omega
    rw [e]
    exact this.trans hf
  refine ⟨_,f,hP,Read_num h (by decide) ?_ hprs hrd⟩
  simp only [List.length_append,List.length_cons,List.length_nil,List.length_replicate]
  omega
end Go.Q
