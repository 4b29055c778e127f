import Derived.Test.YtmfhkipeapdfmaaGreatDoorED3
namespace Go.Q
open Go
set_option maxRecDepth 10000
theorem fixed_zero {kind mode:Int} {p w:Nat} (h:kindS kind p w) (_hm:0 ≤ mode ∧ mode < 4) {a:Int} (hi:I64 a) (hb:bitsOk p w a) (hc:(numS p w a).class_ = 0) {d:Nat} (hd:d ≤ 40) :
    ∃ t,Dec.Fixed.j0 kind mode a d = some (t,0) ∧ Ref2.Fixed.j0 mode a d p w = some (t,0):=by
  have hs2:=sgn_lt p w a
  have hsg:(numS p w a).sign = 0 ∨ (numS p w a).sign = 1:=by rw [numS_sgn]; omega
  have e0:spT (numS p w a) = (⟨#[]⟩,false):=by unfold spT; rw [if_neg (by rw [hc]; decide),if_neg (by rw [hc]; decide)]
  have hsp:=(dSpecial h hi hb).trans (congrArg some e0)
  have hrs:=(rSpecial h.ok hb).trans (congrArg some e0)
  have haw:Dec.away mode (numS p w a).sign (B []) (0 + (d:Int)) = some false:=away_no (D:=[]) (by show (0:Int) ≤ _; omega)
  have hct:Dec.cut (B []) (0 + (d:Int)) false = some (B (List.replicate d 48)):=by
    rw [Int.zero_add]; exact cut_no (D:=[]) (Nat.zero_le _) (by omega)
  refine ⟨_,fixed_j0 hsg hsp (parts_zero h hb hc) (by decide) hd haw hct (by rw [List.length_replicate]; omega),?_⟩
  obtain ⟨q,hq⟩:=(fOf h.ok hb).2 (by rw [hc]; decide)
  have e:padL (d + 1) (List.replicate d 48) = padL (d + 1) []:=by
    unfold padL
    rw [List.length_replicate,List.length_nil,List.append_nil,Nat.sub_zero,show d + 1 - d = 1 by omega,List.replicate_append_replicate,Nat.add_comm]
  rw [e]
  unfold Ref2.Fixed.j0
  exact bindE hrs (condF rfl (bindE hq (condF rfl (rfixed_j1 (s:=[]) h.ok hb hd (by decide)))))
theorem not_ok {kind:Int} {p w:Nat} (h:kindS kind p w) {a:Int} (hi:I64 a) (hb:¬ bitsOk p w a):Flt.Valid kind a = some false ∧ Ref2.isBits kind a = some false:=by
  refine ⟨(Valid_eq h a).trans (congrArg some (@decide_eq_false _ (Classical.propDecidable _) hb)),?_⟩
  obtain ⟨b,e1,e2⟩:=isBits_eq h hi
  cases b with
  | true=>exact absurd (e2.1 rfl) hb
  | false=>exact e1
theorem is_ok {kind:Int} {p w:Nat} (h:kindS kind p w) {a:Int} (hi:I64 a) (hb:bitsOk p w a):Flt.Valid kind a = some true ∧ Ref2.isBits kind a = some true:=by
  refine ⟨(Valid_eq h a).trans (congrArg some (@decide_eq_true _ (Classical.propDecidable _) hb)),?_⟩
  obtain ⟨b,e1,e2⟩:=isBits_eq h hi
  cases b with
  | true=>exact e1
  | false=>have:=e2.2 hb; cases this
theorem Fixed_same (kind mode a d:Int) (hi:I64 a):∃ t e,Dec.Fixed kind mode a d = some (t,e) ∧ Ref2.Fixed kind mode a d = some (t,e):=by
  rcases kind_any kind with ⟨p,w,h⟩ | hk
  · by_cases hm:0 ≤ mode ∧ mode < 4
    · by_cases hb:bitsOk p w a
      · obtain ⟨v1,v2⟩:=is_ok h hi hb
        have goD:∀ {X},(letk (decide (d < (0:Int))) fun t28=>bif t28 then some (⟨#[]⟩,2) else letk (decide (d > (40:Int))) fun t32=>bif t32 then some (⟨#[]⟩,2) else Dec.Fixed.j0 kind mode a d) = X → Dec.Fixed kind mode a d = X:=by
          intro X hX
          unfold Dec.Fixed
          exact bindE (isKind_eq h hm) (letF rfl (bindE v1 (letF rfl hX)))
        have goR:∀ {X},(letk (decide (d < (0:Int))) fun t40=>bif t40 then some (⟨#[]⟩,2) else letk (decide (d > (40:Int))) fun t44=>bif t44 then some (⟨#[]⟩,2) else Ref2.Fixed.j0 mode a d p w) = X → Ref2.Fixed kind mode a d = X:=by
          intro X hX
          unfold Ref2.Fixed
          exact bindE (FormOf_eq h) (letF rfl (letF (decide_eq_false (by omega)) (letF (decide_eq_false (by omega)) (bindE v2 (letF rfl hX)))))
        by_cases d0:d < 0
        · exact ⟨_,_,goD (letT (decide_eq_true d0) rfl),goR (letT (decide_eq_true d0) rfl)⟩
        · by_cases d1:d > 40
          · exact ⟨_,_,goD (letF (decide_eq_false d0) (letT (decide_eq_true d1) rfl)),goR (letF (decide_eq_false d0) (letT (decide_eq_true d1) rfl))⟩
          · have fin:∀ t,Dec.Fixed.j0 kind mode a d = some (t,0) → Ref2.Fixed.j0 mode a d p w = some (t,0) → ∃ t e,Dec.Fixed kind mode a d = some (t,e) ∧ Ref2.Fixed kind mode a d = some (t,e):=fun t h1 h2 =>
              ⟨t,0,goD (letF (decide_eq_false d0) (letF (decide_eq_false d1) h1)),goR (letF (decide_eq_false d0) (letF (decide_eq_false d1) h2))⟩
            obtain ⟨D,rfl⟩:∃ D:Nat,d = D:=⟨d.toNat,by omega⟩
            have sp1:=dSpecial h hi hb
            have sp2:=rSpecial h.ok hb
            rcases num_cases (p:=p) (w:=w) (a:=a) with ⟨_,_,c3⟩ | ⟨_,_,c3⟩ | ⟨_,c3 | c3⟩
            · have e0:∃ t,spT (numS p w a) = (t,true):=by unfold spT; rw [if_neg (by rw [c3]; decide),if_pos c3]; exact ⟨_,rfl⟩
              obtain ⟨t,e0⟩:=e0
              rw [e0] at sp1 sp2
              exact fin t (bindE sp1 rfl) (bindE sp2 rfl)
            · have e0:∃ t,spT (numS p w a) = (t,true):=by unfold spT; rw [if_pos c3]; exact ⟨_,rfl⟩
              obtain ⟨t,e0⟩:=e0
              rw [e0] at sp1 sp2
              exact fin t (bindE sp1 rfl) (bindE sp2 rfl)
            · obtain ⟨t,h1,h2⟩:=fixed_zero h hm hi hb c3 (d:=D) (by omega)
              exact fin t h1 h2
            · obtain ⟨t,h1,h2⟩:=fixed_fin h hm hb c3 (d:=D) (by omega)
              exact fin t h1 h2
      · obtain ⟨v1,v2⟩:=not_ok h hi hb
        refine ⟨⟨#[]⟩,2,?_,?_⟩
        · unfold Dec.Fixed; exact bindE (isKind_eq h hm) (letF rfl (bindE v1 (letT rfl rfl)))
        · unfold Ref2.Fixed; exact bindE (FormOf_eq h) (letF rfl (letF (decide_eq_false (by omega)) (letF (decide_eq_false (by omega)) (bindE v2 (letT rfl rfl)))))
    · refine ⟨⟨#[]⟩,2,?_,?_⟩
      · rcases isKind_any kind mode with ⟨_,_,_,m0,m1,_⟩ | hf
        · exact absurd ⟨m0,m1⟩ hm
        · unfold Dec.Fixed; exact bindE hf (letT rfl rfl)
      · unfold Ref2.Fixed
        refine bindE (FormOf_eq h) (letF rfl ?_)
        by_cases c:mode < 0
        · exact letT (decide_eq_true c) rfl
        · exact letF (decide_eq_false c) (letT (decide_eq_true (by omega)) rfl)
  · refine ⟨⟨#[]⟩,2,?_,?_⟩
    · rcases isKind_any kind mode with ⟨_,_,hh,_⟩ | hf
      · exact absurd (by rcases hh with ⟨q,_⟩ | ⟨q,_⟩ | ⟨q,_⟩ <;> omega) hk
      · unfold Dec.Fixed; exact bindE hf (letT rfl rfl)
    · unfold Ref2.Fixed; exact bindE (FormOf_no hk) (letT rfl rfl)
def pwT (sg:Int) (c:BS) (k:Int) (e:Nat):BS:=minD sg ++ [48,46] ++ c ++ [69] ++ [if k < 0 then 45 else 43] ++ padL e (Lib.itoa ((k.natAbs:Nat):Int))
theorem dPower_j1 {sg:Int} (hsg:sg = 0 ∨ sg = 1) {c t:BS} (hcl:c.length ≤ 1000) (htl:t.length ≤ 10) {e:Nat} (he:e ≤ 10) (q:UInt8):Dec.Power.j1 e sg (B c) (B t) (B [q]) = some (B (minD sg ++ [48,46] ++ c ++ [69] ++ [q] ++ padL e t),0):=by
  have hml:(minD sg).length ≤ 1:=by unfold minD; split <;> simp
  have sz:∀ l:BS,(B l).size = l.length:=B_size
  unfold Dec.Power.j1
  refine bindE (minus_eq hsg) (chkE (by rw [sz,show (⟨#[48,46]⟩:ByteArray).size = 2 from rfl]; omega) (letV (B_app _ [48,46]) (chkE (by rw [sz,sz,List.length_append]; simp; omega) (letV (B_app _ _) (chkE (by rw [sz,show (⟨#[69]⟩:ByteArray).size = 1 from rfl]; simp; omega) (letV (B_app _ [69]) (chkE (by rw [sz,sz]; simp; omega) (letV (B_app _ _)
    (letV (y:=(t.length:Int)) (by rw [sz]) (letV (wi (by omega) (by omega)) (letV (y:=((e - t.length:Nat):Int)) (by split <;> omega) (bindE (rep0 (by omega)) (chkE (by rw [sz,sz]; simp; omega) (letV (B_app _ _) (chkE (by rw [sz,sz]; simp; omega) (letV (B_app _ _) ?_))))))))))))))))
  unfold padL
  simp only [List.append_assoc]
theorem rPower_l1 {p w:Nat} (h:OkS p w) {a:Int} (hb:bitsOk p w a) {c:BS} (hcl:c.length ≤ 1000) {e:Nat} (he:e ≤ 10) (q:UInt8):∀ (m:Nat) (t:BS),e - t.length = m → t.length ≤ 10 →
    Ref2.Power.l1 a e (B c) (B [q]) p w (B t) = some (B (minD (numS p w a).sign ++ [48,46] ++ c ++ [69] ++ [q] ++ padL e t),0):=by
  intro m
  have hml:(minD (numS p w a).sign).length ≤ 1:=by unfold minD; split <;> simp
  have sz:∀ l:BS,(B l).size = l.length:=B_size
  induction m with
  | zero =>
    intro t hm htl
    rw [padL_id (by omega)]
    unfold Ref2.Power.l1
    refine loopO_end ?_
    show Ref2.Power.s1 a e (B c) (B [q]) p w (B t) = _
    unfold Ref2.Power.s1
    refine letV (y:=(t.length:Int)) (by rw [sz]) (letF (decide_eq_false (by omega)) (congrArg (Option.map Sum.inr) (?_:_ = some (B (minD (numS p w a).sign ++ [48,46] ++ c ++ [69] ++ [q] ++ t),(0:Int)))))
    exact bindE (rMinus h hb) (chkE (by rw [sz,show (⟨#[48,46]⟩:ByteArray).size = 2 from rfl]; omega) (letV (B_app _ [48,46]) (chkE (by rw [sz,sz,List.length_append]; simp; omega) (letV (B_app _ _) (chkE (by rw [sz,show (⟨#[69]⟩:ByteArray).size = 1 from rfl]; simp; omega) (letV (B_app _ [69]) (chkE (by rw [sz,sz]; simp; omega) (letV (B_app _ _)
      (chkE (by rw [sz,sz]; simp; omega) (letV (B_app _ _) rfl))))))))))
  | succ m ih =>
    intro t hm htl
    unfold Ref2.Power.l1
    refine loopO_next (t:=((p:Int),(w:Int),B (48 :: t))) ?_ ?_
    · show Ref2.Power.s1 a e (B c) (B [q]) p w (B t) = _
      unfold Ref2.Power.s1
      refine letV (y:=(t.length:Int)) (by rw [sz]) (letT (decide_eq_true (by omega)) (chkE ?_ (letV (B_app [48] t) rfl)))
      rw [sz,show (⟨#[48]⟩:ByteArray).size = 1 from rfl]; omega
    · have:=ih (48 :: t) (by rw [List.length_cons]; omega) (by rw [List.length_cons]; omega)
      rw [padL_step (by omega)] at this
      exact this
theorem rPower_l0 {p w:Nat} (h:OkS p w) {a:Int} (hb:bitsOk p w a) {e:Nat} (he:e ≤ 10) {k:Int} (hk:-9000 ≤ k ∧ k ≤ 9000) {d:Nat} (hd:d ≤ 40):∀ (m:Nat) (s:BS),d - s.length = m → s.length ≤ 100 →
    Ref2.Power.l0 a d e k p w (B s) = some (B (pwT (numS p w a).sign (s ++ List.replicate (d - s.length) 48) k e),0):=by
  intro m
  have sz:∀ l:BS,(B l).size = l.length:=B_size
  induction m with
  | zero =>
    intro s hm hs
    rw [hm,List.replicate_zero,List.append_nil]
    have hit:(Lib.itoa ((k.natAbs:Nat):Int)).length ≤ 4:=itoa_len (by omega) (by decide)
    unfold Ref2.Power.l0
    refine loopO_end ?_
    show Ref2.Power.s0 a d e k p w (B s) = _
    unfold Ref2.Power.s0
    refine letV (y:=(s.length:Int)) (by rw [sz]) (letF (decide_eq_false (by omega)) (congrArg (Option.map Sum.inr) (?_:_ = some (B (pwT (numS p w a).sign s k e),(0:Int)))))
    refine letV (y:=-k) (by rw [wi (by omega) (by omega)]; omega) (letV (y:=((k.natAbs:Nat):Int)) (by split <;> omega) (bindE (whole_nat (n:=k.natAbs) (by omega)) ?_))
    unfold pwT
    by_cases c:k < 0
    · rw [if_pos c]
      refine letT (decide_eq_true c) ?_
      show Ref2.Power.l1 a e (B s) (B [45]) p w (B (Lib.itoa ((k.natAbs:Nat):Int))) = _
      exact rPower_l1 h hb (by omega) he 45 _ _ rfl (by omega)
    · rw [if_neg c]
      refine letF (decide_eq_false c) ?_
      show Ref2.Power.l1 a e (B s) (B [43]) p w (B (Lib.itoa ((k.natAbs:Nat):Int))) = _
      exact rPower_l1 h hb (by omega) he 43 _ _ rfl (by omega)
  | succ m ih =>
    intro s hm hs
    unfold Ref2.Power.l0
    refine loopO_next (t:=((p:Int),(w:Int),B (s ++ [48]))) ?_ ?_
    · show Ref2.Power.s0 a d e k p w (B s) = _
      unfold Ref2.Power.s0
      refine letV (y:=(s.length:Int)) (by rw [sz]) (letT (decide_eq_true (by omega)) (chkE ?_ (letV (B_app s [48]) rfl)))
      rw [sz,show (⟨#[48]⟩:ByteArray).size = 1 from rfl]; omega
    · have hl1:(s ++ [48]).length = s.length + 1:=by rw [List.length_append]; rfl
      have:=ih (s ++ [48]) (by rw [hl1]; omega) (by rw [hl1]; omega)
      rw [hl1,List.append_assoc,show ([48]:BS) ++ List.replicate (d - (s.length + 1)) 48 = List.replicate (d - s.length) 48 by rw [hm,show d - (s.length + 1) = m by omega]; rfl] at this
      exact this
theorem dPower_j0 {kind mode a sg:Int} {D c:BS} {X k:Int} {d e:Nat} {more:Bool} (hsg:sg = 0 ∨ sg = 1) (hsp:Dec.special kind a = some (⟨#[]⟩,false)) (hpt:Dec.parts kind a = some (sg,B D,X))
    (haw:Dec.away mode sg (B D) d = some more) (hto:Dec.to (B D) X d more = some (B c,k)) (hcl:c.length ≤ 1000) (hk:-9000 ≤ k ∧ k ≤ 9000) (he:e ≤ 10):Dec.Power.j0 kind mode a d e = some (B (pwT sg c k e),0):=by
  have hit:(Lib.itoa ((k.natAbs:Nat):Int)).length ≤ 4:=itoa_len (by omega) (by decide)
  have hI:Strconv.Itoa ((k.natAbs:Nat):Int) = some (B (Lib.itoa ((k.natAbs:Nat):Int))):=Itoa_eq (by omega)
  unfold Dec.Power.j0
  refine bindE hsp (condF rfl (bindE hpt (bindE haw (bindE hto (letV (y:=-k) (by rw [wi (by omega) (by omega)]; omega) (letV (y:=((k.natAbs:Nat):Int)) (by split <;> omega) (bindE hI ?_)))))))
  unfold pwT
  by_cases c2:k < 0
  · rw [if_pos c2]; exact letT (decide_eq_true c2) (dPower_j1 hsg hcl (by omega) he 45)
  · rw [if_neg c2]; exact letF (decide_eq_false c2) (dPower_j1 hsg hcl (by omega) he 43)
theorem power_fin {kind mode:Int} {p w:Nat} (h:kindS kind p w) (hm:0 ≤ mode ∧ mode < 4) {a:Int} (hb:bitsOk p w a) (hc:(numS p w a).class_ = 1) {d e:Nat} (hd1:1 ≤ d) (hd:d ≤ 40) (he:e ≤ 10) :
    ∃ t,Dec.Power.j0 kind mode a d e = some (t,0) ∧ Ref2.Power.j0 mode a d e p w = some (t,0):=by
  obtain ⟨D,X,hex,ho⟩:=exact_eq h hb hc
  have hx:=own_lim h.ok ho hc
  have hl:=ho.len
  have hsg:=own_sgn h.ok hc
  have hpt:Dec.parts kind a = some ((numS p w a).sign,B D,X):=by
    unfold Dec.parts
    exact bindE (isFinite_eq h hb hc) (condT rfl (bindE hex rfl))
  have hrs:Ref2.Form.special (fm p w) a = some (⟨#[]⟩,false):=by rw [rSpecial h.ok hb]; unfold spT; rw [if_neg (by rw [hc]; decide),if_neg (by rw [hc]; decide)]
  obtain ⟨r1,r2,r3,r4⟩:=res_ok ho.all ho.head ho.ne hd1 X (awD mode (numS p w a).sign D d)
  have hkX:X ≤ (resD D X d (awD mode (numS p w a).sign D d)).2 ∧ (resD D X d (awD mode (numS p w a).sign D d)).2 ≤ X + 1:=by rcases r4 with ⟨_,_,q⟩ | ⟨_,_,q⟩ <;> omega
  have hto:Dec.to (B D) X (d:Int) (awD mode (numS p w a).sign D d) = some (B (resD D X d (awD mode (numS p w a).sign D d)).1,(resD D X d (awD mode (numS p w a).sign D d)).2):=by
    refine (to_eq ho.all (by omega) (by omega) (by omega)).trans ?_
    unfold resD
    by_cases hg:(rdD D d (awD mode (numS p w a).sign D d)).length > d
    · simp only [if_pos hg]
    · simp only [if_neg hg]
  refine ⟨_,dPower_j0 hsg (special_eq h hb hc) hpt (dAway_eq ho.all ho.last (by omega)) hto (by omega) (by omega) he,?_⟩
  have key:=rPower_l0 h.ok hb he (k:=(resD D X d (awD mode (numS p w a).sign D d)).2) (by omega) hd _ (resD D X d (awD mode (numS p w a).sign D d)).1 rfl (by omega)
  rw [r1,Nat.sub_self,List.replicate_zero,List.append_nil] at key
  unfold Ref2.Power.j0
  exact bindE hrs (condF rfl (bindE ((fOf h.ok hb).1 hc) (condT rfl (bindE (rdigits h.ok hc ho hm hd1 (by omega)) key))))
theorem power_zero {kind mode:Int} {p w:Nat} (h:kindS kind p w) {a:Int} (hi:I64 a) (hb:bitsOk p w a) (hc:(numS p w a).class_ = 0) {d e:Nat} (hd:d ≤ 40) (he:e ≤ 10) :
    ∃ t,Dec.Power.j0 kind mode a d e = some (t,0) ∧ Ref2.Power.j0 mode a d e p w = some (t,0):=by
  have hs2:=sgn_lt p w a
  have hsg:(numS p w a).sign = 0 ∨ (numS p w a).sign = 1:=by rw [numS_sgn]; omega
  have e0:spT (numS p w a) = (⟨#[]⟩,false):=by unfold spT; rw [if_neg (by rw [hc]; decide),if_neg (by rw [hc]; decide)]
  have hsp:=(dSpecial h hi hb).trans (congrArg some e0)
  have hrs:=(rSpecial h.ok hb).trans (congrArg some e0)
  have haw:Dec.away mode (numS p w a).sign (B []) (d:Int) = some false:=away_no (D:=[]) (by show (0:Int) ≤ _; omega)
  have hct:Dec.cut (B []) (d:Int) false = some (B (List.replicate d 48)):=cut_no (D:=[]) (Nat.zero_le _) (by omega)
  have hto:Dec.to (B []) 0 (d:Int) false = some (B (List.replicate d 48),0):=by
    unfold Dec.to
    exact bindE hct (letV (y:=(d:Int)) (by rw [B_size,List.length_replicate]) (letF (decide_eq_false (by omega)) rfl))
  refine ⟨_,dPower_j0 hsg hsp (parts_zero h hb hc) haw hto (by rw [List.length_replicate]; omega) (by decide) he,?_⟩
  obtain ⟨q,hq⟩:=(fOf h.ok hb).2 (by rw [hc]; decide)
  have key:=rPower_l0 h.ok hb he (k:=0) (by decide) hd _ [] rfl (by decide)
  unfold Ref2.Power.j0
  exact bindE hrs (condF rfl (bindE hq (condF rfl key)))
theorem Power_same (kind mode a d e:Int) (hi:I64 a):∃ t x,Dec.Power kind mode a d e = some (t,x) ∧ Ref2.Power kind mode a d e = some (t,x):=by
  rcases kind_any kind with ⟨p,w,h⟩ | hk
  · by_cases hm:0 ≤ mode ∧ mode < 4
    · by_cases hb:bitsOk p w a
      · obtain ⟨v1,v2⟩:=is_ok h hi hb
        have goD:∀ {X},(letk (decide (d < (1:Int))) fun t31=>bif t31 then some (⟨#[]⟩,2) else letk (decide (d > (40:Int))) fun t35=>bif t35 then some (⟨#[]⟩,2) else letk (decide (e < (2:Int))) fun t39=>bif t39 then some (⟨#[]⟩,2)
            else letk (decide (e > (4:Int))) fun t43=>bif t43 then some (⟨#[]⟩,2) else Dec.Power.j0 kind mode a d e) = X → Dec.Power kind mode a d e = X:=by
          intro X hX
          unfold Dec.Power
          exact bindE (isKind_eq h hm) (letF rfl (bindE v1 (letF rfl hX)))
        have goR:∀ {X},(letk (decide (d < (1:Int))) fun t31=>bif t31 then some (⟨#[]⟩,2) else letk (decide (d > (40:Int))) fun t35=>bif t35 then some (⟨#[]⟩,2) else letk (decide (e < (2:Int))) fun t39=>bif t39 then some (⟨#[]⟩,2)
            else letk (decide (e > (4:Int))) fun t43=>bif t43 then some (⟨#[]⟩,2) else Ref2.Power.j0 mode a d e p w) = X → Ref2.Power kind mode a d e = X:=by
          intro X hX
          unfold Ref2.Power
          exact bindE (FormOf_eq h) (letF rfl (letF (decide_eq_false (by omega)) (letF (decide_eq_false (by omega)) (bindE v2 (letF rfl hX)))))
        by_cases d0:d < 1
        · exact ⟨_,_,goD (letT (decide_eq_true d0) rfl),goR (letT (decide_eq_true d0) rfl)⟩
        · by_cases d1:d > 40
          · exact ⟨_,_,goD (letF (decide_eq_false d0) (letT (decide_eq_true d1) rfl)),goR (letF (decide_eq_false d0) (letT (decide_eq_true d1) rfl))⟩
          · by_cases e0:e < 2
            · exact ⟨_,_,goD (letF (decide_eq_false d0) (letF (decide_eq_false d1) (letT (decide_eq_true e0) rfl))),goR (letF (decide_eq_false d0) (letF (decide_eq_false d1) (letT (decide_eq_true e0) rfl)))⟩
            · by_cases e1:e > 4
              · exact ⟨_,_,goD (letF (decide_eq_false d0) (letF (decide_eq_false d1) (letF (decide_eq_false e0) (letT (decide_eq_true e1) rfl)))),goR (letF (decide_eq_false d0) (letF (decide_eq_false d1) (letF (decide_eq_false e0) (letT (decide_eq_true e1) rfl))))⟩
              · have fin:∀ t,Dec.Power.j0 kind mode a d e = some (t,0) → Ref2.Power.j0 mode a d e p w = some (t,0) → ∃ t x,Dec.Power kind mode a d e = some (t,x) ∧ Ref2.Power kind mode a d e = some (t,x):=fun t h1 h2 =>
                  ⟨t,0,goD (letF (decide_eq_false d0) (letF (decide_eq_false d1) (letF (decide_eq_false e0) (letF (decide_eq_false e1) h1)))),goR (letF (decide_eq_false d0) (letF (decide_eq_false d1) (letF (decide_eq_false e0) (letF (decide_eq_false e1) h2))))⟩
                obtain ⟨D,rfl⟩:∃ D:Nat,d = D:=⟨d.toNat,by omega⟩
                obtain ⟨E,rfl⟩:∃ E:Nat,e = E:=⟨e.toNat,by omega⟩
                have sp1:=dSpecial h hi hb
                have sp2:=rSpecial h.ok hb
                rcases num_cases (p:=p) (w:=w) (a:=a) with ⟨_,_,c3⟩ | ⟨_,_,c3⟩ | ⟨_,c3 | c3⟩
                · have e0:∃ t,spT (numS p w a) = (t,true):=by unfold spT; rw [if_neg (by rw [c3]; decide),if_pos c3]; exact ⟨_,rfl⟩
                  obtain ⟨t,e0⟩:=e0
                  rw [e0] at sp1 sp2
                  exact fin t (bindE sp1 rfl) (bindE sp2 rfl)
                · have e0:∃ t,spT (numS p w a) = (t,true):=by unfold spT; rw [if_pos c3]; exact ⟨_,rfl⟩
                  obtain ⟨t,e0⟩:=e0
                  rw [e0] at sp1 sp2
                  exact fin t (bindE sp1 rfl) (bindE sp2 rfl)
                · obtain ⟨t,h1,h2⟩:=power_zero h hi hb c3 (mode:=mode) (d:=D) (e:=E) (by omega) (by omega)
                  exact fin t h1 h2
                · obtain ⟨t,h1,h2⟩:=power_fin h hm hb c3 (d:=D) (e:=E) (by omega) (by omega) (by omega)
                  exact fin t h1 h2
      · obtain ⟨v1,v2⟩:=not_ok h hi hb
        refine ⟨⟨#[]⟩,2,?_,?_⟩
        · unfold Dec.Power; exact bindE (isKind_eq h hm) (letF rfl (bindE v1 (letT rfl rfl)))
        · unfold Ref2.Power; exact bindE (FormOf_eq h) (letF rfl (letF (decide_eq_false (by omega)) (letF (decide_eq_false (by omega)) (bindE v2 (letT rfl rfl)))))
    · refine ⟨⟨#[]⟩,2,?_,?_⟩
      · rcases isKind_any kind mode with ⟨_,_,_,m0,m1,_⟩ | hf
        · exact absurd ⟨m0,m1⟩ hm
        · unfold Dec.Power; exact bindE hf (letT rfl rfl)
      · unfold Ref2.Power
        refine bindE (FormOf_eq h) (letF rfl ?_)
        by_cases c:mode < 0
        · exact letT (decide_eq_true c) rfl
        · exact letF (decide_eq_false c) (letT (decide_eq_true (by omega)) rfl)
  · refine ⟨⟨#[]⟩,2,?_,?_⟩
    · rcases isKind_any kind mode with ⟨_,_,hh,_⟩ | hf
      · exact absurd (by rcases hh with ⟨q,_⟩ | ⟨q,_⟩ | ⟨q,_⟩ <;> omega) hk
      · unfold Dec.Power; exact bindE hf (letT rfl rfl)
    · unfold Ref2.Power; exact bindE (FormOf_no hk) (letT rfl rfl)
theorem DecimalPrints_eq (x:quadratlaw02.Float) (d e:Int) (hx:I64 x.Bits):Law2.DecimalPrints x d e = some true:=by
  have aw:(Option.bind Law2.Awake fun t=>some t) = some true:=by rw [Law2.Awake_eq]; rfl
  obtain ⟨t,f,h1,h2⟩:=Fixed_same x.Kind x.Mode x.Bits d hx
  obtain ⟨u,g,h3,h4⟩:=Power_same x.Kind x.Mode x.Bits d e hx
  unfold Law2.DecimalPrints
  exact bindE h1 (bindE h2 (bindE h3 (bindE h4 (letT (beq_self_eq_true _) (letT (beq_self_eq_true _) (letT (beq_self_eq_true _) (letT (beq_self_eq_true _) aw)))))))
end Go.Q
