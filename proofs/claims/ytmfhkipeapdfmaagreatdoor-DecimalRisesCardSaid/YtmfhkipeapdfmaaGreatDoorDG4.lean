import Derived.Test.YtmfhkipeapdfmaaGreatDoorDG3
import Derived.Test.YtmfhkipeapdfmaaGreatDoorFX
import Derived.Test.YtmfhkipeapdfmaaGreatDoorFY
import Derived.Test.YtmfhkipeapdfmaaGreatDoorProg
namespace Go.Q
open Go Go.Proofs
set_option maxRecDepth 10000
set_option maxHeartbeats 2000000
noncomputable def Flt.Parts.j0 (t17_1:float.number):Option (Int × Int × Int × Int) :=
  Option.bind (Bits.TrailingZeros64 t17_1.m) fun t42 =>
  chk (0 ≤ t42) <|
  letk ((IntKind.u64,t17_1.m.fdiv (2 ^ (min t42.toNat (IntKind.u64).bits))).2) fun t48 =>
  letk (IntKind.i64.wrap t48) fun t49 =>
  letk (IntKind.i64.wrap (t17_1.e + t42)) fun t53 =>
  some (t17_1.sign,t49,t53,0)
noncomputable def Flt.Parts.j1 (t17_1:float.number) (t25:Bool):Option (Int × Int × Int × Int) :=
  bif t25 then
    some (0,0,0,10)
  else
    letk (t17_1.class_ == (0:Int)) fun t37 =>
    bif t37 then
      some (t17_1.sign,0,0,0)
    else
      Flt.Parts.j0 t17_1
noncomputable def Flt.Parts (kind0:Int) (a1:Int):Option (Int × Int × Int × Int) :=
  Option.bind (Flt.two kind0 0 a1 a1) fun (t17_0,t17_1,t17_2,t17_3) =>
  letk (!t17_3) fun t24 =>
  bif t24 then
    some (0,0,0,2)
  else
    letk (t17_1.class_ == (2:Int)) fun t28 =>
    bif t28 then
      Flt.Parts.j1 t17_1 true
    else
      letk (t17_1.class_ == (3:Int)) fun t32 =>
      Flt.Parts.j1 t17_1 t32
theorem Flt.Parts_ok {kind0:Int} {a1:Int} {r:Int × Int × Int × Int} (h0:Flt.Parts kind0 a1 = some r):Gives Tryz.prog 71 [.lit (.int .i64 kind0),.lit (.int .i64 a1)] (.tup [.lit (.int .i64 r.1),.lit (.int .i64 r.2.1),.lit (.int .i64 r.2.2.1),.lit (.int .i64 r.2.2.2)]):=by
  unfold Flt.Parts at h0
  refine ACalls.of_swp Tryz.func71 rfl (by decide) rfl (st0:=⟨54,[(0,.lit (.int .i64 kind0)),(1,.lit (.int .i64 a1))],[]⟩) rfl (bwp_ok (C:=[(0,8),(35,11)]) ?_)
  obtain ⟨⟨t17_0,t17_1,t17_2,t17_3⟩,et17,h1⟩:=bind_elim h0; clear h0
  conv=>whnf
  refine Gate.go ?_
  conv=>whnf
  refine CallN.by (v:=.tup [float.shape.enc t17_0,float.number.enc t17_1,float.number.enc t17_2,.lit (.bool t17_3)]) (Flt.two_ok et17) rfl rfl ?_
  conv=>whnf
  refine Nm.mk ⟨[.lit (.int .i64 0),.lit (.int .i64 0)],rfl,?_⟩
  conv=>whnf
  refine Nm.mk ⟨[.lit (.int .i64 0),.lit (.int .i64 0),.lit (.int .u64 0),.lit (.int .i64 0)],rfl,?_⟩
  conv=>whnf
  refine Nm.mk ⟨[.lit (.int .i64 0),.lit (.int .i64 0),.lit (.int .u64 0),.lit (.int .i64 0)],rfl,?_⟩
  conv=>whnf
  refine Nm.mk ⟨[.lit (.int .i64 t17_0.p),.lit (.int .i64 t17_0.w)],rfl,?_⟩
  conv=>whnf
  refine Nm.mk ⟨[.lit (.int .i64 t17_1.class_),.lit (.int .i64 t17_1.sign),.lit (.int .u64 t17_1.m),.lit (.int .i64 t17_1.e)],rfl,?_⟩
  conv=>whnf
  refine Nm.mk ⟨[.lit (.int .i64 t17_2.class_),.lit (.int .i64 t17_2.sign),.lit (.int .u64 t17_2.m),.lit (.int .i64 t17_2.e)],rfl,?_⟩
  conv=>whnf
  refine CutN.of (fun s=>Flt.Parts.j0 t17_1 = some r ∧ s = (⟨54,[(9,.ptr 0 0)],[.box [.lit (.int .i64 t17_1.class_),.lit (.int .i64 t17_1.sign),.lit (.int .u64 t17_1.m),.lit (.int .i64 t17_1.e)]]⟩:St)) ?_ ?_
  · obtain ⟨t24,et24,h2⟩:=letk_elim h1; clear h1
    conv=>whnf
    refine Nm.mk ⟨t24,et24,?_⟩
    rcases t24 with _ | _
    · have h3:=bif_f h2
      clear h2
      conv=>whnf
      refine CutN.of (fun s=>∃ (t25:Bool),Flt.Parts.j1 t17_1 t25 = some r ∧ s = (⟨54,[(9,.ptr 0 0),(25,.lit (.bool t25))],[.box [.lit (.int .i64 t17_1.class_),.lit (.int .i64 t17_1.sign),.lit (.int .u64 t17_1.m),.lit (.int .i64 t17_1.e)]]⟩:St)) ?_ ?_
      · obtain ⟨t28,et28,h4⟩:=letk_elim h3; clear h3
        conv=>whnf
        refine Nm.mk ⟨t28,et28,?_⟩
        rcases t28 with _ | _
        · have h5:=bif_f h4
          clear h4
          obtain ⟨t32,et32,h6⟩:=letk_elim h5; clear h5
          conv=>whnf
          refine Nm.mk ⟨t32,et32,?_⟩
          exact BackS.by ⟨_,h6,rfl⟩ (Sees.of (Weak.objs (keep:=[1]) (frz:=[]) (m:=0) rfl (by decide) rfl rfl ⟨⟨_,rfl,WO.boxs ⟨.s,.s,.s,.s,trivial⟩⟩,⟨rfl,fun _ h=>by cases h⟩⟩ ⟨(.ptr _ _ 0 rfl),.s,trivial⟩))
        have h5:=bif_t h4
        clear h4
        exact BackS.by ⟨_,h5,rfl⟩ (Sees.of (Weak.objs (keep:=[1]) (frz:=[]) (m:=0) rfl (by decide) rfl rfl ⟨⟨_,rfl,WO.boxs ⟨.s,.s,.s,.s,trivial⟩⟩,⟨rfl,fun _ h=>by cases h⟩⟩ ⟨(.ptr _ _ 0 rfl),.s,trivial⟩))
      clear h3
      rintro s ⟨t25,hj0,rfl⟩
      unfold Flt.Parts.j1 at hj0
      rcases t25 with _ | _
      · have hj1:=bif_f hj0
        clear hj0
        obtain ⟨t37,et37,hj2⟩:=letk_elim hj1; clear hj1
        conv=>whnf
        refine Nm.mk ⟨t37,et37,?_⟩
        rcases t37 with _ | _
        · have hj3:=bif_f hj2
          clear hj2
          exact BackS.by ⟨hj3,rfl⟩ (Sees.of (Weak.objs (keep:=[0]) (frz:=[]) (m:=0) rfl (by decide) rfl rfl ⟨⟨_,rfl,WO.boxs ⟨.s,.s,.s,.s,trivial⟩⟩,⟨rfl,fun _ h=>by cases h⟩⟩ ⟨(.ptr _ _ 0 rfl),trivial⟩))
        have hj3:=bif_t hj2
        clear hj2
        have ehj3_0:=Option.some.inj hj3
        subst ehj3_0
        conv=>whnf
        exact Returns.pure (r:=.tup [.lit (.int .i64 t17_1.sign),.lit (.int .i64 0),.lit (.int .i64 0),.lit (.int .i64 0)]) rfl rfl rfl rfl ⟨rfl,rfl⟩
      have hj1:=bif_t hj0
      clear hj0
      have ehj1_0:=Option.some.inj hj1
      subst ehj1_0
      conv=>whnf
      exact Returns.pure (r:=.tup [.lit (.int .i64 0),.lit (.int .i64 0),.lit (.int .i64 0),.lit (.int .i64 10)]) rfl rfl rfl rfl ⟨rfl,rfl⟩
    have h3:=bif_t h2
    clear h2
    have eh3_0:=Option.some.inj h3
    subst eh3_0
    conv=>whnf
    exact Returns.pure (r:=.tup [.lit (.int .i64 0),.lit (.int .i64 0),.lit (.int .i64 0),.lit (.int .i64 2)]) rfl rfl rfl rfl ⟨rfl,rfl⟩
  clear h1
  rintro s ⟨hj0,rfl⟩
  unfold Flt.Parts.j0 at hj0
  obtain ⟨t42,et42,hj1⟩:=bind_elim hj0; clear hj0
  conv=>whnf
  refine Gate.go ?_
  conv=>whnf
  refine CallN.by (v:=.lit (.int .i64 t42)) (Bits.TrailingZeros64_ok et42) rfl rfl ?_
  conv=>whnf
  refine DrawB.sees (Sees.of (Weak.objs (k:=54) (keep:=[0]) (frz:=[]) (m:=0) (ts:=[(9,.ptr 0 0),(12,.lit (.int .i64 t42))]) (hs:=[.box [.lit (.int .i64 t17_1.class_),.lit (.int .i64 t17_1.sign),.lit (.int .u64 t17_1.m),.lit (.int .i64 t17_1.e)]]) rfl (by decide) rfl rfl ⟨⟨_,rfl,WO.refl rfl⟩,⟨rfl,fun _ h=>by cases h⟩⟩ ⟨(.ptr _ _ 0 rfl),.s,trivial⟩)) ?_
  refine DrawB.ofG [none,none,none,none,none,none,none,none,none,none,none,none,none,none,none] Tryz_mixed (by kernel_rfl) (by kernel_rfl) ?_
  conv=>whnf
  refine DNodeB.of (.ptr 0 1) ?_ ?_
  · conv=>whnf
    rfl
  conv=>whnf
  refine DNodeB.of (.lit (.int .i64 t17_1.sign)) ?_ ?_
  · conv=>whnf
    rfl
  conv=>whnf
  refine DNodeB.of (.ptr 0 2) ?_ ?_
  · conv=>whnf
    rfl
  conv=>whnf
  refine DNodeB.of (.lit (.int .u64 t17_1.m)) ?_ ?_
  · conv=>whnf
    rfl
  conv=>whnf
  refine DNodeB.of (.lit (.int .i64 t42)) ?_ ?_
  · conv=>whnf
    rfl
  obtain ⟨chj2,hj2⟩:=chk_elim hj1; clear hj1
  obtain ⟨t48,et48,hj3⟩:=letk_elim hj2; clear hj2
  conv=>whnf
  refine DNodeB.of (.lit (.int .u64 t48)) ?_ ?_
  · conv=>whnf
    refine Side.mk chj2 ?_
    conv=>whnf
    refine Nm.mk ⟨t48,et48,?_⟩
    conv=>whnf
    rfl
  obtain ⟨t49,et49,hj4⟩:=letk_elim hj3; clear hj3
  conv=>whnf
  refine DNodeB.of (.lit (.int .i64 t49)) ?_ ?_
  · conv=>whnf
    refine Nm.mk ⟨t49,et49,?_⟩
    conv=>whnf
    rfl
  conv=>whnf
  refine DNodeB.of (.ptr 0 3) ?_ ?_
  · conv=>whnf
    rfl
  conv=>whnf
  refine DNodeB.of (.lit (.int .i64 t17_1.e)) ?_ ?_
  · conv=>whnf
    rfl
  conv=>whnf
  refine DNodeB.of (.lit (.int .i64 t42)) ?_ ?_
  · conv=>whnf
    rfl
  obtain ⟨t53,et53,hj5⟩:=letk_elim hj4; clear hj4
  conv=>whnf
  refine DNodeB.of (.lit (.int .i64 t53)) ?_ ?_
  · conv=>whnf
    refine Nm.mk ⟨t53,et53,?_⟩
    conv=>whnf
    rfl
  conv=>whnf
  refine DNodeB.of (.lit (.int .i64 t17_1.sign)) ?_ ?_
  · conv=>whnf
    rfl
  conv=>whnf
  refine DNodeB.of (.lit (.int .i64 t49)) ?_ ?_
  · conv=>whnf
    rfl
  conv=>whnf
  refine DNodeB.of (.lit (.int .i64 t53)) ?_ ?_
  · conv=>whnf
    rfl
  conv=>whnf
  refine DNodeB.of (.lit (.int .i64 0)) ?_ ?_
  · conv=>whnf
    rfl
  have ehj5_0:=Option.some.inj hj5
  subst ehj5_0
  conv=>whnf
  exact Returns.pure (r:=.tup [.lit (.int .i64 t17_1.sign),.lit (.int .i64 t49),.lit (.int .i64 t53),.lit (.int .i64 0)]) rfl rfl rfl rfl ⟨rfl,rfl⟩
noncomputable def Dec.exact.j0 (t14_0:Int) (e8:Int) (b10:List Int):Option (Int × ByteArray × Int) :=
  Option.bind (Dec.big.digits b10) fun t32 =>
  Option.bind (Strs.TrimRight t32 ⟨#[48]⟩) fun t35 =>
  letk ((t32.size:Int)) fun t37 =>
  letk (IntKind.i64.wrap (t37 + e8)) fun t39 =>
  some (t14_0,t35,t39)
noncomputable def Dec.exact (kind0:Int) (a1:Int):Option (Int × ByteArray × Int) :=
  Option.bind (Flt.Parts kind0 a1) fun (t14_0,t14_1,t14_2,t14_3) =>
  Option.bind (Strconv.Itoa t14_1) fun t20 =>
  Option.bind (Dec.whole t20) fun t21 =>
  letk (decide (t14_2 ≥ (0:Int))) fun t23 =>
  bif t23 then
    Option.bind (Dec.big.power t21 2 t14_2) fun t26 =>
    Dec.exact.j0 t14_0 0 t26
  else
    letk (IntKind.i64.wrap (0 - t14_2)) fun t29 =>
    Option.bind (Dec.big.power t21 5 t29) fun t30 =>
    Dec.exact.j0 t14_0 t14_2 t30
theorem Dec.exact_ok {kind0:Int} {a1:Int} {r:Int × ByteArray × Int} (h0:Dec.exact kind0 a1 = some r):Gives Tryz.prog 31 [.lit (.int .i64 kind0),.lit (.int .i64 a1)] (.tup [.lit (.int .i64 r.1),.lit (.string r.2.1),.lit (.int .i64 r.2.2)]):=by
  unfold Dec.exact at h0
  refine ACalls.of_swp Tryz.func31 rfl (by decide) rfl (st0:=⟨40,[(0,.lit (.int .i64 kind0)),(1,.lit (.int .i64 a1))],[]⟩) rfl (bwp_ok (C:=[(0,7)]) ?_)
  obtain ⟨⟨t14_0,t14_1,t14_2,t14_3⟩,et14,h1⟩:=bind_elim h0; clear h0
  conv=>whnf
  refine Gate.go ?_
  conv=>whnf
  refine CallN.by (v:=.tup [.lit (.int .i64 t14_0),.lit (.int .i64 t14_1),.lit (.int .i64 t14_2),.lit (.int .i64 t14_3)]) (Flt.Parts_ok et14) rfl rfl ?_
  obtain ⟨t20,et20,h2⟩:=bind_elim h1; clear h1
  conv=>whnf
  refine Gate.go ?_
  conv=>whnf
  refine CallN.by (v:=.lit (.string t20)) (Strconv.Itoa_ok et20) rfl rfl ?_
  obtain ⟨t21,et21,h3⟩:=bind_elim h2; clear h2
  conv=>whnf
  refine Gate.go ?_
  conv=>whnf
  refine CallN.by (v:=.vs 1 (t21.map (eI .i64))) (Dec.whole_ok et21) rfl rfl ?_
  conv=>whnf
  refine CutN.of (fun s=>∃ (e8:Int) (b10:List Int),Dec.exact.j0 t14_0 e8 b10 = some r ∧ s = (⟨40,[(4,.lit (.int .i64 t14_0)),(8,.lit (.int .i64 e8)),(10,.vs 1 (b10.map (eI .i64)))],[]⟩:St)) ?_ ?_
  · obtain ⟨t23,et23,h4⟩:=letk_elim h3; clear h3
    conv=>whnf
    refine Nm.mk ⟨t23,et23,?_⟩
    rcases t23 with _ | _
    · have h5:=bif_f h4
      clear h4
      obtain ⟨t29,et29,h6⟩:=letk_elim h5; clear h5
      conv=>whnf
      refine Nm.mk ⟨t29,et29,?_⟩
      obtain ⟨t30,et30,h7⟩:=bind_elim h6; clear h6
      conv=>whnf
      refine Gate.go ?_
      conv=>whnf
      refine CallN.by (v:=.vs 1 (t30.map (eI .i64))) (Dec.big.power_ok et30) rfl rfl ?_
      exact BackS.by ⟨_,_,h7,rfl⟩ (Sees.e ⟨.s,.s,.s,trivial⟩)
    have h5:=bif_t h4
    clear h4
    obtain ⟨t26,et26,h6⟩:=bind_elim h5; clear h5
    conv=>whnf
    refine Gate.go ?_
    conv=>whnf
    refine CallN.by (v:=.vs 1 (t26.map (eI .i64))) (Dec.big.power_ok et26) rfl rfl ?_
    exact BackS.by ⟨_,_,h6,rfl⟩ (Sees.e ⟨.s,.s,.s,trivial⟩)
  clear h3
  rintro s ⟨e8,b10,hj0,rfl⟩
  unfold Dec.exact.j0 at hj0
  obtain ⟨t32,et32,hj1⟩:=bind_elim hj0; clear hj0
  conv=>whnf
  refine Gate.go ?_
  conv=>whnf
  refine CallN.by (v:=.lit (.string t32)) (Dec.big.digits_ok et32) rfl rfl ?_
  obtain ⟨t35,et35,hj2⟩:=bind_elim hj1; clear hj1
  conv=>whnf
  refine Gate.go ?_
  conv=>whnf
  refine CallN.by (v:=.lit (.string t35)) (Strs.TrimRight_ok et35) rfl rfl ?_
  obtain ⟨t37,et37,hj3⟩:=letk_elim hj2; clear hj2
  conv=>whnf
  refine Nm.mk ⟨t37,et37,?_⟩
  obtain ⟨t39,et39,hj4⟩:=letk_elim hj3; clear hj3
  conv=>whnf
  refine Nm.mk ⟨t39,et39,?_⟩
  have ehj4_0:=Option.some.inj hj4
  subst ehj4_0
  conv=>whnf
  exact Returns.pure (r:=.tup [.lit (.int .i64 t14_0),.lit (.string t35),.lit (.int .i64 t39)]) rfl rfl rfl rfl ⟨rfl,rfl⟩
noncomputable def Dec.away.j1 (digits2:ByteArray) (n3:Int) (odd9:Bool):Option Bool :=
  chk (0 ≤ n3 ∧ n3 < (digits2.size:Int)) <|
  letk (bt digits2 n3) fun t38 =>
  letk (decide (t38 > (53:Int))) fun t39 =>
  bif t39 then
    some true
  else
    letk (IntKind.i64.wrap (n3 + (1:Int))) fun t42 =>
    letk ((digits2.size:Int)) fun t44 =>
    letk (decide (t42 < t44)) fun t45 =>
    bif t45 then
      some true
    else
      some odd9
noncomputable def Dec.away.j0 (digits2:ByteArray) (n3:Int):Option Bool :=
  letk (decide (n3 > (0:Int))) fun t26 =>
  bif t26 then
    letk (IntKind.i64.wrap (n3 - (1:Int))) fun t30 =>
    chk (0 ≤ t30 ∧ t30 < (digits2.size:Int)) <|
    letk (bt digits2 t30) fun t31 =>
    letk (IntKind.u8.wrap (t31 - (48:Int))) fun t32 =>
    chk ((2:Int) ≠ 0) <|
    letk (t32.tmod (2:Int)) fun t33 =>
    letk (t33 == (1:Int)) fun t34 =>
    Dec.away.j1 digits2 n3 t34
  else
    Dec.away.j1 digits2 n3 false
noncomputable def Dec.away (mode0:Int) (sign1:Int) (digits2:ByteArray) (n3:Int):Option Bool :=
  letk ((digits2.size:Int)) fun t12 =>
  letk (decide (n3 ≥ t12)) fun t13 =>
  bif t13 then
    some false
  else
    letk (mode0 == (0:Int)) fun t16 =>
    bif t16 then
      letk (decide (n3 < (0:Int))) fun t18 =>
      bif t18 then
        some false
      else
        chk (0 ≤ n3 ∧ n3 < (digits2.size:Int)) <|
        letk (bt digits2 n3) fun t22 =>
        letk (decide (t22 < (53:Int))) fun t23 =>
        bif t23 then
          some false
        else
          Dec.away.j0 digits2 n3
    else
      letk (mode0 == (2:Int)) fun t51 =>
      bif t51 then
        letk (sign1 == (1:Int)) fun t53 =>
        some t53
      else
        letk (mode0 == (3:Int)) fun t55 =>
        bif t55 then
          letk (sign1 == (0:Int)) fun t57 =>
          some t57
        else
          some false
theorem Dec.away_ok {mode0:Int} {sign1:Int} {digits2:ByteArray} {n3:Int} {r:Bool} (h0:Dec.away mode0 sign1 digits2 n3 = some r):Gives Tryz.prog 32 [.lit (.int .i64 mode0),.lit (.int .i64 sign1),.lit (.string digits2),.lit (.int .i64 n3)] (.lit (.bool r)):=by
  unfold Dec.away at h0
  refine ACalls.of_swp Tryz.func32 rfl (by decide) rfl (st0:=⟨58,[(0,.lit (.int .i64 mode0)),(1,.lit (.int .i64 sign1)),(2,.lit (.string digits2)),(3,.lit (.int .i64 n3))],[]⟩) rfl (bwp_ok (C:=[(0,7),(0,8)]) ?_)
  obtain ⟨t12,et12,h1⟩:=letk_elim h0; clear h0
  conv=>whnf
  refine Nm.mk ⟨t12,et12,?_⟩
  obtain ⟨t13,et13,h2⟩:=letk_elim h1; clear h1
  conv=>whnf
  refine Nm.mk ⟨t13,et13,?_⟩
  rcases t13 with _ | _
  · have h3:=bif_f h2
    clear h2
    obtain ⟨t16,et16,h4⟩:=letk_elim h3; clear h3
    conv=>whnf
    refine Nm.mk ⟨t16,et16,?_⟩
    rcases t16 with _ | _
    · have h5:=bif_f h4
      clear h4
      obtain ⟨t51,et51,h6⟩:=letk_elim h5; clear h5
      conv=>whnf
      refine Nm.mk ⟨t51,et51,?_⟩
      rcases t51 with _ | _
      · have h7:=bif_f h6
        clear h6
        obtain ⟨t55,et55,h8⟩:=letk_elim h7; clear h7
        conv=>whnf
        refine Nm.mk ⟨t55,et55,?_⟩
        rcases t55 with _ | _
        · have h9:=bif_f h8
          clear h8
          have eh9_0:=Option.some.inj h9
          subst eh9_0
          conv=>whnf
          exact Returns.pure (r:=.lit (.bool false)) rfl rfl rfl rfl ⟨rfl,rfl⟩
        have h9:=bif_t h8
        clear h8
        obtain ⟨t57,et57,h10⟩:=letk_elim h9; clear h9
        conv=>whnf
        refine Nm.mk ⟨t57,et57,?_⟩
        have eh10_0:=Option.some.inj h10
        subst eh10_0
        conv=>whnf
        exact Returns.pure (r:=.lit (.bool t57)) rfl rfl rfl rfl ⟨rfl,rfl⟩
      have h7:=bif_t h6
      clear h6
      obtain ⟨t53,et53,h8⟩:=letk_elim h7; clear h7
      conv=>whnf
      refine Nm.mk ⟨t53,et53,?_⟩
      have eh8_0:=Option.some.inj h8
      subst eh8_0
      conv=>whnf
      exact Returns.pure (r:=.lit (.bool t53)) rfl rfl rfl rfl ⟨rfl,rfl⟩
    have h5:=bif_t h4
    clear h4
    conv=>whnf
    refine CutN.of (fun s=>Dec.away.j0 digits2 n3 = some r ∧ s = (⟨58,[(2,.lit (.string digits2)),(3,.lit (.int .i64 n3))],[]⟩:St)) ?_ ?_
    · obtain ⟨t18,et18,h6⟩:=letk_elim h5; clear h5
      conv=>whnf
      refine Nm.mk ⟨t18,et18,?_⟩
      rcases t18 with _ | _
      · have h7:=bif_f h6
        clear h6
        obtain ⟨ch8,h8⟩:=chk_elim h7; clear h7
        obtain ⟨t22,et22,h9⟩:=letk_elim h8; clear h8
        conv=>whnf
        refine Side.mk ch8 ?_
        conv=>whnf
        refine Nm.mk ⟨t22,et22,?_⟩
        obtain ⟨t23,et23,h10⟩:=letk_elim h9; clear h9
        conv=>whnf
        refine Nm.mk ⟨t23,et23,?_⟩
        rcases t23 with _ | _
        · have h11:=bif_f h10
          clear h10
          exact BackS.by ⟨h11,rfl⟩ (Sees.e ⟨.s,.s,trivial⟩)
        have h11:=bif_t h10
        clear h10
        have eh11_0:=Option.some.inj h11
        subst eh11_0
        conv=>whnf
        exact Returns.pure (r:=.lit (.bool false)) rfl rfl rfl rfl ⟨rfl,rfl⟩
      have h7:=bif_t h6
      clear h6
      have eh7_0:=Option.some.inj h7
      subst eh7_0
      conv=>whnf
      exact Returns.pure (r:=.lit (.bool false)) rfl rfl rfl rfl ⟨rfl,rfl⟩
    clear h5
    rintro s ⟨hj0,rfl⟩
    unfold Dec.away.j0 at hj0
    conv=>whnf
    refine CutN.of (fun s=>∃ (odd9:Bool),Dec.away.j1 digits2 n3 odd9 = some r ∧ s = (⟨58,[(2,.lit (.string digits2)),(3,.lit (.int .i64 n3)),(9,.lit (.bool odd9))],[]⟩:St)) ?_ ?_
    · obtain ⟨t26,et26,hj1⟩:=letk_elim hj0; clear hj0
      conv=>whnf
      refine Nm.mk ⟨t26,et26,?_⟩
      rcases t26 with _ | _
      · have hj2:=bif_f hj1
        clear hj1
        exact BackS.by ⟨_,hj2,rfl⟩ (Sees.e ⟨.s,.s,.s,trivial⟩)
      have hj2:=bif_t hj1
      clear hj1
      obtain ⟨t30,et30,hj3⟩:=letk_elim hj2; clear hj2
      conv=>whnf
      refine Nm.mk ⟨t30,et30,?_⟩
      obtain ⟨chj4,hj4⟩:=chk_elim hj3; clear hj3
      obtain ⟨t31,et31,hj5⟩:=letk_elim hj4; clear hj4
      conv=>whnf
      refine Side.mk chj4 ?_
      conv=>whnf
      refine Nm.mk ⟨t31,et31,?_⟩
      obtain ⟨t32,et32,hj6⟩:=letk_elim hj5; clear hj5
      conv=>whnf
      refine Nm.mk ⟨t32,et32,?_⟩
      obtain ⟨chj7,hj7⟩:=chk_elim hj6; clear hj6
      obtain ⟨t33,et33,hj8⟩:=letk_elim hj7; clear hj7
      conv=>whnf
      refine Side.mk chj7 ?_
      conv=>whnf
      refine Nm.mk ⟨t33,et33,?_⟩
      obtain ⟨t34,et34,hj9⟩:=letk_elim hj8; clear hj8
      conv=>whnf
      refine Nm.mk ⟨t34,et34,?_⟩
      exact BackS.by ⟨_,hj9,rfl⟩ (Sees.e ⟨.s,.s,.s,trivial⟩)
    clear hj0
    rintro s ⟨odd9,hj0,rfl⟩
    unfold Dec.away.j1 at hj0
    obtain ⟨chj1,hj1⟩:=chk_elim hj0; clear hj0
    obtain ⟨t38,et38,hj2⟩:=letk_elim hj1; clear hj1
    conv=>whnf
    refine Side.mk chj1 ?_
    conv=>whnf
    refine Nm.mk ⟨t38,et38,?_⟩
    obtain ⟨t39,et39,hj3⟩:=letk_elim hj2; clear hj2
    conv=>whnf
    refine Nm.mk ⟨t39,et39,?_⟩
    rcases t39 with _ | _
    · have hj4:=bif_f hj3
      clear hj3
      obtain ⟨t42,et42,hj5⟩:=letk_elim hj4; clear hj4
      conv=>whnf
      refine Nm.mk ⟨t42,et42,?_⟩
      obtain ⟨t44,et44,hj6⟩:=letk_elim hj5; clear hj5
      conv=>whnf
      refine Nm.mk ⟨t44,et44,?_⟩
      obtain ⟨t45,et45,hj7⟩:=letk_elim hj6; clear hj6
      conv=>whnf
      refine Nm.mk ⟨t45,et45,?_⟩
      rcases t45 with _ | _
      · have hj8:=bif_f hj7
        clear hj7
        have ehj8_0:=Option.some.inj hj8
        subst ehj8_0
        conv=>whnf
        exact Returns.pure (r:=.lit (.bool odd9)) rfl rfl rfl rfl ⟨rfl,rfl⟩
      have hj8:=bif_t hj7
      clear hj7
      have ehj8_0:=Option.some.inj hj8
      subst ehj8_0
      conv=>whnf
      exact Returns.pure (r:=.lit (.bool true)) rfl rfl rfl rfl ⟨rfl,rfl⟩
    have hj4:=bif_t hj3
    clear hj3
    have ehj4_0:=Option.some.inj hj4
    subst ehj4_0
    conv=>whnf
    exact Returns.pure (r:=.lit (.bool true)) rfl rfl rfl rfl ⟨rfl,rfl⟩
  have h3:=bif_t h2
  clear h2
  have eh3_0:=Option.some.inj h3
  subst eh3_0
  conv=>whnf
  exact Returns.pure (r:=.lit (.bool false)) rfl rfl rfl rfl ⟨rfl,rfl⟩
noncomputable def Dec.cut.s0 (b7:List Int) (i8:Int):Option (((List Int) × Int) ⊕ ByteArray) :=
  letk (decide (i8 ≥ (0:Int))) fun t33 =>
  bif t33 then
    chk (0 ≤ i8 ∧ i8 < (b7.length:Int)) <|
    letk (0 + i8.toNat) fun t38 =>
    Option.bind (b7[t38]?) fun t39 =>
    letk (decide (t39 < (57:Int))) fun t40 =>
    bif t40 then
      chk (0 ≤ i8 ∧ i8 < (b7.length:Int)) <|
      letk (0 + i8.toNat) fun t43 =>
      Option.bind (b7[t43]?) fun t44 =>
      letk (IntKind.u8.wrap (t44 + (1:Int))) fun t45 =>
      chk (0 ≤ i8 ∧ i8 < (b7.length:Int)) <|
      letk (0 + i8.toNat) fun t46 =>
      Option.bind (b7[t46]?) fun old_1 =>
      letk (b7.set t46 t45) fun l_1 =>
      letk (ofInts l_1) fun t48 =>
      some (.inr t48)
    else
      chk (0 ≤ i8 ∧ i8 < (b7.length:Int)) <|
      letk (0 + i8.toNat) fun t51 =>
      Option.bind (b7[t51]?) fun old =>
      letk (b7.set t51 48) fun l =>
      letk (IntKind.i64.wrap (i8 - (1:Int))) fun t35 =>
      some (.inl (l,t35))
  else
    ((
    letk (ofInts b7) fun t53 =>
    chk ((((⟨#[49]⟩:ByteArray).size + t53.size:Nat):Int) ≤ 9223372036854775807) <|
    letk ((⟨#[49]⟩:ByteArray) ++ t53) fun t54 =>
    some t54)).map .inr
noncomputable def Dec.cut.l0 (b7:List Int) (i8:Int):Option ByteArray:=loopO (fun v:(List Int) × Int=>Dec.cut.s0 v.1 v.2) (b7,i8)
noncomputable def Dec.cut.j0 (t10:Int) (digits0_1:ByteArray) (more2_1:Bool):Option ByteArray :=
  chk (0 ≤ t10 ∧ t10 ≤ (digits0_1.size:Int)) <|
  letk (digits0_1.extract 0 t10.toNat) fun t24 =>
  letk (!more2_1) fun t26 =>
  bif t26 then
    some t24
  else
    letk (bytesI t24) fun t29 =>
    letk (IntKind.i64.wrap (t10 - (1:Int))) fun t31 =>
    Dec.cut.l0 t29 t31
noncomputable def Dec.cut (digits0:ByteArray) (n1:Int) (more2:Bool):Option ByteArray :=
  letk (if 0 > n1 then 0 else n1) fun t10 =>
  letk ((digits0.size:Int)) fun t13 =>
  letk (decide (t10 > t13)) fun t14 =>
  bif t14 then
    letk ((digits0.size:Int)) fun t18 =>
    letk (IntKind.i64.wrap (t10 - t18)) fun t19 =>
    Option.bind (Strs.Repeat ⟨#[48]⟩ t19) fun t20 =>
    chk (((digits0.size + t20.size:Nat):Int) ≤ 9223372036854775807) <|
    letk (digits0 ++ t20) fun t21 =>
    Dec.cut.j0 t10 t21 more2
  else
    Dec.cut.j0 t10 digits0 more2
theorem Dec.cut_ok {digits0:ByteArray} {n1:Int} {more2:Bool} {r:ByteArray} (h0:Dec.cut digits0 n1 more2 = some r):Gives Tryz.prog 63 [.lit (.string digits0),.lit (.int .i64 n1),.lit (.bool more2)] (.lit (.string r)):=by
  unfold Dec.cut at h0
  refine ACalls.of_swp Tryz.func63 rfl (by decide) rfl (st0:=⟨55,[(0,.lit (.string digits0)),(1,.lit (.int .i64 n1)),(2,.lit (.bool more2))],[]⟩) rfl (bwp_ok (C:=[(0,4)]) ?_)
  obtain ⟨t10,et10,h1⟩:=letk_elim h0; clear h0
  conv=>whnf
  refine Nm.mk ⟨t10,et10,?_⟩
  conv=>whnf
  refine CutN.of (fun s=>∃ (digits0_1:ByteArray) (more2_1:Bool),Dec.cut.j0 t10 digits0_1 more2_1 = some r ∧ s = (⟨55,[(0,.lit (.string digits0_1)),(1,.lit (.int .i64 t10)),(2,.lit (.bool more2_1))],[]⟩:St)) ?_ ?_
  · obtain ⟨t13,et13,h2⟩:=letk_elim h1; clear h1
    conv=>whnf
    refine Nm.mk ⟨t13,et13,?_⟩
    obtain ⟨t14,et14,h3⟩:=letk_elim h2; clear h2
    conv=>whnf
    refine Nm.mk ⟨t14,et14,?_⟩
    rcases t14 with _ | _
    · have h4:=bif_f h3
      clear h3
      exact BackS.by ⟨_,_,h4,rfl⟩ (Sees.e ⟨.s,.s,.s,trivial⟩)
    have h4:=bif_t h3
    clear h3
    obtain ⟨t18,et18,h5⟩:=letk_elim h4; clear h4
    conv=>whnf
    refine Nm.mk ⟨t18,et18,?_⟩
    obtain ⟨t19,et19,h6⟩:=letk_elim h5; clear h5
    conv=>whnf
    refine Nm.mk ⟨t19,et19,?_⟩
    obtain ⟨t20,et20,h7⟩:=bind_elim h6; clear h6
    conv=>whnf
    refine Gate.go ?_
    conv=>whnf
    refine CallN.by (v:=.lit (.string t20)) (Strs.Repeat_ok et20) rfl rfl ?_
    obtain ⟨ch8,h8⟩:=chk_elim h7; clear h7
    obtain ⟨t21,et21,h9⟩:=letk_elim h8; clear h8
    conv=>whnf
    refine Side.mk ch8 ?_
    conv=>whnf
    refine Nm.mk ⟨t21,et21,?_⟩
    exact BackS.by ⟨_,_,h9,rfl⟩ (Sees.e ⟨.s,.s,.s,trivial⟩)
  clear h1
  rintro s ⟨digits0_1,more2_1,hj0,rfl⟩
  unfold Dec.cut.j0 at hj0
  obtain ⟨chj1,hj1⟩:=chk_elim hj0; clear hj0
  obtain ⟨t24,et24,hj2⟩:=letk_elim hj1; clear hj1
  conv=>whnf
  refine Side.mk chj1 ?_
  conv=>whnf
  refine Nm.mk ⟨t24,et24,?_⟩
  obtain ⟨t26,et26,hj3⟩:=letk_elim hj2; clear hj2
  conv=>whnf
  refine Nm.mk ⟨t26,et26,?_⟩
  rcases t26 with _ | _
  · have hj4:=bif_f hj3
    clear hj3
    obtain ⟨t29,et29,hj5⟩:=letk_elim hj4; clear hj4
    conv=>whnf
    refine Nm.mk ⟨t29.map (eI .u8),by rw [et29]; exact bytesI_map _,?_⟩
    obtain ⟨t31,et31,hj6⟩:=letk_elim hj5; clear hj5
    conv=>whnf
    refine Nm.mk ⟨t31,et31,?_⟩
    conv=>whnf
    unfold Dec.cut.l0 at hj6
    refine LoopB.of (σ:=(List Int) × Int) (ρ:=ByteArray) (fun v:(List Int) × Int=>Dec.cut.s0 v.1 v.2) (fun v=>(⟨55,[(7,.ref 0 0 ((v.1.map (eI .u8)).length)),(8,.lit (.int .i64 v.2))],[.arr 1 (v.1.map (eI .u8))]⟩:St)) (t29,t31) hj6 (BackS.by rfl (Sees.of (Weak.objs (keep:=[0]) (frz:=[]) (m:=0) rfl (by decide) rfl rfl ⟨⟨_,rfl,.arr _ _⟩,⟨rfl,fun _ h=>by cases h⟩⟩ ⟨(.ref _ _ _ 0 rfl),.s,trivial⟩))) ?_
    clear hj6
    rintro K1 ⟨b7,i8⟩ x1 hs0_0 hl1 hr1
    replace hs0_0:Dec.cut.s0 b7 i8 = some x1:=hs0_0
    unfold Dec.cut.s0 at hs0_0
    change bwp _ _ _ _ _ (⟨55,[(7,.ref 0 0 ((b7.map (eI .u8)).length)),(8,.lit (.int .i64 i8))],[.arr 1 (b7.map (eI .u8))]⟩:St)
    obtain ⟨t33,et33,hs0_1⟩:=letk_elim hs0_0; clear hs0_0
    conv=>whnf
    refine Nm.mk ⟨t33,et33,?_⟩
    rcases t33 with _ | _
    · have hs0_2:=bif_f hs0_1
      clear hs0_1
      obtain ⟨yhs0_2_0,hs0_2u,ehs0_2_0⟩:=map_elim hs0_2
      have ehs0_2_0:=(hr1 _ ehs0_2_0.symm).symm
      subst ehs0_2_0
      obtain ⟨t53,et53,hs0_2u0⟩:=letk_elim hs0_2u; clear hs0_2u
      conv=>whnf
      refine Side.mk ⟨full_le _,one_map (fun _ _ hc=>by simp only [AV.cells,List.mem_singleton] at hc; subst hc; rfl)⟩ ?_
      conv=>whnf
      refine BytesN.mk ⟨b7,map_takeAll _ _,?_⟩
      conv=>whnf
      refine Nm.mk ⟨t53,et53,?_⟩
      obtain ⟨chs0_2u1,hs0_2u1⟩:=chk_elim hs0_2u0; clear hs0_2u0
      obtain ⟨t54,et54,hs0_2u2⟩:=letk_elim hs0_2u1; clear hs0_2u1
      conv=>whnf
      refine Side.mk chs0_2u1 ?_
      conv=>whnf
      refine Nm.mk ⟨t54,et54,?_⟩
      have ehs0_2u2_0:=Option.some.inj hs0_2u2
      subst ehs0_2u2_0
      conv=>whnf
      exact Returns.pure (r:=.lit (.string t54)) rfl rfl rfl rfl ⟨rfl,rfl⟩
    have hs0_2:=bif_t hs0_1
    clear hs0_1
    obtain ⟨chs0_3,hs0_3⟩:=chk_elim hs0_2; clear hs0_2
    obtain ⟨t38,et38,hs0_4⟩:=letk_elim hs0_3; clear hs0_3
    conv=>whnf
    refine Side.mk (by simpa only [List.length_map] using chs0_3) ?_
    conv=>whnf
    refine Nm.mk ⟨t38,et38,?_⟩
    obtain ⟨t39,et39,hs0_5⟩:=bind_elim hs0_4; clear hs0_4
    conv=>whnf
    refine At.by et39 ?_
    obtain ⟨t40,et40,hs0_6⟩:=letk_elim hs0_5; clear hs0_5
    conv=>whnf
    refine Nm.mk ⟨t40,et40,?_⟩
    rcases t40 with _ | _
    · have hs0_7:=bif_f hs0_6
      clear hs0_6
      obtain ⟨chs0_8,hs0_8⟩:=chk_elim hs0_7; clear hs0_7
      obtain ⟨t51,et51,hs0_9⟩:=letk_elim hs0_8; clear hs0_8
      conv=>whnf
      refine Side.mk (by simpa only [List.length_map] using chs0_8) ?_
      conv=>whnf
      refine Nm.mk ⟨t51,et51,?_⟩
      obtain ⟨old,eold,hs0_10⟩:=bind_elim hs0_9; clear hs0_9
      obtain ⟨l,el,hs0_11⟩:=letk_elim hs0_10; clear hs0_10
      conv=>whnf
      refine At.by eold ?_
      conv=>whnf
      refine Side.mk ⟨Nat.le_of_ble_eq_true rfl,rfl⟩ ?_
      conv=>whnf
      refine Nm.mk ⟨l.map (eI .u8),by rw [el,List.map_set]; rfl,?_⟩
      rw [show (b7.map (eI .u8)).length = (l.map (eI .u8)).length from by rw [el,List.length_map,List.length_map,List.length_set]]
      obtain ⟨t35,et35,hs0_12⟩:=letk_elim hs0_11; clear hs0_11
      conv=>whnf
      refine Nm.mk ⟨t35,et35,?_⟩
      exact BackS.by ⟨_,hl1 _ (Option.some.inj hs0_12).symm,rfl⟩ (Sees.of (Weak.objs (keep:=[0]) (frz:=[]) (m:=0) rfl (by decide) rfl rfl ⟨⟨_,rfl,.arr _ _⟩,⟨rfl,fun _ h=>by cases h⟩⟩ ⟨(.ref _ _ _ 0 rfl),.s,trivial⟩))
    have hs0_7:=bif_t hs0_6
    clear hs0_6
    obtain ⟨chs0_8,hs0_8⟩:=chk_elim hs0_7; clear hs0_7
    obtain ⟨t43,et43,hs0_9⟩:=letk_elim hs0_8; clear hs0_8
    conv=>whnf
    refine Side.mk (by simpa only [List.length_map] using chs0_8) ?_
    conv=>whnf
    refine Nm.mk ⟨t43,et43,?_⟩
    obtain ⟨t44,et44,hs0_10⟩:=bind_elim hs0_9; clear hs0_9
    conv=>whnf
    refine At.by et44 ?_
    obtain ⟨t45,et45,hs0_11⟩:=letk_elim hs0_10; clear hs0_10
    conv=>whnf
    refine Nm.mk ⟨t45,et45,?_⟩
    obtain ⟨chs0_12,hs0_12⟩:=chk_elim hs0_11; clear hs0_11
    obtain ⟨t46,et46,hs0_13⟩:=letk_elim hs0_12; clear hs0_12
    conv=>whnf
    refine Side.mk (by simpa only [List.length_map] using chs0_12) ?_
    conv=>whnf
    refine Nm.mk ⟨t46,et46,?_⟩
    obtain ⟨old_1,eold_1,hs0_14⟩:=bind_elim hs0_13; clear hs0_13
    obtain ⟨l_1,el_1,hs0_15⟩:=letk_elim hs0_14; clear hs0_14
    conv=>whnf
    refine At.by eold_1 ?_
    conv=>whnf
    refine Side.mk ⟨Nat.le_of_ble_eq_true rfl,rfl⟩ ?_
    conv=>whnf
    refine Nm.mk ⟨l_1.map (eI .u8),by rw [el_1,List.map_set]; rfl,?_⟩
    rw [show (b7.map (eI .u8)).length = (l_1.map (eI .u8)).length from by rw [el_1,List.length_map,List.length_map,List.length_set]]
    obtain ⟨t48,et48,hs0_16⟩:=letk_elim hs0_15; clear hs0_15
    conv=>whnf
    refine Side.mk ⟨full_le _,one_map (fun _ _ hc=>by simp only [AV.cells,List.mem_singleton] at hc; subst hc; rfl)⟩ ?_
    conv=>whnf
    refine BytesN.mk ⟨l_1,map_takeAll _ _,?_⟩
    conv=>whnf
    refine Nm.mk ⟨t48,et48,?_⟩
    have ehs0_16_0:=hr1 _ (Option.some.inj hs0_16).symm
    subst ehs0_16_0
    conv=>whnf
    exact Returns.pure (r:=.lit (.string t48)) rfl rfl rfl rfl ⟨rfl,rfl⟩
  have hj4:=bif_t hj3
  clear hj3
  have ehj4_0:=Option.some.inj hj4
  subst ehj4_0
  conv=>whnf
  exact Returns.pure (r:=.lit (.string t24)) rfl rfl rfl rfl ⟨rfl,rfl⟩
noncomputable def Dec.to (digits0:ByteArray) (x1:Int) (n2:Int) (more3:Bool):Option (ByteArray × Int) :=
  Option.bind (Dec.cut digits0 n2 more3) fun t14 =>
  letk ((t14.size:Int)) fun t16 =>
  letk (decide (t16 > n2)) fun t18 =>
  bif t18 then
    chk (0 ≤ n2 ∧ n2 ≤ (t14.size:Int)) <|
    letk (t14.extract 0 n2.toNat) fun t21 =>
    letk (IntKind.i64.wrap (x1 + (1:Int))) fun t23 =>
    some (t21,t23)
  else
    some (t14,x1)
theorem Dec.to_ok {digits0:ByteArray} {x1:Int} {n2:Int} {more3:Bool} {r:ByteArray × Int} (h0:Dec.to digits0 x1 n2 more3 = some r):Gives Tryz.prog 33 [.lit (.string digits0),.lit (.int .i64 x1),.lit (.int .i64 n2),.lit (.bool more3)] (.tup [.lit (.string r.1),.lit (.int .i64 r.2)]):=by
  unfold Dec.to at h0
  refine ACalls.of_swp Tryz.func33 rfl (by decide) rfl (st0:=⟨26,[(0,.lit (.string digits0)),(1,.lit (.int .i64 x1)),(2,.lit (.int .i64 n2)),(3,.lit (.bool more3))],[]⟩) rfl (bwp_ok (C:=[]) ?_)
  obtain ⟨t14,et14,h1⟩:=bind_elim h0; clear h0
  conv=>whnf
  refine Gate.go ?_
  conv=>whnf
  refine CallN.by (v:=.lit (.string t14)) (Dec.cut_ok et14) rfl rfl ?_
  obtain ⟨t16,et16,h2⟩:=letk_elim h1; clear h1
  conv=>whnf
  refine Nm.mk ⟨t16,et16,?_⟩
  obtain ⟨t18,et18,h3⟩:=letk_elim h2; clear h2
  conv=>whnf
  refine Nm.mk ⟨t18,et18,?_⟩
  rcases t18 with _ | _
  · have h4:=bif_f h3
    clear h3
    have eh4_0:=Option.some.inj h4
    subst eh4_0
    conv=>whnf
    exact Returns.pure (r:=.tup [.lit (.string t14),.lit (.int .i64 x1)]) rfl rfl rfl rfl ⟨rfl,rfl⟩
  have h4:=bif_t h3
  clear h3
  obtain ⟨ch5,h5⟩:=chk_elim h4; clear h4
  obtain ⟨t21,et21,h6⟩:=letk_elim h5; clear h5
  conv=>whnf
  refine Side.mk ch5 ?_
  conv=>whnf
  refine Nm.mk ⟨t21,et21,?_⟩
  obtain ⟨t23,et23,h7⟩:=letk_elim h6; clear h6
  conv=>whnf
  refine Nm.mk ⟨t23,et23,?_⟩
  have eh7_0:=Option.some.inj h7
  subst eh7_0
  conv=>whnf
  exact Returns.pure (r:=.tup [.lit (.string t21),.lit (.int .i64 t23)]) rfl rfl rfl rfl ⟨rfl,rfl⟩
noncomputable def Dec.Shortest.j0 (kind0:Int) (a1:Int) (t24_1:ByteArray) (t24_2:Int) (n10:Int) (t40:Int) (sign4_1:Int) (t41:Int) (more13:Bool) (t39_1:List Bool):Option ((Int × (List Bool) × Int) ⊕ ((Int × Int) ⊕ (Int × ByteArray × Int × Int))) :=
  Option.bind (Dec.to t24_1 t24_2 n10 more13) fun (t57_0,t57_1) =>
  Option.bind (Dec.round kind0 0 sign4_1 t57_0 t57_1) fun (t65_0,t65_1,t65_2) =>
  letk (t65_0 == a1) fun t71 =>
  bif t71 then
    some (.inr (.inr (sign4_1,t57_0,t57_1,0)))
  else
    letk (IntKind.i64.wrap (t41 + (1:Int))) fun t75 =>
    some (.inl (sign4_1,t39_1,t75))
noncomputable def Dec.Shortest.s1 (kind0:Int) (a1:Int) (t24_1:ByteArray) (t24_2:Int) (n10:Int) (t40:Int) (sign4_1:Int) (t39:List Bool) (t41:Int):Option ((Int × (List Bool) × Int) ⊕ ((Int × Int) ⊕ (Int × ByteArray × Int × Int))) :=
  letk (decide (t41 < t40)) fun t42 =>
  bif t42 then
    chk (0 ≤ t41 ∧ t41 < (t39.length:Int)) <|
    letk (0 + t41.toNat) fun t43 =>
    Option.bind (t39[t43]?) fun t44 =>
    bif t44 then
      letk ((t24_1.size:Int)) fun t49 =>
      letk (decide (n10 ≥ t49)) fun t50 =>
      bif t50 then
        letk (IntKind.i64.wrap (t41 + (1:Int))) fun t75_1 =>
        some (.inl (sign4_1,t39,t75_1))
      else
        Dec.Shortest.j0 kind0 a1 t24_1 t24_2 n10 t40 sign4_1 t41 true t39
    else
      Dec.Shortest.j0 kind0 a1 t24_1 t24_2 n10 t40 sign4_1 t41 false t39
  else
    ((
    letk (IntKind.i64.wrap (n10 + (1:Int))) fun t31 =>
    some (.inl (sign4_1,t31)))).map .inr
noncomputable def Dec.Shortest.l1 (kind0:Int) (a1:Int) (t24_1:ByteArray) (t24_2:Int) (n10:Int) (t40:Int) (sign4_1:Int) (t39:List Bool) (t41:Int):Option ((Int × Int) ⊕ (Int × ByteArray × Int × Int)):=loopO (fun v:Int × (List Bool) × Int=>Dec.Shortest.s1 kind0 a1 t24_1 t24_2 n10 t40 v.1 v.2.1 v.2.2) (sign4_1,t39,t41)
noncomputable def Dec.Shortest.s0 (kind0:Int) (a1:Int) (t24_1:ByteArray) (t24_2:Int) (sign4:Int) (n10:Int):Option ((Int × Int) ⊕ (Int × ByteArray × Int × Int)) :=
  letk (decide (n10 < (17:Int))) fun t29 =>
  bif t29 then
    Option.bind (Dec.away 0 sign4 t24_1 n10) fun t35 =>
    letk (!t35) fun t38 =>
    letk ((([t35,t38]).length:Int)) fun t40 =>
    Dec.Shortest.l1 kind0 a1 t24_1 t24_2 n10 t40 sign4 ([t35,t38]) 0
  else
    ((
    Option.bind (Dec.away 0 sign4 t24_1 17) fun t81 =>
    Option.bind (Dec.to t24_1 t24_2 17 t81) fun (t82_0,t82_1) =>
    some (sign4,t82_0,t82_1,0)):Option (Int × ByteArray × Int × Int)).map .inr
noncomputable def Dec.Shortest.l0 (kind0:Int) (a1:Int) (t24_1:ByteArray) (t24_2:Int) (sign4:Int) (n10:Int):Option (Int × ByteArray × Int × Int):=loopO (fun v:Int × Int=>Dec.Shortest.s0 kind0 a1 t24_1 t24_2 v.1 v.2) (sign4,n10)
noncomputable def Dec.Shortest (kind0:Int) (a1:Int):Option (Int × ByteArray × Int × Int) :=
  Option.bind (Dec.isFinite kind0 a1) fun t19 =>
  letk (!t19) fun t20 =>
  bif t20 then
    some (0,⟨#[]⟩,0,2)
  else
    Option.bind (Dec.exact kind0 a1) fun (t24_0,t24_1,t24_2) =>
    Dec.Shortest.l0 kind0 a1 t24_1 t24_2 t24_0 1
theorem Dec.Shortest_ok {kind0:Int} {a1:Int} {r:Int × ByteArray × Int × Int} (h0:Dec.Shortest kind0 a1 = some r):Gives Tryz.prog 11 [.lit (.int .i64 kind0),.lit (.int .i64 a1)] (.tup [.lit (.int .i64 r.1),.lit (.string r.2.1),.lit (.int .i64 r.2.2.1),.lit (.int .i64 r.2.2.2)]):=by
  unfold Dec.Shortest at h0
  refine ACalls.of_swp Tryz.func11 rfl (by decide) rfl (st0:=⟨88,[(0,.lit (.int .i64 kind0)),(1,.lit (.int .i64 a1))],[]⟩) rfl (bwp_ok (C:=[(0,12)]) ?_)
  obtain ⟨t19,et19,h1⟩:=bind_elim h0; clear h0
  conv=>whnf
  refine Gate.go ?_
  conv=>whnf
  refine CallN.by (v:=.lit (.bool t19)) (Dec.isFinite_ok et19) rfl rfl ?_
  obtain ⟨t20,et20,h2⟩:=letk_elim h1; clear h1
  conv=>whnf
  refine Nm.mk ⟨t20,et20,?_⟩
  rcases t20 with _ | _
  · have h3:=bif_f h2
    clear h2
    obtain ⟨⟨t24_0,t24_1,t24_2⟩,et24,h4⟩:=bind_elim h3; clear h3
    conv=>whnf
    refine Gate.go ?_
    conv=>whnf
    refine CallN.by (v:=.tup [.lit (.int .i64 t24_0),.lit (.string t24_1),.lit (.int .i64 t24_2)]) (Dec.exact_ok et24) rfl rfl ?_
    conv=>whnf
    unfold Dec.Shortest.l0 at h4
    refine LoopB.of (σ:=Int × Int) (ρ:=Int × ByteArray × Int × Int) (fun v:Int × Int=>Dec.Shortest.s0 kind0 a1 t24_1 t24_2 v.1 v.2) (fun v=>(⟨88,[(0,.lit (.int .i64 kind0)),(1,.lit (.int .i64 a1)),(4,.lit (.int .i64 v.1)),(8,.lit (.string t24_1)),(9,.lit (.int .i64 t24_2)),(10,.lit (.int .i64 v.2))],[]⟩:St)) (t24_0,1) h4 (BackS.by rfl (Sees.e ⟨.s,.s,.s,.s,.s,.s,trivial⟩)) ?_
    clear h4
    rintro K1 ⟨sign4,n10⟩ x1 hs0_0 hl1 hr1
    replace hs0_0:Dec.Shortest.s0 kind0 a1 t24_1 t24_2 sign4 n10 = some x1:=hs0_0
    unfold Dec.Shortest.s0 at hs0_0
    change bwp _ _ _ _ _ (⟨88,[(0,.lit (.int .i64 kind0)),(1,.lit (.int .i64 a1)),(4,.lit (.int .i64 sign4)),(8,.lit (.string t24_1)),(9,.lit (.int .i64 t24_2)),(10,.lit (.int .i64 n10))],[]⟩:St)
    obtain ⟨t29,et29,hs0_1⟩:=letk_elim hs0_0; clear hs0_0
    conv=>whnf
    refine Nm.mk ⟨t29,et29,?_⟩
    rcases t29 with _ | _
    · have hs0_2:=bif_f hs0_1
      clear hs0_1
      obtain ⟨yhs0_2_0,hs0_2u,ehs0_2_0⟩:=map_elim hs0_2
      have ehs0_2_0:=(hr1 _ ehs0_2_0.symm).symm
      subst ehs0_2_0
      obtain ⟨t81,et81,hs0_2u0⟩:=bind_elim hs0_2u; clear hs0_2u
      conv=>whnf
      refine Gate.go ?_
      conv=>whnf
      refine CallN.by (v:=.lit (.bool t81)) (Dec.away_ok et81) rfl rfl ?_
      obtain ⟨⟨t82_0,t82_1⟩,et82,hs0_2u1⟩:=bind_elim hs0_2u0; clear hs0_2u0
      conv=>whnf
      refine Gate.go ?_
      conv=>whnf
      refine CallN.by (v:=.tup [.lit (.string t82_0),.lit (.int .i64 t82_1)]) (Dec.to_ok et82) rfl rfl ?_
      have ehs0_2u1_0:=Option.some.inj hs0_2u1
      subst ehs0_2u1_0
      conv=>whnf
      exact Returns.pure (r:=.tup [.lit (.int .i64 sign4),.lit (.string t82_0),.lit (.int .i64 t82_1),.lit (.int .i64 0)]) rfl rfl rfl rfl ⟨rfl,rfl⟩
    have hs0_2:=bif_t hs0_1
    clear hs0_1
    obtain ⟨t35,et35,hs0_3⟩:=bind_elim hs0_2; clear hs0_2
    conv=>whnf
    refine Gate.go ?_
    conv=>whnf
    refine CallN.by (v:=.lit (.bool t35)) (Dec.away_ok et35) rfl rfl ?_
    obtain ⟨t38,et38,hs0_4⟩:=letk_elim hs0_3; clear hs0_3
    conv=>whnf
    refine Nm.mk ⟨t38,et38,?_⟩
    conv=>whnf
    refine Gate.go ?_
    conv=>whnf
    refine Nm.mk ⟨([t35,t38]).map (eB),rfl,?_⟩
    obtain ⟨t40,et40,hs0_5⟩:=letk_elim hs0_4; clear hs0_4
    conv=>whnf
    refine Nm.mk ⟨t40,by rw [et40,List.length_map],?_⟩
    conv=>whnf
    unfold Dec.Shortest.l1 at hs0_5
    refine LoopB.of (σ:=Int × (List Bool) × Int) (ρ:=(Int × Int) ⊕ (Int × ByteArray × Int × Int)) (fun v:Int × (List Bool) × Int=>Dec.Shortest.s1 kind0 a1 t24_1 t24_2 n10 t40 v.1 v.2.1 v.2.2) (fun v=>(⟨88,[(0,.lit (.int .i64 kind0)),(1,.lit (.int .i64 a1)),(4,.lit (.int .i64 v.1)),(8,.lit (.string t24_1)),(9,.lit (.int .i64 t24_2)),(10,.lit (.int .i64 n10)),(39,.ref 0 0 ((v.2.1.map (eB)).length)),(40,.lit (.int .i64 t40)),(41,.lit (.int .i64 v.2.2))],[.arr 1 (v.2.1.map (eB))]⟩:St)) (sign4,[t35,t38],0) hs0_5 (BackS.by rfl (Sees.of (Weak.objs (keep:=[0]) (frz:=[]) (m:=0) rfl (by decide) rfl rfl ⟨⟨_,rfl,.arr _ _⟩,⟨rfl,fun _ h=>by cases h⟩⟩ ⟨.s,.s,.s,.s,.s,.s,(.ref _ _ _ 0 rfl),.s,.s,trivial⟩))) ?_
    clear hs0_5
    rintro K2 ⟨sign4_1,t39,t41⟩ x2 hs1_0 hl2 hr2
    replace hs1_0:Dec.Shortest.s1 kind0 a1 t24_1 t24_2 n10 t40 sign4_1 t39 t41 = some x2:=hs1_0
    unfold Dec.Shortest.s1 at hs1_0
    change bwp _ _ _ _ _ (⟨88,[(0,.lit (.int .i64 kind0)),(1,.lit (.int .i64 a1)),(4,.lit (.int .i64 sign4_1)),(8,.lit (.string t24_1)),(9,.lit (.int .i64 t24_2)),(10,.lit (.int .i64 n10)),(39,.ref 0 0 ((t39.map (eB)).length)),(40,.lit (.int .i64 t40)),(41,.lit (.int .i64 t41))],[.arr 1 (t39.map (eB))]⟩:St)
    obtain ⟨t42,et42,hs1_1⟩:=letk_elim hs1_0; clear hs1_0
    conv=>whnf
    refine Nm.mk ⟨t42,et42,?_⟩
    rcases t42 with _ | _
    · have hs1_2:=bif_f hs1_1
      clear hs1_1
      obtain ⟨yhs1_2_0,hs1_2u,ehs1_2_0⟩:=map_elim hs1_2
      have ehs1_2_0:=(hr2 _ ehs1_2_0.symm).symm
      subst ehs1_2_0
      obtain ⟨t31,et31,hs1_2u0⟩:=letk_elim hs1_2u; clear hs1_2u
      conv=>whnf
      refine Nm.mk ⟨t31,et31,?_⟩
      exact BackS.by ⟨_,hl1 _ (Option.some.inj hs1_2u0).symm,rfl⟩ (Sees.e ⟨.s,.s,.s,.s,.s,.s,trivial⟩)
    have hs1_2:=bif_t hs1_1
    clear hs1_1
    obtain ⟨chs1_3,hs1_3⟩:=chk_elim hs1_2; clear hs1_2
    obtain ⟨t43,et43,hs1_4⟩:=letk_elim hs1_3; clear hs1_3
    conv=>whnf
    refine Side.mk (by simpa only [List.length_map] using chs1_3) ?_
    conv=>whnf
    refine Nm.mk ⟨t43,et43,?_⟩
    obtain ⟨t44,et44,hs1_5⟩:=bind_elim hs1_4; clear hs1_4
    conv=>whnf
    refine At.by et44 ?_
    conv=>whnf
    refine CutN.of (fun s=>∃ (more13:Bool) (t39_1:List Bool),Dec.Shortest.j0 kind0 a1 t24_1 t24_2 n10 t40 sign4_1 t41 more13 t39_1 = some x2 ∧ s = (⟨88,[(0,.lit (.int .i64 kind0)),(1,.lit (.int .i64 a1)),(4,.lit (.int .i64 sign4_1)),(8,.lit (.string t24_1)),(9,.lit (.int .i64 t24_2)),(10,.lit (.int .i64 n10)),(13,.lit (.bool more13)),(39,.ref 0 0 ((t39_1.map (eB)).length)),(40,.lit (.int .i64 t40)),(41,.lit (.int .i64 t41))],[.arr 1 (t39_1.map (eB))]⟩:St)) ?_ ?_
    · rcases t44 with _ | _
      · have hs1_6:=bif_f hs1_5
        clear hs1_5
        exact BackS.by ⟨_,_,hs1_6,rfl⟩ (Sees.of (Weak.objs (keep:=[0]) (frz:=[]) (m:=0) rfl (by decide) rfl rfl ⟨⟨_,rfl,.arr _ _⟩,⟨rfl,fun _ h=>by cases h⟩⟩ ⟨.s,.s,.s,.s,.s,.s,.s,(.ref _ _ _ 0 rfl),.s,.s,trivial⟩))
      have hs1_6:=bif_t hs1_5
      clear hs1_5
      obtain ⟨t49,et49,hs1_7⟩:=letk_elim hs1_6; clear hs1_6
      conv=>whnf
      refine Nm.mk ⟨t49,et49,?_⟩
      obtain ⟨t50,et50,hs1_8⟩:=letk_elim hs1_7; clear hs1_7
      conv=>whnf
      refine Nm.mk ⟨t50,et50,?_⟩
      rcases t50 with _ | _
      · have hs1_9:=bif_f hs1_8
        clear hs1_8
        exact BackS.by ⟨_,_,hs1_9,rfl⟩ (Sees.of (Weak.objs (keep:=[0]) (frz:=[]) (m:=0) rfl (by decide) rfl rfl ⟨⟨_,rfl,.arr _ _⟩,⟨rfl,fun _ h=>by cases h⟩⟩ ⟨.s,.s,.s,.s,.s,.s,.s,(.ref _ _ _ 0 rfl),.s,.s,trivial⟩))
      have hs1_9:=bif_t hs1_8
      clear hs1_8
      obtain ⟨t75_1,et75_1,hs1_10⟩:=letk_elim hs1_9; clear hs1_9
      conv=>whnf
      refine Nm.mk ⟨t75_1,et75_1,?_⟩
      exact BackS.by ⟨_,hl2 _ (Option.some.inj hs1_10).symm,rfl⟩ (Sees.of (Weak.objs (keep:=[0]) (frz:=[]) (m:=0) rfl (by decide) rfl rfl ⟨⟨_,rfl,.arr _ _⟩,⟨rfl,fun _ h=>by cases h⟩⟩ ⟨.s,.s,.s,.s,.s,.s,(.ref _ _ _ 0 rfl),.s,.s,trivial⟩))
    clear hs1_5
    rintro s ⟨more13,t39_1,hj0,rfl⟩
    unfold Dec.Shortest.j0 at hj0
    obtain ⟨⟨t57_0,t57_1⟩,et57,hj1⟩:=bind_elim hj0; clear hj0
    conv=>whnf
    refine Gate.go ?_
    conv=>whnf
    refine CallN.by (v:=.tup [.lit (.string t57_0),.lit (.int .i64 t57_1)]) (Dec.to_ok et57) rfl rfl ?_
    obtain ⟨⟨t65_0,t65_1,t65_2⟩,et65,hj2⟩:=bind_elim hj1; clear hj1
    conv=>whnf
    refine Gate.go ?_
    conv=>whnf
    refine CallN.by (v:=.tup [.lit (.int .i64 t65_0),.lit (.int .i64 t65_1),.lit (.int .i64 t65_2)]) (Dec.round_ok et65) rfl rfl ?_
    obtain ⟨t71,et71,hj3⟩:=letk_elim hj2; clear hj2
    conv=>whnf
    refine Nm.mk ⟨t71,et71,?_⟩
    rcases t71 with _ | _
    · have hj4:=bif_f hj3
      clear hj3
      obtain ⟨t75,et75,hj5⟩:=letk_elim hj4; clear hj4
      conv=>whnf
      refine Nm.mk ⟨t75,et75,?_⟩
      exact BackS.by ⟨_,hl2 _ (Option.some.inj hj5).symm,rfl⟩ (Sees.of (Weak.objs (keep:=[0]) (frz:=[]) (m:=0) rfl (by decide) rfl rfl ⟨⟨_,rfl,.arr _ _⟩,⟨rfl,fun _ h=>by cases h⟩⟩ ⟨.s,.s,.s,.s,.s,.s,(.ref _ _ _ 0 rfl),.s,.s,trivial⟩))
    have hj4:=bif_t hj3
    clear hj3
    have ehj4_0:=hr2 _ (Option.some.inj hj4).symm
    have ehj4_1:=hr1 _ ehj4_0.symm
    subst ehj4_1
    conv=>whnf
    exact Returns.pure (r:=.tup [.lit (.int .i64 sign4_1),.lit (.string t57_0),.lit (.int .i64 t57_1),.lit (.int .i64 0)]) rfl rfl rfl rfl ⟨rfl,rfl⟩
  have h3:=bif_t h2
  clear h2
  have eh3_0:=Option.some.inj h3
  subst eh3_0
  conv=>whnf
  exact Returns.pure (r:=.tup [.lit (.int .i64 0),.lit (.string (⟨#[]⟩)),.lit (.int .i64 0),.lit (.int .i64 2)]) rfl rfl rfl rfl ⟨rfl,rfl⟩
noncomputable def Dec.parts (kind0:Int) (a1:Int):Option (Int × ByteArray × Int) :=
  Option.bind (Dec.isFinite kind0 a1) fun t9 =>
  bif t9 then
    Option.bind (Dec.exact kind0 a1) fun (t12_0,t12_1,t12_2) =>
    some (t12_0,t12_1,t12_2)
  else
    Option.bind (Flt.Parts kind0 a1) fun (t19_0,t19_1,t19_2,t19_3) =>
    some (t19_0,⟨#[]⟩,0)
theorem Dec.parts_ok {kind0:Int} {a1:Int} {r:Int × ByteArray × Int} (h0:Dec.parts kind0 a1 = some r):Gives Tryz.prog 42 [.lit (.int .i64 kind0),.lit (.int .i64 a1)] (.tup [.lit (.int .i64 r.1),.lit (.string r.2.1),.lit (.int .i64 r.2.2)]):=by
  unfold Dec.parts at h0
  refine ACalls.of_swp Tryz.func42 rfl (by decide) rfl (st0:=⟨25,[(0,.lit (.int .i64 kind0)),(1,.lit (.int .i64 a1))],[]⟩) rfl (bwp_ok (C:=[]) ?_)
  obtain ⟨t9,et9,h1⟩:=bind_elim h0; clear h0
  conv=>whnf
  refine Gate.go ?_
  conv=>whnf
  refine CallN.by (v:=.lit (.bool t9)) (Dec.isFinite_ok et9) rfl rfl ?_
  rcases t9 with _ | _
  · have h2:=bif_f h1
    clear h1
    obtain ⟨⟨t19_0,t19_1,t19_2,t19_3⟩,et19,h3⟩:=bind_elim h2; clear h2
    conv=>whnf
    refine Gate.go ?_
    conv=>whnf
    refine CallN.by (v:=.tup [.lit (.int .i64 t19_0),.lit (.int .i64 t19_1),.lit (.int .i64 t19_2),.lit (.int .i64 t19_3)]) (Flt.Parts_ok et19) rfl rfl ?_
    have eh3_0:=Option.some.inj h3
    subst eh3_0
    conv=>whnf
    exact Returns.pure (r:=.tup [.lit (.int .i64 t19_0),.lit (.string (⟨#[]⟩)),.lit (.int .i64 0)]) rfl rfl rfl rfl ⟨rfl,rfl⟩
  have h2:=bif_t h1
  clear h1
  obtain ⟨⟨t12_0,t12_1,t12_2⟩,et12,h3⟩:=bind_elim h2; clear h2
  conv=>whnf
  refine Gate.go ?_
  conv=>whnf
  refine CallN.by (v:=.tup [.lit (.int .i64 t12_0),.lit (.string t12_1),.lit (.int .i64 t12_2)]) (Dec.exact_ok et12) rfl rfl ?_
  have eh3_0:=Option.some.inj h3
  subst eh3_0
  conv=>whnf
  exact Returns.pure (r:=.tup [.lit (.int .i64 t12_0),.lit (.string t12_1),.lit (.int .i64 t12_2)]) rfl rfl rfl rfl ⟨rfl,rfl⟩
noncomputable def Dec.minus (sign0:Int):Option ByteArray :=
  letk (sign0 == (1:Int)) fun t4 =>
  bif t4 then
    some ⟨#[45]⟩
  else
    some ⟨#[]⟩
theorem Dec.minus_ok {sign0:Int} {r:ByteArray} (h0:Dec.minus sign0 = some r):Gives Tryz.prog 43 [.lit (.int .i64 sign0)] (.lit (.string r)):=by
  unfold Dec.minus at h0
  refine ACalls.of_swp Tryz.func43 rfl (by decide) rfl (st0:=⟨5,[(0,.lit (.int .i64 sign0))],[]⟩) rfl (bwp_ok (C:=[]) ?_)
  obtain ⟨t4,et4,h1⟩:=letk_elim h0; clear h0
  conv=>whnf
  refine Nm.mk ⟨t4,et4,?_⟩
  rcases t4 with _ | _
  · have h2:=bif_f h1
    clear h1
    have eh2_0:=Option.some.inj h2
    subst eh2_0
    conv=>whnf
    exact Returns.pure (r:=.lit (.string (⟨#[]⟩))) rfl rfl rfl rfl ⟨rfl,rfl⟩
  have h2:=bif_t h1
  clear h1
  have eh2_0:=Option.some.inj h2
  subst eh2_0
  conv=>whnf
  exact Returns.pure (r:=.lit (.string (⟨#[45]⟩))) rfl rfl rfl rfl ⟨rfl,rfl⟩
noncomputable def Dec.Plain.j0 (t27_0:Int) (t27_2:Int) (t45:ByteArray):Option (ByteArray × Int) :=
  letk (IntKind.i64.wrap (t27_2 + (1:Int))) fun t88 =>
  letk ((t45.size:Int)) fun t90 =>
  letk (IntKind.i64.wrap (t88 - t90)) fun t91 =>
  letk (if t91 > 0 then t91 else 0) fun t92 =>
  Option.bind (Strs.Repeat ⟨#[48]⟩ t92) fun t93 =>
  chk (((t45.size + t93.size:Nat):Int) ≤ 9223372036854775807) <|
  letk (t45 ++ t93) fun t94 =>
  Option.bind (Dec.minus t27_0) fun t96 =>
  chk (0 ≤ t27_2 ∧ t27_2 ≤ (t94.size:Int)) <|
  letk (t94.extract 0 t27_2.toNat) fun t99 =>
  chk (((t96.size + t99.size:Nat):Int) ≤ 9223372036854775807) <|
  letk (t96 ++ t99) fun t100 =>
  chk (((t100.size + (⟨#[46]⟩:ByteArray).size:Nat):Int) ≤ 9223372036854775807) <|
  letk (t100 ++ (⟨#[46]⟩:ByteArray)) fun t101 =>
  chk (0 ≤ t27_2 ∧ t27_2 ≤ (t94.size:Int)) <|
  letk (t94.extract t27_2.toNat t94.size) fun t104 =>
  chk (((t101.size + t104.size:Nat):Int) ≤ 9223372036854775807) <|
  letk (t101 ++ t104) fun t105 =>
  some (t105,0)
noncomputable def Dec.Plain.j1 (t27_0:Int) (t27_2:Int) (t45:ByteArray) (t46:Bool):Option (ByteArray × Int) :=
  bif t46 then
    Option.bind (Dec.minus t27_0) fun t54 =>
    chk (0 ≤ (1:Int) ∧ (1:Int) ≤ (t45.size:Int)) <|
    letk (t45.extract 0 ((1:Int).toNat)) fun t56 =>
    chk (((t54.size + t56.size:Nat):Int) ≤ 9223372036854775807) <|
    letk (t54 ++ t56) fun t57 =>
    chk (((t57.size + (⟨#[46]⟩:ByteArray).size:Nat):Int) ≤ 9223372036854775807) <|
    letk (t57 ++ (⟨#[46]⟩:ByteArray)) fun t58 =>
    chk (0 ≤ (1:Int) ∧ (1:Int) ≤ (t45.size:Int)) <|
    letk (t45.extract (1:Int).toNat t45.size) fun t60 =>
    chk (((t58.size + t60.size:Nat):Int) ≤ 9223372036854775807) <|
    letk (t58 ++ t60) fun t61 =>
    letk ((t45.size:Int)) fun t63 =>
    letk (IntKind.i64.wrap (t63 - (1:Int))) fun t64 =>
    letk (if t64 < 1 then t64 else 1) fun t65 =>
    letk (IntKind.i64.wrap ((1:Int) - t65)) fun t66 =>
    Option.bind (Strs.Repeat ⟨#[48]⟩ t66) fun t67 =>
    chk (((t61.size + t67.size:Nat):Int) ≤ 9223372036854775807) <|
    letk (t61 ++ t67) fun t68 =>
    chk (((t68.size + (⟨#[69]⟩:ByteArray).size:Nat):Int) ≤ 9223372036854775807) <|
    letk (t68 ++ (⟨#[69]⟩:ByteArray)) fun t69 =>
    letk (IntKind.i64.wrap (t27_2 - (1:Int))) fun t71 =>
    Option.bind (Strconv.Itoa t71) fun t72 =>
    chk (((t69.size + t72.size:Nat):Int) ≤ 9223372036854775807) <|
    letk (t69 ++ t72) fun t73 =>
    some (t73,0)
  else
    letk (decide (t27_2 ≤ (0:Int))) fun t76 =>
    bif t76 then
      Option.bind (Dec.minus t27_0) fun t78 =>
      chk (((t78.size + (⟨#[48,46]⟩:ByteArray).size:Nat):Int) ≤ 9223372036854775807) <|
      letk (t78 ++ (⟨#[48,46]⟩:ByteArray)) fun t79 =>
      letk (IntKind.i64.wrap (0 - t27_2)) fun t81 =>
      Option.bind (Strs.Repeat ⟨#[48]⟩ t81) fun t82 =>
      chk (((t79.size + t82.size:Nat):Int) ≤ 9223372036854775807) <|
      letk (t79 ++ t82) fun t83 =>
      chk (((t83.size + t45.size:Nat):Int) ≤ 9223372036854775807) <|
      letk (t83 ++ t45) fun t85 =>
      some (t85,0)
    else
      Dec.Plain.j0 t27_0 t27_2 t45
noncomputable def Dec.Plain (kind0:Int) (a1:Int):Option (ByteArray × Int) :=
  Option.bind (Flt.Valid kind0 a1) fun t14 =>
  letk (!t14) fun t15 =>
  bif t15 then
    some (⟨#[]⟩,2)
  else
    Option.bind (Dec.special kind0 a1) fun (t19_0,t19_1) =>
    bif t19_1 then
      some (t19_0,0)
    else
      Option.bind (Dec.Shortest kind0 a1) fun (t27_0,t27_1,t27_2,t27_3) =>
      letk (t27_3 != (0:Int)) fun t33 =>
      bif t33 then
        Option.bind (Dec.parts kind0 a1) fun (t37_0,t37_1,t37_2) =>
        Option.bind (Dec.minus t37_0) fun t42 =>
        chk (((t42.size + (⟨#[48,46,48]⟩:ByteArray).size:Nat):Int) ≤ 9223372036854775807) <|
        letk (t42 ++ (⟨#[48,46,48]⟩:ByteArray)) fun t43 =>
        some (t43,0)
      else
        Option.bind (Strs.TrimRight t27_1 ⟨#[48]⟩) fun t45 =>
        letk (decide (t27_2 < ((-3):Int))) fun t48 =>
        bif t48 then
          Dec.Plain.j1 t27_0 t27_2 t45 true
        else
          letk (decide (t27_2 > (9:Int))) fun t51 =>
          Dec.Plain.j1 t27_0 t27_2 t45 t51
theorem Dec.Plain_ok {kind0:Int} {a1:Int} {r:ByteArray × Int} (h0:Dec.Plain kind0 a1 = some r):Gives Tryz.prog 13 [.lit (.int .i64 kind0),.lit (.int .i64 a1)] (.tup [.lit (.string r.1),.lit (.int .i64 r.2)]):=by
  unfold Dec.Plain at h0
  refine ACalls.of_swp Tryz.func13 rfl (by decide) rfl (st0:=⟨106,[(0,.lit (.int .i64 kind0)),(1,.lit (.int .i64 a1))],[]⟩) rfl (bwp_ok (C:=[(0,15),(56,25)]) ?_)
  obtain ⟨t14,et14,h1⟩:=bind_elim h0; clear h0
  conv=>whnf
  refine Gate.go ?_
  conv=>whnf
  refine CallN.by (v:=.lit (.bool t14)) (Flt.Valid_ok et14) rfl rfl ?_
  obtain ⟨t15,et15,h2⟩:=letk_elim h1; clear h1
  conv=>whnf
  refine Nm.mk ⟨t15,et15,?_⟩
  rcases t15 with _ | _
  · have h3:=bif_f h2
    clear h2
    obtain ⟨⟨t19_0,t19_1⟩,et19,h4⟩:=bind_elim h3; clear h3
    conv=>whnf
    refine Gate.go ?_
    conv=>whnf
    refine CallN.by (v:=.tup [.lit (.string t19_0),.lit (.bool t19_1)]) (Dec.special_ok et19) rfl rfl ?_
    rcases t19_1 with _ | _
    · have h5:=bif_f h4
      clear h4
      obtain ⟨⟨t27_0,t27_1,t27_2,t27_3⟩,et27,h6⟩:=bind_elim h5; clear h5
      conv=>whnf
      refine Gate.go ?_
      conv=>whnf
      refine CallN.by (v:=.tup [.lit (.int .i64 t27_0),.lit (.string t27_1),.lit (.int .i64 t27_2),.lit (.int .i64 t27_3)]) (Dec.Shortest_ok et27) rfl rfl ?_
      obtain ⟨t33,et33,h7⟩:=letk_elim h6; clear h6
      conv=>whnf
      refine Nm.mk ⟨t33,et33,?_⟩
      rcases t33 with _ | _
      · have h8:=bif_f h7
        clear h7
        obtain ⟨t45,et45,h9⟩:=bind_elim h8; clear h8
        conv=>whnf
        refine Gate.go ?_
        conv=>whnf
        refine CallN.by (v:=.lit (.string t45)) (Strs.TrimRight_ok et45) rfl rfl ?_
        conv=>whnf
        refine CutN.of (fun s=>Dec.Plain.j0 t27_0 t27_2 t45 = some r ∧ s = (⟨106,[(8,.lit (.int .i64 t27_0)),(9,.lit (.string t45)),(10,.lit (.int .i64 t27_2))],[]⟩:St)) ?_ ?_
        · conv=>whnf
          refine CutN.of (fun s=>∃ (t46:Bool),Dec.Plain.j1 t27_0 t27_2 t45 t46 = some r ∧ s = (⟨106,[(8,.lit (.int .i64 t27_0)),(9,.lit (.string t45)),(10,.lit (.int .i64 t27_2)),(46,.lit (.bool t46))],[]⟩:St)) ?_ ?_
          · obtain ⟨t48,et48,h10⟩:=letk_elim h9; clear h9
            conv=>whnf
            refine Nm.mk ⟨t48,et48,?_⟩
            rcases t48 with _ | _
            · have h11:=bif_f h10
              clear h10
              obtain ⟨t51,et51,h12⟩:=letk_elim h11; clear h11
              conv=>whnf
              refine Nm.mk ⟨t51,et51,?_⟩
              exact BackS.by ⟨_,h12,rfl⟩ (Sees.e ⟨.s,.s,.s,.s,trivial⟩)
            have h11:=bif_t h10
            clear h10
            exact BackS.by ⟨_,h11,rfl⟩ (Sees.e ⟨.s,.s,.s,.s,trivial⟩)
          clear h9
          rintro s ⟨t46,hj0,rfl⟩
          unfold Dec.Plain.j1 at hj0
          rcases t46 with _ | _
          · have hj1:=bif_f hj0
            clear hj0
            obtain ⟨t76,et76,hj2⟩:=letk_elim hj1; clear hj1
            conv=>whnf
            refine Nm.mk ⟨t76,et76,?_⟩
            rcases t76 with _ | _
            · have hj3:=bif_f hj2
              clear hj2
              exact BackS.by ⟨hj3,rfl⟩ (Sees.e ⟨.s,.s,.s,trivial⟩)
            have hj3:=bif_t hj2
            clear hj2
            obtain ⟨t78,et78,hj4⟩:=bind_elim hj3; clear hj3
            conv=>whnf
            refine Gate.go ?_
            conv=>whnf
            refine CallN.by (v:=.lit (.string t78)) (Dec.minus_ok et78) rfl rfl ?_
            obtain ⟨chj5,hj5⟩:=chk_elim hj4; clear hj4
            obtain ⟨t79,et79,hj6⟩:=letk_elim hj5; clear hj5
            conv=>whnf
            refine Side.mk chj5 ?_
            conv=>whnf
            refine Nm.mk ⟨t79,et79,?_⟩
            obtain ⟨t81,et81,hj7⟩:=letk_elim hj6; clear hj6
            conv=>whnf
            refine Nm.mk ⟨t81,et81,?_⟩
            obtain ⟨t82,et82,hj8⟩:=bind_elim hj7; clear hj7
            conv=>whnf
            refine Gate.go ?_
            conv=>whnf
            refine CallN.by (v:=.lit (.string t82)) (Strs.Repeat_ok et82) rfl rfl ?_
            obtain ⟨chj9,hj9⟩:=chk_elim hj8; clear hj8
            obtain ⟨t83,et83,hj10⟩:=letk_elim hj9; clear hj9
            conv=>whnf
            refine Side.mk chj9 ?_
            conv=>whnf
            refine Nm.mk ⟨t83,et83,?_⟩
            obtain ⟨chj11,hj11⟩:=chk_elim hj10; clear hj10
            obtain ⟨t85,et85,hj12⟩:=letk_elim hj11; clear hj11
            conv=>whnf
            refine Side.mk chj11 ?_
            conv=>whnf
            refine Nm.mk ⟨t85,et85,?_⟩
            have ehj12_0:=Option.some.inj hj12
            subst ehj12_0
            conv=>whnf
            exact Returns.pure (r:=.tup [.lit (.string t85),.lit (.int .i64 0)]) rfl rfl rfl rfl ⟨rfl,rfl⟩
          have hj1:=bif_t hj0
          clear hj0
          conv=>whnf
          refine DrawB.sees (Sees.of (Weak.objs (k:=106) (keep:=[]) (frz:=[]) (m:=0) (ts:=[(8,.lit (.int .i64 t27_0)),(9,.lit (.string t45)),(10,.lit (.int .i64 t27_2))]) (hs:=[]) rfl (by decide) rfl rfl ⟨rfl,fun _ h=>by cases h⟩ ⟨.s,.s,.s,trivial⟩)) ?_
          refine DrawB.ofG [none,none,none,none,none,none,none,none,none,none,none,none,none,none,none,none,none,none,none,none,none,none,none] Tryz_mixed (by kernel_rfl) (by kernel_rfl) ?_
          conv=>whnf
          refine DNodeB.of (.lit (.int .i64 t27_0)) ?_ ?_
          · conv=>whnf
            rfl
          obtain ⟨t54,et54,hj2⟩:=bind_elim hj1; clear hj1
          conv=>whnf
          refine DNodeB.of (.lit (.string t54)) ?_ ?_
          · conv=>whnf
            refine CallN.by (v:=.lit (.string t54)) (Dec.minus_ok et54) rfl rfl ?_
            conv=>whnf
            rfl
          conv=>whnf
          refine DNodeB.of (.lit (.string t45)) ?_ ?_
          · conv=>whnf
            rfl
          obtain ⟨chj3,hj3⟩:=chk_elim hj2; clear hj2
          obtain ⟨t56,et56,hj4⟩:=letk_elim hj3; clear hj3
          conv=>whnf
          refine DNodeB.of (.lit (.string t56)) ?_ ?_
          · conv=>whnf
            refine Side.mk chj3 ?_
            conv=>whnf
            refine Nm.mk ⟨t56,et56,?_⟩
            conv=>whnf
            rfl
          obtain ⟨chj5,hj5⟩:=chk_elim hj4; clear hj4
          obtain ⟨t57,et57,hj6⟩:=letk_elim hj5; clear hj5
          conv=>whnf
          refine DNodeB.of (.lit (.string t57)) ?_ ?_
          · conv=>whnf
            refine Side.mk chj5 ?_
            conv=>whnf
            refine Nm.mk ⟨t57,et57,?_⟩
            conv=>whnf
            rfl
          obtain ⟨chj7,hj7⟩:=chk_elim hj6; clear hj6
          obtain ⟨t58,et58,hj8⟩:=letk_elim hj7; clear hj7
          conv=>whnf
          refine DNodeB.of (.lit (.string t58)) ?_ ?_
          · conv=>whnf
            refine Side.mk chj7 ?_
            conv=>whnf
            refine Nm.mk ⟨t58,et58,?_⟩
            conv=>whnf
            rfl
          conv=>whnf
          refine DNodeB.of (.lit (.string t45)) ?_ ?_
          · conv=>whnf
            rfl
          obtain ⟨chj9,hj9⟩:=chk_elim hj8; clear hj8
          obtain ⟨t60,et60,hj10⟩:=letk_elim hj9; clear hj9
          conv=>whnf
          refine DNodeB.of (.lit (.string t60)) ?_ ?_
          · conv=>whnf
            refine Side.mk chj9 ?_
            conv=>whnf
            refine Nm.mk ⟨t60,et60,?_⟩
            conv=>whnf
            rfl
          obtain ⟨chj11,hj11⟩:=chk_elim hj10; clear hj10
          obtain ⟨t61,et61,hj12⟩:=letk_elim hj11; clear hj11
          conv=>whnf
          refine DNodeB.of (.lit (.string t61)) ?_ ?_
          · conv=>whnf
            refine Side.mk chj11 ?_
            conv=>whnf
            refine Nm.mk ⟨t61,et61,?_⟩
            conv=>whnf
            rfl
          conv=>whnf
          refine DNodeB.of (.lit (.string t45)) ?_ ?_
          · conv=>whnf
            rfl
          obtain ⟨t63,et63,hj13⟩:=letk_elim hj12; clear hj12
          conv=>whnf
          refine DNodeB.of (.lit (.int .i64 t63)) ?_ ?_
          · conv=>whnf
            refine Nm.mk ⟨t63,et63,?_⟩
            conv=>whnf
            rfl
          obtain ⟨t64,et64,hj14⟩:=letk_elim hj13; clear hj13
          conv=>whnf
          refine DNodeB.of (.lit (.int .i64 t64)) ?_ ?_
          · conv=>whnf
            refine Nm.mk ⟨t64,et64,?_⟩
            conv=>whnf
            rfl
          obtain ⟨t65,et65,hj15⟩:=letk_elim hj14; clear hj14
          conv=>whnf
          refine DNodeB.of (.lit (.int .i64 t65)) ?_ ?_
          · conv=>whnf
            refine Nm.mk ⟨t65,et65,?_⟩
            conv=>whnf
            rfl
          obtain ⟨t66,et66,hj16⟩:=letk_elim hj15; clear hj15
          conv=>whnf
          refine DNodeB.of (.lit (.int .i64 t66)) ?_ ?_
          · conv=>whnf
            refine Nm.mk ⟨t66,et66,?_⟩
            conv=>whnf
            rfl
          obtain ⟨t67,et67,hj17⟩:=bind_elim hj16; clear hj16
          conv=>whnf
          refine DNodeB.of (.lit (.string t67)) ?_ ?_
          · conv=>whnf
            refine CallN.by (v:=.lit (.string t67)) (Strs.Repeat_ok et67) rfl rfl ?_
            conv=>whnf
            rfl
          obtain ⟨chj18,hj18⟩:=chk_elim hj17; clear hj17
          obtain ⟨t68,et68,hj19⟩:=letk_elim hj18; clear hj18
          conv=>whnf
          refine DNodeB.of (.lit (.string t68)) ?_ ?_
          · conv=>whnf
            refine Side.mk chj18 ?_
            conv=>whnf
            refine Nm.mk ⟨t68,et68,?_⟩
            conv=>whnf
            rfl
          obtain ⟨chj20,hj20⟩:=chk_elim hj19; clear hj19
          obtain ⟨t69,et69,hj21⟩:=letk_elim hj20; clear hj20
          conv=>whnf
          refine DNodeB.of (.lit (.string t69)) ?_ ?_
          · conv=>whnf
            refine Side.mk chj20 ?_
            conv=>whnf
            refine Nm.mk ⟨t69,et69,?_⟩
            conv=>whnf
            rfl
          conv=>whnf
          refine DNodeB.of (.lit (.int .i64 t27_2)) ?_ ?_
          · conv=>whnf
            rfl
          obtain ⟨t71,et71,hj22⟩:=letk_elim hj21; clear hj21
          conv=>whnf
          refine DNodeB.of (.lit (.int .i64 t71)) ?_ ?_
          · conv=>whnf
            refine Nm.mk ⟨t71,et71,?_⟩
            conv=>whnf
            rfl
          obtain ⟨t72,et72,hj23⟩:=bind_elim hj22; clear hj22
          conv=>whnf
          refine DNodeB.of (.lit (.string t72)) ?_ ?_
          · conv=>whnf
            refine CallN.by (v:=.lit (.string t72)) (Strconv.Itoa_ok et72) rfl rfl ?_
            conv=>whnf
            rfl
          obtain ⟨chj24,hj24⟩:=chk_elim hj23; clear hj23
          obtain ⟨t73,et73,hj25⟩:=letk_elim hj24; clear hj24
          conv=>whnf
          refine DNodeB.of (.lit (.string t73)) ?_ ?_
          · conv=>whnf
            refine Side.mk chj24 ?_
            conv=>whnf
            refine Nm.mk ⟨t73,et73,?_⟩
            conv=>whnf
            rfl
          conv=>whnf
          refine DNodeB.of (.lit (.string t73)) ?_ ?_
          · conv=>whnf
            rfl
          conv=>whnf
          refine DNodeB.of (.lit (.int .i64 0)) ?_ ?_
          · conv=>whnf
            rfl
          have ehj25_0:=Option.some.inj hj25
          subst ehj25_0
          conv=>whnf
          exact Returns.pure (r:=.tup [.lit (.string t73),.lit (.int .i64 0)]) rfl rfl rfl rfl ⟨rfl,rfl⟩
        clear h9
        rintro s ⟨hj0,rfl⟩
        unfold Dec.Plain.j0 at hj0
        obtain ⟨t88,et88,hj1⟩:=letk_elim hj0; clear hj0
        conv=>whnf
        refine Nm.mk ⟨t88,et88,?_⟩
        obtain ⟨t90,et90,hj2⟩:=letk_elim hj1; clear hj1
        conv=>whnf
        refine Nm.mk ⟨t90,et90,?_⟩
        obtain ⟨t91,et91,hj3⟩:=letk_elim hj2; clear hj2
        conv=>whnf
        refine Nm.mk ⟨t91,et91,?_⟩
        obtain ⟨t92,et92,hj4⟩:=letk_elim hj3; clear hj3
        conv=>whnf
        refine Nm.mk ⟨t92,et92,?_⟩
        obtain ⟨t93,et93,hj5⟩:=bind_elim hj4; clear hj4
        conv=>whnf
        refine Gate.go ?_
        conv=>whnf
        refine CallN.by (v:=.lit (.string t93)) (Strs.Repeat_ok et93) rfl rfl ?_
        obtain ⟨chj6,hj6⟩:=chk_elim hj5; clear hj5
        obtain ⟨t94,et94,hj7⟩:=letk_elim hj6; clear hj6
        conv=>whnf
        refine Side.mk chj6 ?_
        conv=>whnf
        refine Nm.mk ⟨t94,et94,?_⟩
        conv=>whnf
        refine DrawB.sees (Sees.of (Weak.objs (k:=106) (keep:=[]) (frz:=[]) (m:=0) (ts:=[(8,.lit (.int .i64 t27_0)),(9,.lit (.string t94)),(10,.lit (.int .i64 t27_2))]) (hs:=[]) rfl (by decide) rfl rfl ⟨rfl,fun _ h=>by cases h⟩ ⟨.s,.s,.s,trivial⟩)) ?_
        refine DrawB.ofG [none,none,none,none,none,none,none,none,none,none,none,none,none] Tryz_mixed (by kernel_rfl) (by kernel_rfl) ?_
        conv=>whnf
        refine DNodeB.of (.lit (.int .i64 t27_0)) ?_ ?_
        · conv=>whnf
          rfl
        obtain ⟨t96,et96,hj8⟩:=bind_elim hj7; clear hj7
        conv=>whnf
        refine DNodeB.of (.lit (.string t96)) ?_ ?_
        · conv=>whnf
          refine CallN.by (v:=.lit (.string t96)) (Dec.minus_ok et96) rfl rfl ?_
          conv=>whnf
          rfl
        conv=>whnf
        refine DNodeB.of (.lit (.string t94)) ?_ ?_
        · conv=>whnf
          rfl
        conv=>whnf
        refine DNodeB.of (.lit (.int .i64 t27_2)) ?_ ?_
        · conv=>whnf
          rfl
        obtain ⟨chj9,hj9⟩:=chk_elim hj8; clear hj8
        obtain ⟨t99,et99,hj10⟩:=letk_elim hj9; clear hj9
        conv=>whnf
        refine DNodeB.of (.lit (.string t99)) ?_ ?_
        · conv=>whnf
          refine Side.mk chj9 ?_
          conv=>whnf
          refine Nm.mk ⟨t99,et99,?_⟩
          conv=>whnf
          rfl
        obtain ⟨chj11,hj11⟩:=chk_elim hj10; clear hj10
        obtain ⟨t100,et100,hj12⟩:=letk_elim hj11; clear hj11
        conv=>whnf
        refine DNodeB.of (.lit (.string t100)) ?_ ?_
        · conv=>whnf
          refine Side.mk chj11 ?_
          conv=>whnf
          refine Nm.mk ⟨t100,et100,?_⟩
          conv=>whnf
          rfl
        obtain ⟨chj13,hj13⟩:=chk_elim hj12; clear hj12
        obtain ⟨t101,et101,hj14⟩:=letk_elim hj13; clear hj13
        conv=>whnf
        refine DNodeB.of (.lit (.string t101)) ?_ ?_
        · conv=>whnf
          refine Side.mk chj13 ?_
          conv=>whnf
          refine Nm.mk ⟨t101,et101,?_⟩
          conv=>whnf
          rfl
        conv=>whnf
        refine DNodeB.of (.lit (.string t94)) ?_ ?_
        · conv=>whnf
          rfl
        conv=>whnf
        refine DNodeB.of (.lit (.int .i64 t27_2)) ?_ ?_
        · conv=>whnf
          rfl
        obtain ⟨chj15,hj15⟩:=chk_elim hj14; clear hj14
        obtain ⟨t104,et104,hj16⟩:=letk_elim hj15; clear hj15
        conv=>whnf
        refine DNodeB.of (.lit (.string t104)) ?_ ?_
        · conv=>whnf
          refine Side.mk chj15 ?_
          conv=>whnf
          refine Nm.mk ⟨t104,et104,?_⟩
          conv=>whnf
          rfl
        obtain ⟨chj17,hj17⟩:=chk_elim hj16; clear hj16
        obtain ⟨t105,et105,hj18⟩:=letk_elim hj17; clear hj17
        conv=>whnf
        refine DNodeB.of (.lit (.string t105)) ?_ ?_
        · conv=>whnf
          refine Side.mk chj17 ?_
          conv=>whnf
          refine Nm.mk ⟨t105,et105,?_⟩
          conv=>whnf
          rfl
        conv=>whnf
        refine DNodeB.of (.lit (.string t105)) ?_ ?_
        · conv=>whnf
          rfl
        conv=>whnf
        refine DNodeB.of (.lit (.int .i64 0)) ?_ ?_
        · conv=>whnf
          rfl
        have ehj18_0:=Option.some.inj hj18
        subst ehj18_0
        conv=>whnf
        exact Returns.pure (r:=.tup [.lit (.string t105),.lit (.int .i64 0)]) rfl rfl rfl rfl ⟨rfl,rfl⟩
      have h8:=bif_t h7
      clear h7
      obtain ⟨⟨t37_0,t37_1,t37_2⟩,et37,h9⟩:=bind_elim h8; clear h8
      conv=>whnf
      refine Gate.go ?_
      conv=>whnf
      refine CallN.by (v:=.tup [.lit (.int .i64 t37_0),.lit (.string t37_1),.lit (.int .i64 t37_2)]) (Dec.parts_ok et37) rfl rfl ?_
      obtain ⟨t42,et42,h10⟩:=bind_elim h9; clear h9
      conv=>whnf
      refine Gate.go ?_
      conv=>whnf
      refine CallN.by (v:=.lit (.string t42)) (Dec.minus_ok et42) rfl rfl ?_
      obtain ⟨ch11,h11⟩:=chk_elim h10; clear h10
      obtain ⟨t43,et43,h12⟩:=letk_elim h11; clear h11
      conv=>whnf
      refine Side.mk ch11 ?_
      conv=>whnf
      refine Nm.mk ⟨t43,et43,?_⟩
      have eh12_0:=Option.some.inj h12
      subst eh12_0
      conv=>whnf
      exact Returns.pure (r:=.tup [.lit (.string t43),.lit (.int .i64 0)]) rfl rfl rfl rfl ⟨rfl,rfl⟩
    have h5:=bif_t h4
    clear h4
    have eh5_0:=Option.some.inj h5
    subst eh5_0
    conv=>whnf
    exact Returns.pure (r:=.tup [.lit (.string t19_0),.lit (.int .i64 0)]) rfl rfl rfl rfl ⟨rfl,rfl⟩
  have h3:=bif_t h2
  clear h2
  have eh3_0:=Option.some.inj h3
  subst eh3_0
  conv=>whnf
  exact Returns.pure (r:=.tup [.lit (.string (⟨#[]⟩)),.lit (.int .i64 2)]) rfl rfl rfl rfl ⟨rfl,rfl⟩
noncomputable def Law2.Awake :Option Bool :=
  Option.bind (Dec.Read ⟨#[48,46,49]⟩ 8 0) fun (t12_0,t12_1,t12_2) =>
  Option.bind (Dec.Plain 8 t12_0) fun (t18_0,t18_1) =>
  Option.bind (Dec.Read ⟨#[49,101,50,50]⟩ 8 0) fun (t22_0,t22_1,t22_2) =>
  Option.bind (Dec.Plain 8 t22_0) fun (t28_0,t28_1) =>
  letk (t12_2 == (0:Int)) fun t32 =>
  bif t32 then
    letk (t18_1 == (0:Int)) fun t35 =>
    bif t35 then
      letk (t18_0.toList == (⟨#[48,46,49]⟩:ByteArray).toList) fun t39 =>
      bif t39 then
        letk (t22_2 == (0:Int)) fun t43 =>
        bif t43 then
          letk (t28_1 == (0:Int)) fun t47 =>
          bif t47 then
            letk (t28_0.toList == (⟨#[49,46,48,69,50,50]⟩:ByteArray).toList) fun t51 =>
            some t51
          else
            some false
        else
          some false
      else
        some false
    else
      some false
  else
    some false
theorem Law2.Awake_ok {r:Bool} (h0:Law2.Awake = some r):Gives Tryz.prog 15 [] (.lit (.bool r)):=by
  unfold Law2.Awake at h0
  refine ACalls.of_swp Tryz.func15 rfl (by decide) rfl (st0:=⟨53,[],[]⟩) rfl (bwp_ok (C:=[]) ?_)
  obtain ⟨⟨t12_0,t12_1,t12_2⟩,et12,h1⟩:=bind_elim h0; clear h0
  conv=>whnf
  refine Gate.go ?_
  conv=>whnf
  refine CallN.by (v:=.tup [.lit (.int .i64 t12_0),.lit (.int .i64 t12_1),.lit (.int .i64 t12_2)]) (Dec.Read_ok et12) rfl rfl ?_
  obtain ⟨⟨t18_0,t18_1⟩,et18,h2⟩:=bind_elim h1; clear h1
  conv=>whnf
  refine Gate.go ?_
  conv=>whnf
  refine CallN.by (v:=.tup [.lit (.string t18_0),.lit (.int .i64 t18_1)]) (Dec.Plain_ok et18) rfl rfl ?_
  obtain ⟨⟨t22_0,t22_1,t22_2⟩,et22,h3⟩:=bind_elim h2; clear h2
  conv=>whnf
  refine Gate.go ?_
  conv=>whnf
  refine CallN.by (v:=.tup [.lit (.int .i64 t22_0),.lit (.int .i64 t22_1),.lit (.int .i64 t22_2)]) (Dec.Read_ok et22) rfl rfl ?_
  obtain ⟨⟨t28_0,t28_1⟩,et28,h4⟩:=bind_elim h3; clear h3
  conv=>whnf
  refine Gate.go ?_
  conv=>whnf
  refine CallN.by (v:=.tup [.lit (.string t28_0),.lit (.int .i64 t28_1)]) (Dec.Plain_ok et28) rfl rfl ?_
  obtain ⟨t32,et32,h5⟩:=letk_elim h4; clear h4
  conv=>whnf
  refine Nm.mk ⟨t32,et32,?_⟩
  rcases t32 with _ | _
  · have h6:=bif_f h5
    clear h5
    have eh6_0:=Option.some.inj h6
    subst eh6_0
    conv=>whnf
    exact Returns.pure (r:=.lit (.bool false)) rfl rfl rfl rfl ⟨rfl,rfl⟩
  have h6:=bif_t h5
  clear h5
  obtain ⟨t35,et35,h7⟩:=letk_elim h6; clear h6
  conv=>whnf
  refine Nm.mk ⟨t35,et35,?_⟩
  rcases t35 with _ | _
  · have h8:=bif_f h7
    clear h7
    have eh8_0:=Option.some.inj h8
    subst eh8_0
    conv=>whnf
    exact Returns.pure (r:=.lit (.bool false)) rfl rfl rfl rfl ⟨rfl,rfl⟩
  have h8:=bif_t h7
  clear h7
  obtain ⟨t39,et39,h9⟩:=letk_elim h8; clear h8
  conv=>whnf
  refine Nm.mk ⟨t39,et39,?_⟩
  rcases t39 with _ | _
  · have h10:=bif_f h9
    clear h9
    have eh10_0:=Option.some.inj h10
    subst eh10_0
    conv=>whnf
    exact Returns.pure (r:=.lit (.bool false)) rfl rfl rfl rfl ⟨rfl,rfl⟩
  have h10:=bif_t h9
  clear h9
  obtain ⟨t43,et43,h11⟩:=letk_elim h10; clear h10
  conv=>whnf
  refine Nm.mk ⟨t43,et43,?_⟩
  rcases t43 with _ | _
  · have h12:=bif_f h11
    clear h11
    have eh12_0:=Option.some.inj h12
    subst eh12_0
    conv=>whnf
    exact Returns.pure (r:=.lit (.bool false)) rfl rfl rfl rfl ⟨rfl,rfl⟩
  have h12:=bif_t h11
  clear h11
  obtain ⟨t47,et47,h13⟩:=letk_elim h12; clear h12
  conv=>whnf
  refine Nm.mk ⟨t47,et47,?_⟩
  rcases t47 with _ | _
  · have h14:=bif_f h13
    clear h13
    have eh14_0:=Option.some.inj h14
    subst eh14_0
    conv=>whnf
    exact Returns.pure (r:=.lit (.bool false)) rfl rfl rfl rfl ⟨rfl,rfl⟩
  have h14:=bif_t h13
  clear h13
  obtain ⟨t51,et51,h15⟩:=letk_elim h14; clear h14
  conv=>whnf
  refine Nm.mk ⟨t51,et51,?_⟩
  have eh15_0:=Option.some.inj h15
  subst eh15_0
  conv=>whnf
  exact Returns.pure (r:=.lit (.bool t51)) rfl rfl rfl rfl ⟨rfl,rfl⟩
noncomputable def Dec.Digits.j0 (kind0:Int) (mode1:Int) (a2:Int) (n3:Int):Option (Int × ByteArray × Int × Int) :=
  Option.bind (Dec.exact kind0 a2) fun (t33_0,t33_1,t33_2) =>
  Option.bind (Dec.away mode1 t33_0 t33_1 n3) fun t45 =>
  Option.bind (Dec.to t33_1 t33_2 n3 t45) fun (t46_0,t46_1) =>
  some (t33_0,t46_0,t46_1,0)
noncomputable def Dec.Digits (kind0:Int) (mode1:Int) (a2:Int) (n3:Int):Option (Int × ByteArray × Int × Int) :=
  Option.bind (Dec.isKind kind0 mode1) fun t14 =>
  letk (!t14) fun t15 =>
  bif t15 then
    some (0,⟨#[]⟩,0,2)
  else
    Option.bind (Dec.isFinite kind0 a2) fun t19 =>
    letk (!t19) fun t20 =>
    bif t20 then
      some (0,⟨#[]⟩,0,2)
    else
      letk (decide (n3 < (1:Int))) fun t24 =>
      bif t24 then
        some (0,⟨#[]⟩,0,2)
      else
        letk (decide (n3 > (40:Int))) fun t28 =>
        bif t28 then
          some (0,⟨#[]⟩,0,2)
        else
          Dec.Digits.j0 kind0 mode1 a2 n3
theorem Dec.Digits_ok {kind0:Int} {mode1:Int} {a2:Int} {n3:Int} {r:Int × ByteArray × Int × Int} (h0:Dec.Digits kind0 mode1 a2 n3 = some r):Gives Tryz.prog 21 [.lit (.int .i64 kind0),.lit (.int .i64 mode1),.lit (.int .i64 a2),.lit (.int .i64 n3)] (.tup [.lit (.int .i64 r.1),.lit (.string r.2.1),.lit (.int .i64 r.2.2.1),.lit (.int .i64 r.2.2.2)]):=by
  unfold Dec.Digits at h0
  refine ACalls.of_swp Tryz.func21 rfl (by decide) rfl (st0:=⟨52,[(0,.lit (.int .i64 kind0)),(1,.lit (.int .i64 mode1)),(2,.lit (.int .i64 a2)),(3,.lit (.int .i64 n3))],[]⟩) rfl (bwp_ok (C:=[(0,3)]) ?_)
  conv=>whnf
  refine CutN.of (fun s=>Dec.Digits.j0 kind0 mode1 a2 n3 = some r ∧ s = (⟨52,[(0,.lit (.int .i64 kind0)),(1,.lit (.int .i64 mode1)),(2,.lit (.int .i64 a2)),(3,.lit (.int .i64 n3))],[]⟩:St)) ?_ ?_
  · obtain ⟨t14,et14,h1⟩:=bind_elim h0; clear h0
    conv=>whnf
    refine Gate.go ?_
    conv=>whnf
    refine CallN.by (v:=.lit (.bool t14)) (Dec.isKind_ok et14) rfl rfl ?_
    obtain ⟨t15,et15,h2⟩:=letk_elim h1; clear h1
    conv=>whnf
    refine Nm.mk ⟨t15,et15,?_⟩
    rcases t15 with _ | _
    · have h3:=bif_f h2
      clear h2
      obtain ⟨t19,et19,h4⟩:=bind_elim h3; clear h3
      conv=>whnf
      refine Gate.go ?_
      conv=>whnf
      refine CallN.by (v:=.lit (.bool t19)) (Dec.isFinite_ok et19) rfl rfl ?_
      obtain ⟨t20,et20,h5⟩:=letk_elim h4; clear h4
      conv=>whnf
      refine Nm.mk ⟨t20,et20,?_⟩
      rcases t20 with _ | _
      · have h6:=bif_f h5
        clear h5
        obtain ⟨t24,et24,h7⟩:=letk_elim h6; clear h6
        conv=>whnf
        refine Nm.mk ⟨t24,et24,?_⟩
        rcases t24 with _ | _
        · have h8:=bif_f h7
          clear h7
          obtain ⟨t28,et28,h9⟩:=letk_elim h8; clear h8
          conv=>whnf
          refine Nm.mk ⟨t28,et28,?_⟩
          rcases t28 with _ | _
          · have h10:=bif_f h9
            clear h9
            exact BackS.by ⟨h10,rfl⟩ (Sees.e ⟨.s,.s,.s,.s,trivial⟩)
          have h10:=bif_t h9
          clear h9
          have eh10_0:=Option.some.inj h10
          subst eh10_0
          conv=>whnf
          exact Returns.pure (r:=.tup [.lit (.int .i64 0),.lit (.string (⟨#[]⟩)),.lit (.int .i64 0),.lit (.int .i64 2)]) rfl rfl rfl rfl ⟨rfl,rfl⟩
        have h8:=bif_t h7
        clear h7
        have eh8_0:=Option.some.inj h8
        subst eh8_0
        conv=>whnf
        exact Returns.pure (r:=.tup [.lit (.int .i64 0),.lit (.string (⟨#[]⟩)),.lit (.int .i64 0),.lit (.int .i64 2)]) rfl rfl rfl rfl ⟨rfl,rfl⟩
      have h6:=bif_t h5
      clear h5
      have eh6_0:=Option.some.inj h6
      subst eh6_0
      conv=>whnf
      exact Returns.pure (r:=.tup [.lit (.int .i64 0),.lit (.string (⟨#[]⟩)),.lit (.int .i64 0),.lit (.int .i64 2)]) rfl rfl rfl rfl ⟨rfl,rfl⟩
    have h3:=bif_t h2
    clear h2
    have eh3_0:=Option.some.inj h3
    subst eh3_0
    conv=>whnf
    exact Returns.pure (r:=.tup [.lit (.int .i64 0),.lit (.string (⟨#[]⟩)),.lit (.int .i64 0),.lit (.int .i64 2)]) rfl rfl rfl rfl ⟨rfl,rfl⟩
  clear h0
  rintro s ⟨hj0,rfl⟩
  unfold Dec.Digits.j0 at hj0
  obtain ⟨⟨t33_0,t33_1,t33_2⟩,et33,hj1⟩:=bind_elim hj0; clear hj0
  conv=>whnf
  refine Gate.go ?_
  conv=>whnf
  refine CallN.by (v:=.tup [.lit (.int .i64 t33_0),.lit (.string t33_1),.lit (.int .i64 t33_2)]) (Dec.exact_ok et33) rfl rfl ?_
  obtain ⟨t45,et45,hj2⟩:=bind_elim hj1; clear hj1
  conv=>whnf
  refine Gate.go ?_
  conv=>whnf
  refine CallN.by (v:=.lit (.bool t45)) (Dec.away_ok et45) rfl rfl ?_
  obtain ⟨⟨t46_0,t46_1⟩,et46,hj3⟩:=bind_elim hj2; clear hj2
  conv=>whnf
  refine Gate.go ?_
  conv=>whnf
  refine CallN.by (v:=.tup [.lit (.string t46_0),.lit (.int .i64 t46_1)]) (Dec.to_ok et46) rfl rfl ?_
  have ehj3_0:=Option.some.inj hj3
  subst ehj3_0
  conv=>whnf
  exact Returns.pure (r:=.tup [.lit (.int .i64 t33_0),.lit (.string t46_0),.lit (.int .i64 t46_1),.lit (.int .i64 0)]) rfl rfl rfl rfl ⟨rfl,rfl⟩
noncomputable def Ref1.IsMode (mode0:Int):Option Bool :=
  letk (decide (mode0 ≥ (0:Int))) fun t4 =>
  bif t4 then
    letk (decide (mode0 ≤ (3:Int))) fun t7 =>
    some t7
  else
    some false
theorem Ref1.IsMode_ok {mode0:Int} {r:Bool} (h0:Ref1.IsMode mode0 = some r):Gives Tryz.prog 113 [.lit (.int .i64 mode0)] (.lit (.bool r)):=by
  unfold Ref1.IsMode at h0
  refine ACalls.of_swp Tryz.func113 rfl (by decide) rfl (st0:=⟨9,[(0,.lit (.int .i64 mode0))],[]⟩) rfl (bwp_ok (C:=[]) ?_)
  obtain ⟨t4,et4,h1⟩:=letk_elim h0; clear h0
  conv=>whnf
  refine Nm.mk ⟨t4,et4,?_⟩
  rcases t4 with _ | _
  · have h2:=bif_f h1
    clear h1
    have eh2_0:=Option.some.inj h2
    subst eh2_0
    conv=>whnf
    exact Returns.pure (r:=.lit (.bool false)) rfl rfl rfl rfl ⟨rfl,rfl⟩
  have h2:=bif_t h1
  clear h1
  obtain ⟨t7,et7,h3⟩:=letk_elim h2; clear h2
  conv=>whnf
  refine Nm.mk ⟨t7,et7,?_⟩
  have eh3_0:=Option.some.inj h3
  subst eh3_0
  conv=>whnf
  exact Returns.pure (r:=.lit (.bool t7)) rfl rfl rfl rfl ⟨rfl,rfl⟩
noncomputable def Ref1.asked (kind0:Int) (mode1:Int) (a2:Int) (b3:Int):Option Bool :=
  Option.bind (Ref1.IsMode mode1) fun t10 =>
  bif t10 then
    Option.bind (Ref1.Valid kind0 a2) fun t14 =>
    bif t14 then
      Option.bind (Ref1.Valid kind0 b3) fun t19 =>
      some t19
    else
      some false
  else
    some false
theorem Ref1.asked_ok {kind0:Int} {mode1:Int} {a2:Int} {b3:Int} {r:Bool} (h0:Ref1.asked kind0 mode1 a2 b3 = some r):Gives Tryz.prog 59 [.lit (.int .i64 kind0),.lit (.int .i64 mode1),.lit (.int .i64 a2),.lit (.int .i64 b3)] (.lit (.bool r)):=by
  unfold Ref1.asked at h0
  refine ACalls.of_swp Tryz.func59 rfl (by decide) rfl (st0:=⟨21,[(0,.lit (.int .i64 kind0)),(1,.lit (.int .i64 mode1)),(2,.lit (.int .i64 a2)),(3,.lit (.int .i64 b3))],[]⟩) rfl (bwp_ok (C:=[]) ?_)
  obtain ⟨t10,et10,h1⟩:=bind_elim h0; clear h0
  conv=>whnf
  refine Gate.go ?_
  conv=>whnf
  refine CallN.by (v:=.lit (.bool t10)) (Ref1.IsMode_ok et10) rfl rfl ?_
  rcases t10 with _ | _
  · have h2:=bif_f h1
    clear h1
    have eh2_0:=Option.some.inj h2
    subst eh2_0
    conv=>whnf
    exact Returns.pure (r:=.lit (.bool false)) rfl rfl rfl rfl ⟨rfl,rfl⟩
  have h2:=bif_t h1
  clear h1
  obtain ⟨t14,et14,h3⟩:=bind_elim h2; clear h2
  conv=>whnf
  refine Gate.go ?_
  conv=>whnf
  refine CallN.by (v:=.lit (.bool t14)) (Ref1.Valid_ok et14) rfl rfl ?_
  rcases t14 with _ | _
  · have h4:=bif_f h3
    clear h3
    have eh4_0:=Option.some.inj h4
    subst eh4_0
    conv=>whnf
    exact Returns.pure (r:=.lit (.bool false)) rfl rfl rfl rfl ⟨rfl,rfl⟩
  have h4:=bif_t h3
  clear h3
  obtain ⟨t19,et19,h5⟩:=bind_elim h4; clear h4
  conv=>whnf
  refine Gate.go ?_
  conv=>whnf
  refine CallN.by (v:=.lit (.bool t19)) (Ref1.Valid_ok et19) rfl rfl ?_
  have eh5_0:=Option.some.inj h5
  subst eh5_0
  conv=>whnf
  exact Returns.pure (r:=.lit (.bool t19)) rfl rfl rfl rfl ⟨rfl,rfl⟩
noncomputable def Ref1.Compare.j2 (m10:Int) (n11:Int):Option (Int × Int) :=
  letk (decide (m10 < n11)) fun t50 =>
  bif t50 then
    some ((-1),0)
  else
    letk (decide (m10 > n11)) fun t54 =>
    bif t54 then
      some (1,0)
    else
      some (0,0)
noncomputable def Ref1.Compare.j1 (t22:quadratref01.float) (t36:Int) (m10:Int):Option (Int × Int) :=
  letk (t22.sign == (1:Int)) fun t44 =>
  bif t44 then
    letk (IntKind.i64.wrap (0 - t36)) fun t46 =>
    Ref1.Compare.j2 m10 t46
  else
    Ref1.Compare.j2 m10 t36
noncomputable def Ref1.Compare.j0 (kind0:Int) (a1:Int) (b2:Int) (t19:quadratref01.float) (t22:quadratref01.float):Option (Int × Int) :=
  Option.bind (Ref1.size kind0 a1) fun t33 =>
  Option.bind (Ref1.size kind0 b2) fun t36 =>
  letk (t19.sign == (1:Int)) fun t39 =>
  bif t39 then
    letk (IntKind.i64.wrap (0 - t33)) fun t41 =>
    Ref1.Compare.j1 t22 t36 t41
  else
    Ref1.Compare.j1 t22 t36 t33
noncomputable def Ref1.Compare (kind0:Int) (a1:Int) (b2:Int):Option (Int × Int) :=
  Option.bind (Ref1.asked kind0 0 a1 b2) fun t15 =>
  letk (!t15) fun t16 =>
  bif t16 then
    some (0,2)
  else
    Option.bind (Ref1.taken kind0 a1) fun t19 =>
    Option.bind (Ref1.taken kind0 b2) fun t22 =>
    letk (t19.what.toList == (⟨#[110,111,110,101]⟩:ByteArray).toList) fun t25 =>
    bif t25 then
      some (2,0)
    else
      letk (t22.what.toList == (⟨#[110,111,110,101]⟩:ByteArray).toList) fun t29 =>
      bif t29 then
        some (2,0)
      else
        Ref1.Compare.j0 kind0 a1 b2 t19 t22
theorem Ref1.Compare_ok {kind0:Int} {a1:Int} {b2:Int} {r:Int × Int} (h0:Ref1.Compare kind0 a1 b2 = some r):Gives Tryz.prog 20 [.lit (.int .i64 kind0),.lit (.int .i64 a1),.lit (.int .i64 b2)] (.tup [.lit (.int .i64 r.1),.lit (.int .i64 r.2)]):=by
  unfold Ref1.Compare at h0
  refine ACalls.of_swp Tryz.func20 rfl (by decide) rfl (st0:=⟨55,[(0,.lit (.int .i64 kind0)),(1,.lit (.int .i64 a1)),(2,.lit (.int .i64 b2))],[]⟩) rfl (bwp_ok (C:=[(0,6),(0,9),(1,0)]) ?_)
  obtain ⟨t15,et15,h1⟩:=bind_elim h0; clear h0
  conv=>whnf
  refine Gate.go ?_
  conv=>whnf
  refine CallN.by (v:=.lit (.bool t15)) (Ref1.asked_ok et15) rfl rfl ?_
  obtain ⟨t16,et16,h2⟩:=letk_elim h1; clear h1
  conv=>whnf
  refine Nm.mk ⟨t16,et16,?_⟩
  rcases t16 with _ | _
  · have h3:=bif_f h2
    clear h2
    obtain ⟨t19,et19,h4⟩:=bind_elim h3; clear h3
    conv=>whnf
    refine Gate.go ?_
    conv=>whnf
    refine CallN.by (v:=quadratref01.float.enc t19) (Ref1.taken_ok et19) rfl rfl ?_
    obtain ⟨t22,et22,h5⟩:=bind_elim h4; clear h4
    conv=>whnf
    refine Gate.go ?_
    conv=>whnf
    refine CallN.by (v:=quadratref01.float.enc t22) (Ref1.taken_ok et22) rfl rfl ?_
    conv=>whnf
    refine Nm.mk ⟨[.lit (.string (⟨#[]⟩)),.lit (.int .i64 0),.nils,.lit (.int .i64 0)],rfl,?_⟩
    conv=>whnf
    refine Nm.mk ⟨[.lit (.string (⟨#[]⟩)),.lit (.int .i64 0),.nils,.lit (.int .i64 0)],rfl,?_⟩
    conv=>whnf
    refine Nm.mk ⟨[.lit (.string t19.what),.lit (.int .i64 t19.sign),.vs 1 (t19.m.map (eI .u8)),.lit (.int .i64 t19.e)],rfl,?_⟩
    conv=>whnf
    refine Nm.mk ⟨[.lit (.string t22.what),.lit (.int .i64 t22.sign),.vs 1 (t22.m.map (eI .u8)),.lit (.int .i64 t22.e)],rfl,?_⟩
    conv=>whnf
    refine CutN.of (fun s=>Ref1.Compare.j0 kind0 a1 b2 t19 t22 = some r ∧ s = (⟨55,[(0,.lit (.int .i64 kind0)),(1,.lit (.int .i64 a1)),(2,.lit (.int .i64 b2)),(8,.ptr 0 0),(9,.ptr 1 0)],[.box [.lit (.string t19.what),.lit (.int .i64 t19.sign),.vs 1 (t19.m.map (eI .u8)),.lit (.int .i64 t19.e)],.box [.lit (.string t22.what),.lit (.int .i64 t22.sign),.vs 1 (t22.m.map (eI .u8)),.lit (.int .i64 t22.e)]]⟩:St)) ?_ ?_
    · obtain ⟨t25,et25,h6⟩:=letk_elim h5; clear h5
      conv=>whnf
      refine Nm.mk ⟨t25,et25,?_⟩
      rcases t25 with _ | _
      · have h7:=bif_f h6
        clear h6
        obtain ⟨t29,et29,h8⟩:=letk_elim h7; clear h7
        conv=>whnf
        refine Nm.mk ⟨t29,et29,?_⟩
        rcases t29 with _ | _
        · have h9:=bif_f h8
          clear h8
          exact BackS.by ⟨h9,rfl⟩ (Sees.of (Weak.objs (keep:=[0,1]) (frz:=[]) (m:=0) rfl (by decide) rfl rfl ⟨⟨_,rfl,WO.boxs ⟨.s,.s,.s,.s,trivial⟩⟩,⟨⟨_,rfl,WO.boxs ⟨.s,.s,.s,.s,trivial⟩⟩,⟨rfl,fun _ h=>by cases h⟩⟩⟩ ⟨.s,.s,.s,(.ptr _ _ 0 rfl),(.ptr _ _ 1 rfl),trivial⟩))
        have h9:=bif_t h8
        clear h8
        have eh9_0:=Option.some.inj h9
        subst eh9_0
        conv=>whnf
        exact Returns.pure (r:=.tup [.lit (.int .i64 2),.lit (.int .i64 0)]) rfl rfl rfl rfl ⟨rfl,rfl⟩
      have h7:=bif_t h6
      clear h6
      have eh7_0:=Option.some.inj h7
      subst eh7_0
      conv=>whnf
      exact Returns.pure (r:=.tup [.lit (.int .i64 2),.lit (.int .i64 0)]) rfl rfl rfl rfl ⟨rfl,rfl⟩
    clear h5
    rintro s ⟨hj0,rfl⟩
    unfold Ref1.Compare.j0 at hj0
    obtain ⟨t33,et33,hj1⟩:=bind_elim hj0; clear hj0
    conv=>whnf
    refine Gate.go ?_
    conv=>whnf
    refine CallN.by (v:=.lit (.int .i64 t33)) (Ref1.size_ok et33) rfl rfl ?_
    obtain ⟨t36,et36,hj2⟩:=bind_elim hj1; clear hj1
    conv=>whnf
    refine Gate.go ?_
    conv=>whnf
    refine CallN.by (v:=.lit (.int .i64 t36)) (Ref1.size_ok et36) rfl rfl ?_
    conv=>whnf
    refine CutN.of (fun s=>∃ (m10:Int),Ref1.Compare.j1 t22 t36 m10 = some r ∧ s = (⟨55,[(9,.ptr 0 0),(10,.lit (.int .i64 m10)),(11,.lit (.int .i64 t36))],[.box [.lit (.string t22.what),.lit (.int .i64 t22.sign),.vs 1 (t22.m.map (eI .u8)),.lit (.int .i64 t22.e)]]⟩:St)) ?_ ?_
    · obtain ⟨t39,et39,hj3⟩:=letk_elim hj2; clear hj2
      conv=>whnf
      refine Nm.mk ⟨t39,et39,?_⟩
      rcases t39 with _ | _
      · have hj4:=bif_f hj3
        clear hj3
        exact BackS.by ⟨_,hj4,rfl⟩ (Sees.of (Weak.objs (keep:=[1]) (frz:=[]) (m:=0) rfl (by decide) rfl rfl ⟨⟨_,rfl,WO.boxs ⟨.s,.s,.s,.s,trivial⟩⟩,⟨rfl,fun _ h=>by cases h⟩⟩ ⟨(.ptr _ _ 0 rfl),.s,.s,trivial⟩))
      have hj4:=bif_t hj3
      clear hj3
      obtain ⟨t41,et41,hj5⟩:=letk_elim hj4; clear hj4
      conv=>whnf
      refine Nm.mk ⟨t41,et41,?_⟩
      exact BackS.by ⟨_,hj5,rfl⟩ (Sees.of (Weak.objs (keep:=[1]) (frz:=[]) (m:=0) rfl (by decide) rfl rfl ⟨⟨_,rfl,WO.boxs ⟨.s,.s,.s,.s,trivial⟩⟩,⟨rfl,fun _ h=>by cases h⟩⟩ ⟨(.ptr _ _ 0 rfl),.s,.s,trivial⟩))
    clear hj2
    rintro s ⟨m10,hj0,rfl⟩
    unfold Ref1.Compare.j1 at hj0
    conv=>whnf
    refine CutN.of (fun s=>∃ (n11:Int),Ref1.Compare.j2 m10 n11 = some r ∧ s = (⟨55,[(10,.lit (.int .i64 m10)),(11,.lit (.int .i64 n11))],[]⟩:St)) ?_ ?_
    · obtain ⟨t44,et44,hj1⟩:=letk_elim hj0; clear hj0
      conv=>whnf
      refine Nm.mk ⟨t44,et44,?_⟩
      rcases t44 with _ | _
      · have hj2:=bif_f hj1
        clear hj1
        exact BackS.by ⟨_,hj2,rfl⟩ (Sees.e ⟨.s,.s,trivial⟩)
      have hj2:=bif_t hj1
      clear hj1
      obtain ⟨t46,et46,hj3⟩:=letk_elim hj2; clear hj2
      conv=>whnf
      refine Nm.mk ⟨t46,et46,?_⟩
      exact BackS.by ⟨_,hj3,rfl⟩ (Sees.e ⟨.s,.s,trivial⟩)
    clear hj0
    rintro s ⟨n11,hj0,rfl⟩
    unfold Ref1.Compare.j2 at hj0
    obtain ⟨t50,et50,hj1⟩:=letk_elim hj0; clear hj0
    conv=>whnf
    refine Nm.mk ⟨t50,et50,?_⟩
    rcases t50 with _ | _
    · have hj2:=bif_f hj1
      clear hj1
      obtain ⟨t54,et54,hj3⟩:=letk_elim hj2; clear hj2
      conv=>whnf
      refine Nm.mk ⟨t54,et54,?_⟩
      rcases t54 with _ | _
      · have hj4:=bif_f hj3
        clear hj3
        have ehj4_0:=Option.some.inj hj4
        subst ehj4_0
        conv=>whnf
        exact Returns.pure (r:=.tup [.lit (.int .i64 0),.lit (.int .i64 0)]) rfl rfl rfl rfl ⟨rfl,rfl⟩
      have hj4:=bif_t hj3
      clear hj3
      have ehj4_0:=Option.some.inj hj4
      subst ehj4_0
      conv=>whnf
      exact Returns.pure (r:=.tup [.lit (.int .i64 1),.lit (.int .i64 0)]) rfl rfl rfl rfl ⟨rfl,rfl⟩
    have hj2:=bif_t hj1
    clear hj1
    have ehj2_0:=Option.some.inj hj2
    subst ehj2_0
    conv=>whnf
    exact Returns.pure (r:=.tup [.lit (.int .i64 ((-1))),.lit (.int .i64 0)]) rfl rfl rfl rfl ⟨rfl,rfl⟩
  have h3:=bif_t h2
  clear h2
  have eh3_0:=Option.some.inj h3
  subst eh3_0
  conv=>whnf
  exact Returns.pure (r:=.tup [.lit (.int .i64 0),.lit (.int .i64 2)]) rfl rfl rfl rfl ⟨rfl,rfl⟩
end Go.Q
