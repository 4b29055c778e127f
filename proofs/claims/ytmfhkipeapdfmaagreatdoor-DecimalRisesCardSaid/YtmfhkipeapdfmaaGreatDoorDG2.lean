import Derived.Test.YtmfhkipeapdfmaaGreatDoorDG1
import Derived.Test.YtmfhkipeapdfmaaGreatDoorFX
import Derived.Test.YtmfhkipeapdfmaaGreatDoorFY
import Derived.Test.YtmfhkipeapdfmaaGreatDoorProg
namespace Go.Q
open Go Go.Proofs
set_option maxRecDepth 10000
set_option maxHeartbeats 2000000
noncomputable def Flt.exact.right.j2 (lo7:Int) (half8_2:Bool) (below9_2:Bool) (t48:Bool):Option (Int × Int) :=
  bif t48 then
    some (lo7,3)
  else
    bif half8_2 then
      some (lo7,2)
    else
      bif below9_2 then
        some (lo7,1)
      else
        some (lo7,0)
noncomputable def Flt.exact.right.j1 (lo7:Int) (half8_1:Bool) (below9_1:Bool):Option (Int × Int) :=
  bif half8_1 then
    Flt.exact.right.j2 lo7 true below9_1 below9_1
  else
    Flt.exact.right.j2 lo7 false below9_1 false
noncomputable def Flt.exact.right.j0 (n1_1:Int) (lo7:Int) (half8:Bool) (below9:Bool):Option (Int × Int) :=
  letk (decide (n1_1 > (0:Int))) fun t47 =>
  bif t47 then
    Flt.exact.right.j1 lo7 false true
  else
    Flt.exact.right.j1 lo7 half8 below9
noncomputable def Flt.exact.right.j4 (n1_2:Int) (hi6:Int) (lo7_1:Int) (below9_5:Bool):Option ((Int × Int × Int × Bool × Bool) ⊕ (Int × Int)) :=
  letk (IntKind.u64.wrap (BitVec.ofInt (IntKind.u64).bits lo7_1 &&& BitVec.ofInt (IntKind.u64).bits (1:Int)).toNat) fun t36 =>
  letk (t36 == (1:Int)) fun t37 =>
  chk (0 ≤ (1:Int)) <|
  letk ((IntKind.u64,lo7_1.fdiv (2 ^ (min (1:Int).toNat (IntKind.u64).bits))).2) fun t39 =>
  chk (0 ≤ (63:Int)) <|
  letk (IntKind.u64.wrap (hi6 * 2 ^ (min (63:Int).toNat (IntKind.u64).bits))) fun t41 =>
  letk (IntKind.u64.wrap (BitVec.ofInt (IntKind.u64).bits t39 ||| BitVec.ofInt (IntKind.u64).bits t41).toNat) fun t42 =>
  chk (0 ≤ (1:Int)) <|
  letk ((IntKind.u64,hi6.fdiv (2 ^ (min (1:Int).toNat (IntKind.u64).bits))).2) fun t44 =>
  letk (IntKind.i64.wrap (n1_2 - (1:Int))) fun t30 =>
  some (.inl (t30,t44,t42,t37,below9_5))
noncomputable def Flt.exact.right.j3 (n1_2:Int) (hi6:Int) (lo7_1:Int) (half8_4:Bool) (below9_4:Bool):Option ((Int × Int × Int × Bool × Bool) ⊕ (Int × Int)) :=
  bif below9_4 then
    Flt.exact.right.j4 n1_2 hi6 lo7_1 true
  else
    Flt.exact.right.j4 n1_2 hi6 lo7_1 half8_4
noncomputable def Flt.exact.right.s0 (n1_2:Int) (hi6:Int) (lo7_1:Int) (half8_3:Bool) (below9_3:Bool):Option ((Int × Int × Int × Bool × Bool) ⊕ (Int × Int)) :=
  letk (decide (n1_2 > (0:Int))) fun t17 =>
  bif t17 then
    letk (hi6 != (0:Int)) fun t20 =>
    bif t20 then
      Flt.exact.right.j3 n1_2 hi6 lo7_1 half8_3 below9_3
    else
      letk (lo7_1 != (0:Int)) fun t23 =>
      bif t23 then
        Flt.exact.right.j3 n1_2 hi6 lo7_1 half8_3 below9_3
      else
        bif half8_3 then
          Flt.exact.right.j3 n1_2 hi6 lo7_1 true below9_3
        else
          (Flt.exact.right.j0 n1_2 lo7_1 false below9_3).map .inr
  else
    (Flt.exact.right.j0 n1_2 lo7_1 half8_3 below9_3).map .inr
noncomputable def Flt.exact.right.l0 (n1_2:Int) (hi6:Int) (lo7_1:Int) (half8_3:Bool) (below9_3:Bool):Option (Int × Int):=loopO (fun v:Int × Int × Int × Bool × Bool=>Flt.exact.right.s0 v.1 v.2.1 v.2.2.1 v.2.2.2.1 v.2.2.2.2) (n1_2,hi6,lo7_1,half8_3,below9_3)
noncomputable def Flt.exact.right (x0:float.exact) (n1:Int):Option (Int × Int) :=
  Flt.exact.right.l0 n1 x0.hi x0.lo false x0.more
theorem Flt.exact.right_ok {x0:float.exact} {n1:Int} {r:Int × Int} (h0:Flt.exact.right x0 n1 = some r):Gives Tryz.prog 154 [float.exact.enc x0,.lit (.int .i64 n1)] (.tup [.lit (.int .u64 r.1),.lit (.int .i64 r.2)]):=by
  unfold Flt.exact.right at h0
  refine ACalls.of_swp Tryz.func154 rfl (by decide) rfl (st0:=⟨61,[(0,float.exact.enc x0),(1,.lit (.int .i64 n1))],[]⟩) rfl (bwp_ok (C:=[(1,2),(1,3),(58,25),(1,1),(0,6)]) ?_)
  conv=>whnf
  refine Nm.mk ⟨[.lit (.int .u64 x0.hi),.lit (.int .u64 x0.lo),.lit (.int .i64 x0.e),.lit (.bool x0.more)],rfl,?_⟩
  conv=>whnf
  refine DrawB.ofG [none,none,none,none,none,none] Tryz_mixed (by kernel_rfl) (by kernel_rfl) ?_
  conv=>whnf
  refine DNodeB.of (.ptr 0 0) ?_ ?_
  · conv=>whnf
    rfl
  conv=>whnf
  refine DNodeB.of (.lit (.int .u64 x0.hi)) ?_ ?_
  · conv=>whnf
    rfl
  conv=>whnf
  refine DNodeB.of (.ptr 0 1) ?_ ?_
  · conv=>whnf
    rfl
  conv=>whnf
  refine DNodeB.of (.lit (.int .u64 x0.lo)) ?_ ?_
  · conv=>whnf
    rfl
  conv=>whnf
  refine DNodeB.of (.lit (.int .u64 x0.hi)) ?_ ?_
  · conv=>whnf
    rfl
  conv=>whnf
  refine DNodeB.of (.lit (.int .u64 x0.lo)) ?_ ?_
  · conv=>whnf
    rfl
  conv=>whnf
  refine DrawB.ofG [none,none,none,none] Tryz_mixed (by kernel_rfl) (by kernel_rfl) ?_
  conv=>whnf
  refine DNodeB.of (.ptr 0 3) ?_ ?_
  · conv=>whnf
    rfl
  conv=>whnf
  refine DNodeB.of (.lit (.bool x0.more)) ?_ ?_
  · conv=>whnf
    rfl
  conv=>whnf
  refine DNodeB.of (.lit (.bool false)) ?_ ?_
  · conv=>whnf
    rfl
  conv=>whnf
  refine DNodeB.of (.lit (.bool x0.more)) ?_ ?_
  · conv=>whnf
    rfl
  conv=>whnf
  refine CutN.of (fun s=>∃ (n1_1:Int) (lo7:Int) (half8:Bool) (below9:Bool),Flt.exact.right.j0 n1_1 lo7 half8 below9 = some r ∧ s = (⟨61,[(1,.lit (.int .i64 n1_1)),(7,.lit (.int .u64 lo7)),(8,.lit (.bool half8)),(9,.lit (.bool below9))],[]⟩:St)) ?_ ?_
  · conv=>whnf
    unfold Flt.exact.right.l0 at h0
    refine LoopB.of (σ:=Int × Int × Int × Bool × Bool) (ρ:=Int × Int) (fun v:Int × Int × Int × Bool × Bool=>Flt.exact.right.s0 v.1 v.2.1 v.2.2.1 v.2.2.2.1 v.2.2.2.2) (fun v=>(⟨61,[(1,.lit (.int .i64 v.1)),(6,.lit (.int .u64 v.2.1)),(7,.lit (.int .u64 v.2.2.1)),(8,.lit (.bool v.2.2.2.1)),(9,.lit (.bool v.2.2.2.2))],[]⟩:St)) (n1,x0.hi,x0.lo,false,x0.more) h0 (BackS.by rfl (Sees.e ⟨.s,.s,.s,.s,.s,trivial⟩)) ?_
    clear h0
    rintro K1 ⟨n1_2,hi6,lo7_1,half8_3,below9_3⟩ x1 hs0_0 hl1 hr1
    replace hs0_0:Flt.exact.right.s0 n1_2 hi6 lo7_1 half8_3 below9_3 = some x1:=hs0_0
    unfold Flt.exact.right.s0 at hs0_0
    change bwp _ _ _ _ _ (⟨61,[(1,.lit (.int .i64 n1_2)),(6,.lit (.int .u64 hi6)),(7,.lit (.int .u64 lo7_1)),(8,.lit (.bool half8_3)),(9,.lit (.bool below9_3))],[]⟩:St)
    conv=>whnf
    refine CutN.of (fun s=>∃ (half8_4:Bool) (below9_4:Bool),Flt.exact.right.j3 n1_2 hi6 lo7_1 half8_4 below9_4 = some x1 ∧ s = (⟨61,[(1,.lit (.int .i64 n1_2)),(6,.lit (.int .u64 hi6)),(7,.lit (.int .u64 lo7_1)),(8,.lit (.bool half8_4)),(9,.lit (.bool below9_4))],[]⟩:St)) ?_ ?_
    · obtain ⟨t17,et17,hs0_1⟩:=letk_elim hs0_0; clear hs0_0
      conv=>whnf
      refine Nm.mk ⟨t17,et17,?_⟩
      rcases t17 with _ | _
      · have hs0_2:=bif_f hs0_1
        clear hs0_1
        obtain ⟨yhs0_2_0,hs0_2u,ehs0_2_0⟩:=map_elim hs0_2
        have ehs0_2_0:=(hr1 _ ehs0_2_0.symm).symm
        subst ehs0_2_0
        exact BackS.by ⟨_,_,_,_,hs0_2u,rfl⟩ (Sees.e ⟨.s,.s,.s,.s,trivial⟩)
      have hs0_2:=bif_t hs0_1
      clear hs0_1
      obtain ⟨t20,et20,hs0_3⟩:=letk_elim hs0_2; clear hs0_2
      conv=>whnf
      refine Nm.mk ⟨t20,et20,?_⟩
      rcases t20 with _ | _
      · have hs0_4:=bif_f hs0_3
        clear hs0_3
        obtain ⟨t23,et23,hs0_5⟩:=letk_elim hs0_4; clear hs0_4
        conv=>whnf
        refine Nm.mk ⟨t23,et23,?_⟩
        rcases t23 with _ | _
        · have hs0_6:=bif_f hs0_5
          clear hs0_5
          rcases half8_3 with _ | _
          · have hs0_7:=bif_f hs0_6
            clear hs0_6
            obtain ⟨yhs0_7_0,hs0_7u,ehs0_7_0⟩:=map_elim hs0_7
            have ehs0_7_0:=(hr1 _ ehs0_7_0.symm).symm
            subst ehs0_7_0
            exact BackS.by ⟨_,_,_,_,hs0_7u,rfl⟩ (Sees.e ⟨.s,.s,.s,.s,trivial⟩)
          have hs0_7:=bif_t hs0_6
          clear hs0_6
          exact BackS.by ⟨_,_,hs0_7,rfl⟩ (Sees.e ⟨.s,.s,.s,.s,.s,trivial⟩)
        have hs0_6:=bif_t hs0_5
        clear hs0_5
        exact BackS.by ⟨_,_,hs0_6,rfl⟩ (Sees.e ⟨.s,.s,.s,.s,.s,trivial⟩)
      have hs0_4:=bif_t hs0_3
      clear hs0_3
      exact BackS.by ⟨_,_,hs0_4,rfl⟩ (Sees.e ⟨.s,.s,.s,.s,.s,trivial⟩)
    clear hs0_0
    rintro s ⟨half8_4,below9_4,hj0,rfl⟩
    unfold Flt.exact.right.j3 at hj0
    conv=>whnf
    refine CutN.of (fun s=>∃ (below9_5:Bool),Flt.exact.right.j4 n1_2 hi6 lo7_1 below9_5 = some x1 ∧ s = (⟨61,[(1,.lit (.int .i64 n1_2)),(6,.lit (.int .u64 hi6)),(7,.lit (.int .u64 lo7_1)),(9,.lit (.bool below9_5))],[]⟩:St)) ?_ ?_
    · rcases below9_4 with _ | _
      · have hj1:=bif_f hj0
        clear hj0
        exact BackS.by ⟨_,hj1,rfl⟩ (Sees.e ⟨.s,.s,.s,.s,trivial⟩)
      have hj1:=bif_t hj0
      clear hj0
      exact BackS.by ⟨_,hj1,rfl⟩ (Sees.e ⟨.s,.s,.s,.s,trivial⟩)
    clear hj0
    rintro s ⟨below9_5,hj0,rfl⟩
    unfold Flt.exact.right.j4 at hj0
    obtain ⟨t36,et36,hj1⟩:=letk_elim hj0; clear hj0
    conv=>whnf
    refine Nm.mk ⟨t36,et36,?_⟩
    obtain ⟨t37,et37,hj2⟩:=letk_elim hj1; clear hj1
    conv=>whnf
    refine Nm.mk ⟨t37,et37,?_⟩
    obtain ⟨chj3,hj3⟩:=chk_elim hj2; clear hj2
    obtain ⟨t39,et39,hj4⟩:=letk_elim hj3; clear hj3
    conv=>whnf
    refine Side.mk chj3 ?_
    conv=>whnf
    refine Nm.mk ⟨t39,et39,?_⟩
    obtain ⟨chj5,hj5⟩:=chk_elim hj4; clear hj4
    obtain ⟨t41,et41,hj6⟩:=letk_elim hj5; clear hj5
    conv=>whnf
    refine Side.mk chj5 ?_
    conv=>whnf
    refine Nm.mk ⟨t41,et41,?_⟩
    obtain ⟨t42,et42,hj7⟩:=letk_elim hj6; clear hj6
    conv=>whnf
    refine Nm.mk ⟨t42,et42,?_⟩
    obtain ⟨chj8,hj8⟩:=chk_elim hj7; clear hj7
    obtain ⟨t44,et44,hj9⟩:=letk_elim hj8; clear hj8
    conv=>whnf
    refine Side.mk chj8 ?_
    conv=>whnf
    refine Nm.mk ⟨t44,et44,?_⟩
    obtain ⟨t30,et30,hj10⟩:=letk_elim hj9; clear hj9
    conv=>whnf
    refine Nm.mk ⟨t30,et30,?_⟩
    exact BackS.by ⟨_,hl1 _ (Option.some.inj hj10).symm,rfl⟩ (Sees.e ⟨.s,.s,.s,.s,.s,trivial⟩)
  clear h0
  rintro s ⟨n1_1,lo7,half8,below9,hj0,rfl⟩
  unfold Flt.exact.right.j0 at hj0
  conv=>whnf
  refine CutN.of (fun s=>∃ (half8_1:Bool) (below9_1:Bool),Flt.exact.right.j1 lo7 half8_1 below9_1 = some r ∧ s = (⟨61,[(7,.lit (.int .u64 lo7)),(8,.lit (.bool half8_1)),(9,.lit (.bool below9_1))],[]⟩:St)) ?_ ?_
  · obtain ⟨t47,et47,hj1⟩:=letk_elim hj0; clear hj0
    conv=>whnf
    refine Nm.mk ⟨t47,et47,?_⟩
    rcases t47 with _ | _
    · have hj2:=bif_f hj1
      clear hj1
      exact BackS.by ⟨_,_,hj2,rfl⟩ (Sees.e ⟨.s,.s,.s,trivial⟩)
    have hj2:=bif_t hj1
    clear hj1
    exact BackS.by ⟨_,_,hj2,rfl⟩ (Sees.e ⟨.s,.s,.s,trivial⟩)
  clear hj0
  rintro s ⟨half8_1,below9_1,hj0,rfl⟩
  unfold Flt.exact.right.j1 at hj0
  conv=>whnf
  refine CutN.of (fun s=>∃ (half8_2:Bool) (below9_2:Bool) (t48:Bool),Flt.exact.right.j2 lo7 half8_2 below9_2 t48 = some r ∧ s = (⟨61,[(7,.lit (.int .u64 lo7)),(8,.lit (.bool half8_2)),(9,.lit (.bool below9_2)),(48,.lit (.bool t48))],[]⟩:St)) ?_ ?_
  · rcases half8_1 with _ | _
    · have hj1:=bif_f hj0
      clear hj0
      exact BackS.by ⟨_,_,_,hj1,rfl⟩ (Sees.e ⟨.s,.s,.s,.s,trivial⟩)
    have hj1:=bif_t hj0
    clear hj0
    exact BackS.by ⟨_,_,_,hj1,rfl⟩ (Sees.e ⟨.s,.s,.s,.s,trivial⟩)
  clear hj0
  rintro s ⟨half8_2,below9_2,t48,hj0,rfl⟩
  unfold Flt.exact.right.j2 at hj0
  rcases t48 with _ | _
  · have hj1:=bif_f hj0
    clear hj0
    rcases half8_2 with _ | _
    · have hj2:=bif_f hj1
      clear hj1
      rcases below9_2 with _ | _
      · have hj3:=bif_f hj2
        clear hj2
        have ehj3_0:=Option.some.inj hj3
        subst ehj3_0
        conv=>whnf
        exact Returns.pure (r:=.tup [.lit (.int .u64 lo7),.lit (.int .i64 0)]) rfl rfl rfl rfl ⟨rfl,rfl⟩
      have hj3:=bif_t hj2
      clear hj2
      have ehj3_0:=Option.some.inj hj3
      subst ehj3_0
      conv=>whnf
      exact Returns.pure (r:=.tup [.lit (.int .u64 lo7),.lit (.int .i64 1)]) rfl rfl rfl rfl ⟨rfl,rfl⟩
    have hj2:=bif_t hj1
    clear hj1
    have ehj2_0:=Option.some.inj hj2
    subst ehj2_0
    conv=>whnf
    exact Returns.pure (r:=.tup [.lit (.int .u64 lo7),.lit (.int .i64 2)]) rfl rfl rfl rfl ⟨rfl,rfl⟩
  have hj1:=bif_t hj0
  clear hj0
  have ehj1_0:=Option.some.inj hj1
  subst ehj1_0
  conv=>whnf
  exact Returns.pure (r:=.tup [.lit (.int .u64 lo7),.lit (.int .i64 3)]) rfl rfl rfl rfl ⟨rfl,rfl⟩
noncomputable def Flt.away (mode0:Int) (sign1:Int) (odd2:Bool) (rest3:Int):Option Bool :=
  letk (mode0 == (0:Int)) fun t11 =>
  bif t11 then
    letk (rest3 == (3:Int)) fun t13 =>
    bif t13 then
      some true
    else
      letk (rest3 == (2:Int)) fun t16 =>
      bif t16 then
        some odd2
      else
        some false
  else
    letk (mode0 == (2:Int)) fun t22 =>
    bif t22 then
      letk (decide (rest3 > (0:Int))) fun t24 =>
      bif t24 then
        letk (sign1 == (1:Int)) fun t27 =>
        some t27
      else
        some false
    else
      letk (mode0 == (3:Int)) fun t30 =>
      bif t30 then
        letk (decide (rest3 > (0:Int))) fun t32 =>
        bif t32 then
          letk (sign1 == (0:Int)) fun t35 =>
          some t35
        else
          some false
      else
        some false
theorem Flt.away_ok {mode0:Int} {sign1:Int} {odd2:Bool} {rest3:Int} {r:Bool} (h0:Flt.away mode0 sign1 odd2 rest3 = some r):Gives Tryz.prog 155 [.lit (.int .i64 mode0),.lit (.int .i64 sign1),.lit (.bool odd2),.lit (.int .i64 rest3)] (.lit (.bool r)):=by
  unfold Flt.away at h0
  refine ACalls.of_swp Tryz.func155 rfl (by decide) rfl (st0:=⟨37,[(0,.lit (.int .i64 mode0)),(1,.lit (.int .i64 sign1)),(2,.lit (.bool odd2)),(3,.lit (.int .i64 rest3))],[]⟩) rfl (bwp_ok (C:=[]) ?_)
  obtain ⟨t11,et11,h1⟩:=letk_elim h0; clear h0
  conv=>whnf
  refine Nm.mk ⟨t11,et11,?_⟩
  rcases t11 with _ | _
  · have h2:=bif_f h1
    clear h1
    obtain ⟨t22,et22,h3⟩:=letk_elim h2; clear h2
    conv=>whnf
    refine Nm.mk ⟨t22,et22,?_⟩
    rcases t22 with _ | _
    · have h4:=bif_f h3
      clear h3
      obtain ⟨t30,et30,h5⟩:=letk_elim h4; clear h4
      conv=>whnf
      refine Nm.mk ⟨t30,et30,?_⟩
      rcases t30 with _ | _
      · have h6:=bif_f h5
        clear h5
        have eh6_0:=Option.some.inj h6
        subst eh6_0
        conv=>whnf
        exact Returns.pure (r:=.lit (.bool false)) rfl rfl rfl rfl ⟨rfl,rfl⟩
      have h6:=bif_t h5
      clear h5
      obtain ⟨t32,et32,h7⟩:=letk_elim h6; clear h6
      conv=>whnf
      refine Nm.mk ⟨t32,et32,?_⟩
      rcases t32 with _ | _
      · have h8:=bif_f h7
        clear h7
        have eh8_0:=Option.some.inj h8
        subst eh8_0
        conv=>whnf
        exact Returns.pure (r:=.lit (.bool false)) rfl rfl rfl rfl ⟨rfl,rfl⟩
      have h8:=bif_t h7
      clear h7
      obtain ⟨t35,et35,h9⟩:=letk_elim h8; clear h8
      conv=>whnf
      refine Nm.mk ⟨t35,et35,?_⟩
      have eh9_0:=Option.some.inj h9
      subst eh9_0
      conv=>whnf
      exact Returns.pure (r:=.lit (.bool t35)) rfl rfl rfl rfl ⟨rfl,rfl⟩
    have h4:=bif_t h3
    clear h3
    obtain ⟨t24,et24,h5⟩:=letk_elim h4; clear h4
    conv=>whnf
    refine Nm.mk ⟨t24,et24,?_⟩
    rcases t24 with _ | _
    · have h6:=bif_f h5
      clear h5
      have eh6_0:=Option.some.inj h6
      subst eh6_0
      conv=>whnf
      exact Returns.pure (r:=.lit (.bool false)) rfl rfl rfl rfl ⟨rfl,rfl⟩
    have h6:=bif_t h5
    clear h5
    obtain ⟨t27,et27,h7⟩:=letk_elim h6; clear h6
    conv=>whnf
    refine Nm.mk ⟨t27,et27,?_⟩
    have eh7_0:=Option.some.inj h7
    subst eh7_0
    conv=>whnf
    exact Returns.pure (r:=.lit (.bool t27)) rfl rfl rfl rfl ⟨rfl,rfl⟩
  have h2:=bif_t h1
  clear h1
  obtain ⟨t13,et13,h3⟩:=letk_elim h2; clear h2
  conv=>whnf
  refine Nm.mk ⟨t13,et13,?_⟩
  rcases t13 with _ | _
  · have h4:=bif_f h3
    clear h3
    obtain ⟨t16,et16,h5⟩:=letk_elim h4; clear h4
    conv=>whnf
    refine Nm.mk ⟨t16,et16,?_⟩
    rcases t16 with _ | _
    · have h6:=bif_f h5
      clear h5
      have eh6_0:=Option.some.inj h6
      subst eh6_0
      conv=>whnf
      exact Returns.pure (r:=.lit (.bool false)) rfl rfl rfl rfl ⟨rfl,rfl⟩
    have h6:=bif_t h5
    clear h5
    have eh6_0:=Option.some.inj h6
    subst eh6_0
    conv=>whnf
    exact Returns.pure (r:=.lit (.bool odd2)) rfl rfl rfl rfl ⟨rfl,rfl⟩
  have h4:=bif_t h3
  clear h3
  have eh4_0:=Option.some.inj h4
  subst eh4_0
  conv=>whnf
  exact Returns.pure (r:=.lit (.bool true)) rfl rfl rfl rfl ⟨rfl,rfl⟩
noncomputable def Flt.shape.greatest (s0:float.shape) (sign1:Int):Option Int :=
  Option.bind (Flt.shape.top (⟨s0.p,s0.w⟩:float.shape)) fun t8 =>
  letk (IntKind.u64.wrap (t8 - (1:Int))) fun t9 =>
  letk (IntKind.i64.wrap (s0.p - (1:Int))) fun t12 =>
  chk (0 ≤ t12) <|
  letk (IntKind.u64.wrap ((1:Int) * 2 ^ (min t12.toNat (IntKind.u64).bits))) fun t13 =>
  letk (IntKind.u64.wrap (t13 - (1:Int))) fun t14 =>
  Option.bind (Flt.shape.pack (⟨s0.p,s0.w⟩:float.shape) sign1 t9 t14) fun t15 =>
  some t15
theorem Flt.shape.greatest_ok {s0:float.shape} {sign1:Int} {r:Int} (h0:Flt.shape.greatest s0 sign1 = some r):Gives Tryz.prog 156 [float.shape.enc s0,.lit (.int .i64 sign1)] (.lit (.int .i64 r)):=by
  unfold Flt.shape.greatest at h0
  refine ACalls.of_swp Tryz.func156 rfl (by decide) rfl (st0:=⟨16,[(0,float.shape.enc s0),(1,.lit (.int .i64 sign1))],[]⟩) rfl (bwp_ok (C:=[]) ?_)
  conv=>whnf
  refine Nm.mk ⟨[.lit (.int .i64 s0.p),.lit (.int .i64 s0.w)],rfl,?_⟩
  conv=>whnf
  refine DrawB.sees (Sees.of (Weak.objs (k:=16) (keep:=[0]) (frz:=[]) (m:=0) (ts:=[(1,.lit (.int .i64 sign1)),(2,.ptr 0 0)]) (hs:=[.box [.lit (.int .i64 s0.p),.lit (.int .i64 s0.w)]]) rfl (by decide) rfl rfl ⟨⟨_,rfl,WO.refl rfl⟩,⟨rfl,fun _ h=>by cases h⟩⟩ ⟨.s,(.ptr _ _ 0 rfl),trivial⟩)) ?_
  refine DrawB.ofG [none,none,none,none,none,none,none,none,none,none,none,none] Tryz_mixed (by kernel_rfl) (by kernel_rfl) ?_
  conv=>whnf
  refine DNodeB.of (.agg [.lit (.int .i64 s0.p),.lit (.int .i64 s0.w)]) ?_ ?_
  · conv=>whnf
    rfl
  conv=>whnf
  refine DNodeB.of (.lit (.int .i64 sign1)) ?_ ?_
  · conv=>whnf
    rfl
  conv=>whnf
  refine DNodeB.of (.agg [.lit (.int .i64 s0.p),.lit (.int .i64 s0.w)]) ?_ ?_
  · conv=>whnf
    rfl
  obtain ⟨t8,et8,h1⟩:=bind_elim h0; clear h0
  conv=>whnf
  refine DNodeB.of (.lit (.int .u64 t8)) ?_ ?_
  · conv=>whnf
    refine CallN.by (v:=.lit (.int .u64 t8)) (Flt.shape.top_ok et8) rfl rfl ?_
    conv=>whnf
    rfl
  obtain ⟨t9,et9,h2⟩:=letk_elim h1; clear h1
  conv=>whnf
  refine DNodeB.of (.lit (.int .u64 t9)) ?_ ?_
  · conv=>whnf
    refine Nm.mk ⟨t9,et9,?_⟩
    conv=>whnf
    rfl
  conv=>whnf
  refine DNodeB.of (.ptr 0 0) ?_ ?_
  · conv=>whnf
    rfl
  conv=>whnf
  refine DNodeB.of (.lit (.int .i64 s0.p)) ?_ ?_
  · conv=>whnf
    rfl
  obtain ⟨t12,et12,h3⟩:=letk_elim h2; clear h2
  conv=>whnf
  refine DNodeB.of (.lit (.int .i64 t12)) ?_ ?_
  · conv=>whnf
    refine Nm.mk ⟨t12,et12,?_⟩
    conv=>whnf
    rfl
  obtain ⟨ch4,h4⟩:=chk_elim h3; clear h3
  obtain ⟨t13,et13,h5⟩:=letk_elim h4; clear h4
  conv=>whnf
  refine DNodeB.of (.lit (.int .u64 t13)) ?_ ?_
  · conv=>whnf
    refine Side.mk ch4 ?_
    conv=>whnf
    refine Nm.mk ⟨t13,et13,?_⟩
    conv=>whnf
    rfl
  obtain ⟨t14,et14,h6⟩:=letk_elim h5; clear h5
  conv=>whnf
  refine DNodeB.of (.lit (.int .u64 t14)) ?_ ?_
  · conv=>whnf
    refine Nm.mk ⟨t14,et14,?_⟩
    conv=>whnf
    rfl
  obtain ⟨t15,et15,h7⟩:=bind_elim h6; clear h6
  conv=>whnf
  refine DNodeB.of (.lit (.int .i64 t15)) ?_ ?_
  · conv=>whnf
    refine CallN.by (v:=.lit (.int .i64 t15)) (Flt.shape.pack_ok et15) rfl rfl ?_
    conv=>whnf
    rfl
  conv=>whnf
  refine DNodeB.of (.lit (.int .i64 t15)) ?_ ?_
  · conv=>whnf
    rfl
  have eh7_0:=Option.some.inj h7
  subst eh7_0
  conv=>whnf
  exact Returns.pure (r:=.lit (.int .i64 t15)) rfl rfl rfl rfl ⟨rfl,rfl⟩
noncomputable def Flt.shape.infinite (s0:float.shape) (sign1:Int):Option Int :=
  Option.bind (Flt.shape.top (⟨s0.p,s0.w⟩:float.shape)) fun t8 =>
  Option.bind (Flt.shape.pack (⟨s0.p,s0.w⟩:float.shape) sign1 t8 0) fun t9 =>
  some t9
theorem Flt.shape.infinite_ok {s0:float.shape} {sign1:Int} {r:Int} (h0:Flt.shape.infinite s0 sign1 = some r):Gives Tryz.prog 157 [float.shape.enc s0,.lit (.int .i64 sign1)] (.lit (.int .i64 r)):=by
  unfold Flt.shape.infinite at h0
  refine ACalls.of_swp Tryz.func157 rfl (by decide) rfl (st0:=⟨10,[(0,float.shape.enc s0),(1,.lit (.int .i64 sign1))],[]⟩) rfl (bwp_ok (C:=[]) ?_)
  conv=>whnf
  refine Nm.mk ⟨[.lit (.int .i64 s0.p),.lit (.int .i64 s0.w)],rfl,?_⟩
  conv=>whnf
  refine DrawB.ofG [none,none,none,none,none,none] Tryz_mixed (by kernel_rfl) (by kernel_rfl) ?_
  conv=>whnf
  refine DNodeB.of (.agg [.lit (.int .i64 s0.p),.lit (.int .i64 s0.w)]) ?_ ?_
  · conv=>whnf
    rfl
  conv=>whnf
  refine DNodeB.of (.lit (.int .i64 sign1)) ?_ ?_
  · conv=>whnf
    rfl
  conv=>whnf
  refine DNodeB.of (.agg [.lit (.int .i64 s0.p),.lit (.int .i64 s0.w)]) ?_ ?_
  · conv=>whnf
    rfl
  obtain ⟨t8,et8,h1⟩:=bind_elim h0; clear h0
  conv=>whnf
  refine DNodeB.of (.lit (.int .u64 t8)) ?_ ?_
  · conv=>whnf
    refine CallN.by (v:=.lit (.int .u64 t8)) (Flt.shape.top_ok et8) rfl rfl ?_
    conv=>whnf
    rfl
  obtain ⟨t9,et9,h2⟩:=bind_elim h1; clear h1
  conv=>whnf
  refine DNodeB.of (.lit (.int .i64 t9)) ?_ ?_
  · conv=>whnf
    refine CallN.by (v:=.lit (.int .i64 t9)) (Flt.shape.pack_ok et9) rfl rfl ?_
    conv=>whnf
    rfl
  conv=>whnf
  refine DNodeB.of (.lit (.int .i64 t9)) ?_ ?_
  · conv=>whnf
    rfl
  have eh2_0:=Option.some.inj h2
  subst eh2_0
  conv=>whnf
  exact Returns.pure (r:=.lit (.int .i64 t9)) rfl rfl rfl rfl ⟨rfl,rfl⟩
noncomputable def Flt.shape.round.j4 (sign2:Int) (s4_0_2:Int) (s4_1_2:Int) (t133:Bool):Option (Int × Int) :=
  bif t133 then
    Option.bind (Flt.shape.greatest (⟨s4_0_2,s4_1_2⟩:float.shape) sign2) fun t136 =>
    some (t136,20)
  else
    Option.bind (Flt.shape.infinite (⟨s4_0_2,s4_1_2⟩:float.shape) sign2) fun t139 =>
    some (t139,20)
noncomputable def Flt.shape.round.j3 (mode1:Int) (sign2:Int) (flags9:Int) (s4_0_2:Int) (s4_1_2:Int) (last11:Int) (m12_2:Int):Option (Int × Int) :=
  letk (IntKind.i64.wrap (s4_0_2 - (1:Int))) fun t82 =>
  chk (0 ≤ t82) <|
  letk (IntKind.u64.wrap ((1:Int) * 2 ^ (min t82.toNat (IntKind.u64).bits))) fun t83 =>
  letk (decide (m12_2 < t83)) fun t84 =>
  bif t84 then
    Option.bind (Flt.shape.pack (⟨s4_0_2,s4_1_2⟩:float.shape) sign2 0 m12_2) fun t88 =>
    some (t88,flags9)
  else
    letk (IntKind.i64.wrap (last11 + s4_0_2)) fun t93 =>
    letk (IntKind.i64.wrap (t93 - (1:Int))) fun t94 =>
    Option.bind (Flt.shape.bias (⟨s4_0_2,s4_1_2⟩:float.shape)) fun t96 =>
    letk (IntKind.i64.wrap (t94 + t96)) fun t97 =>
    Option.bind (Flt.shape.top (⟨s4_0_2,s4_1_2⟩:float.shape)) fun t100 =>
    letk (IntKind.i64.wrap t100) fun t101 =>
    letk (decide (t97 < t101)) fun t102 =>
    bif t102 then
      letk (IntKind.u64.wrap t97) fun t106 =>
      letk (IntKind.i64.wrap (s4_0_2 - (1:Int))) fun t110 =>
      chk (0 ≤ t110) <|
      letk (IntKind.u64.wrap ((1:Int) * 2 ^ (min t110.toNat (IntKind.u64).bits))) fun t111 =>
      letk (IntKind.u64.wrap (t111 - (1:Int))) fun t112 =>
      letk (IntKind.u64.wrap (BitVec.ofInt (IntKind.u64).bits m12_2 &&& BitVec.ofInt (IntKind.u64).bits t112).toNat) fun t113 =>
      Option.bind (Flt.shape.pack (⟨s4_0_2,s4_1_2⟩:float.shape) sign2 t106 t113) fun t114 =>
      some (t114,flags9)
    else
      letk (mode1 == (1:Int)) fun t117 =>
      bif t117 then
        Flt.shape.round.j4 sign2 s4_0_2 s4_1_2 true
      else
        letk (mode1 == (2:Int)) fun t120 =>
        bif t120 then
          letk (sign2 == (0:Int)) fun t123 =>
          bif t123 then
            Flt.shape.round.j4 sign2 s4_0_2 s4_1_2 true
          else
            letk (mode1 == (3:Int)) fun t128_1 =>
            bif t128_1 then
              letk (sign2 == (1:Int)) fun t131_1 =>
              Flt.shape.round.j4 sign2 s4_0_2 s4_1_2 t131_1
            else
              Flt.shape.round.j4 sign2 s4_0_2 s4_1_2 false
        else
          letk (mode1 == (3:Int)) fun t128 =>
          bif t128 then
            letk (sign2 == (1:Int)) fun t131 =>
            Flt.shape.round.j4 sign2 s4_0_2 s4_1_2 t131
          else
            Flt.shape.round.j4 sign2 s4_0_2 s4_1_2 false
noncomputable def Flt.shape.round.j2 (mode1:Int) (sign2:Int) (t28:Int) (flags9:Int) (s4_0_2:Int) (s4_1_2:Int) (m12_1:Int):Option (Int × Int) :=
  chk (0 ≤ s4_0_2) <|
  letk (IntKind.u64.wrap ((1:Int) * 2 ^ (min s4_0_2.toNat (IntKind.u64).bits))) fun t73 =>
  letk (m12_1 == t73) fun t74 =>
  bif t74 then
    chk (0 ≤ (1:Int)) <|
    letk ((IntKind.u64,m12_1.fdiv (2 ^ (min (1:Int).toNat (IntKind.u64).bits))).2) fun t76 =>
    letk (IntKind.i64.wrap (t28 + (1:Int))) fun t78 =>
    Flt.shape.round.j3 mode1 sign2 flags9 s4_0_2 s4_1_2 t78 t76
  else
    Flt.shape.round.j3 mode1 sign2 flags9 s4_0_2 s4_1_2 t28 m12_1
noncomputable def Flt.shape.round.j1 (mode1:Int) (sign2:Int) (t28:Int) (m12:Int) (rest13:Int) (s4_0_1:Int) (s4_1_1:Int) (flags9:Int):Option (Int × Int) :=
  letk (IntKind.u64.wrap (BitVec.ofInt (IntKind.u64).bits m12 &&& BitVec.ofInt (IntKind.u64).bits (1:Int)).toNat) fun t64 =>
  letk (t64 == (1:Int)) fun t65 =>
  Option.bind (Flt.away mode1 sign2 t65 rest13) fun t67 =>
  bif t67 then
    letk (IntKind.u64.wrap (m12 + (1:Int))) fun t69 =>
    Flt.shape.round.j2 mode1 sign2 t28 flags9 s4_0_1 s4_1_1 t69
  else
    Flt.shape.round.j2 mode1 sign2 t28 flags9 s4_0_1 s4_1_1 m12
noncomputable def Flt.shape.round.j0 (mode1:Int) (sign2:Int) (t20:Int) (t28:Int) (s4_0:Int) (s4_1:Int) (m12:Int) (rest13:Int):Option (Int × Int) :=
  letk (decide (rest13 > (0:Int))) fun t50 =>
  bif t50 then
    Option.bind (Flt.shape.least (⟨s4_0,s4_1⟩:float.shape)) fun t53 =>
    letk (IntKind.i64.wrap (t53 + s4_0)) fun t56 =>
    letk (IntKind.i64.wrap (t56 - (1:Int))) fun t57 =>
    letk (decide (t20 < t57)) fun t58 =>
    bif t58 then
      letk (IntKind.i64.wrap (BitVec.ofInt (IntKind.i64).bits (16:Int) ||| BitVec.ofInt (IntKind.i64).bits (8:Int)).toNat) fun t60 =>
      Flt.shape.round.j1 mode1 sign2 t28 m12 rest13 s4_0 s4_1 t60
    else
      Flt.shape.round.j1 mode1 sign2 t28 m12 rest13 s4_0 s4_1 16
  else
    Flt.shape.round.j1 mode1 sign2 t28 m12 rest13 s4_0 s4_1 0
noncomputable def Flt.shape.round (s0:float.shape) (mode1:Int) (sign2:Int) (x3:float.exact):Option (Int × Int) :=
  Option.bind (Flt.exact.long (⟨x3.hi,x3.lo,x3.e,x3.more⟩:float.exact)) fun t18 =>
  letk (IntKind.i64.wrap (x3.e + t18)) fun t19 =>
  letk (IntKind.i64.wrap (t19 - (1:Int))) fun t20 =>
  letk (IntKind.i64.wrap (t20 - s0.p)) fun t24 =>
  letk (IntKind.i64.wrap (t24 + (1:Int))) fun t25 =>
  Option.bind (Flt.shape.least (⟨s0.p,s0.w⟩:float.shape)) fun t27 =>
  letk (if t27 > t25 then t27 else t25) fun t28 =>
  letk (decide (t28 ≤ x3.e)) fun t32 =>
  bif t32 then
    letk (IntKind.i64.wrap (x3.e - t28)) fun t38 =>
    chk (0 ≤ t38) <|
    letk (IntKind.u64.wrap (x3.lo * 2 ^ (min t38.toNat (IntKind.u64).bits))) fun t39 =>
    Flt.shape.round.j0 mode1 sign2 t20 t28 s0.p s0.w t39 0
  else
    letk (IntKind.i64.wrap (t28 - x3.e)) fun t45 =>
    Option.bind (Flt.exact.right (⟨x3.hi,x3.lo,x3.e,x3.more⟩:float.exact) t45) fun (t46_0,t46_1) =>
    Flt.shape.round.j0 mode1 sign2 t20 t28 s0.p s0.w t46_0 t46_1
theorem Flt.shape.round_ok {s0:float.shape} {mode1:Int} {sign2:Int} {x3:float.exact} {r:Int × Int} (h0:Flt.shape.round s0 mode1 sign2 x3 = some r):Gives Tryz.prog 126 [float.shape.enc s0,.lit (.int .i64 mode1),.lit (.int .i64 sign2),float.exact.enc x3] (.tup [.lit (.int .i64 r.1),.lit (.int .i64 r.2)]):=by
  unfold Flt.shape.round at h0
  refine ACalls.of_swp Tryz.func126 rfl (by decide) rfl (st0:=⟨140,[(0,float.shape.enc s0),(1,.lit (.int .i64 mode1)),(2,.lit (.int .i64 sign2)),(3,float.exact.enc x3)],[]⟩) rfl (bwp_ok (C:=[(0,8),(0,12),(0,14),(0,17),(143,47)]) ?_)
  conv=>whnf
  refine Nm.mk ⟨[.lit (.int .i64 s0.p),.lit (.int .i64 s0.w)],rfl,?_⟩
  conv=>whnf
  refine Nm.mk ⟨[.lit (.int .u64 x3.hi),.lit (.int .u64 x3.lo),.lit (.int .i64 x3.e),.lit (.bool x3.more)],rfl,?_⟩
  conv=>whnf
  refine DrawB.ofG [none,none,none,none,none,none,none] Tryz_mixed (by kernel_rfl) (by kernel_rfl) ?_
  conv=>whnf
  refine DNodeB.of (.ptr 1 2) ?_ ?_
  · conv=>whnf
    rfl
  conv=>whnf
  refine DNodeB.of (.lit (.int .i64 x3.e)) ?_ ?_
  · conv=>whnf
    rfl
  conv=>whnf
  refine DNodeB.of (.agg [.lit (.int .u64 x3.hi),.lit (.int .u64 x3.lo),.lit (.int .i64 x3.e),.lit (.bool x3.more)]) ?_ ?_
  · conv=>whnf
    rfl
  obtain ⟨t18,et18,h1⟩:=bind_elim h0; clear h0
  conv=>whnf
  refine DNodeB.of (.lit (.int .i64 t18)) ?_ ?_
  · conv=>whnf
    refine CallN.by (v:=.lit (.int .i64 t18)) (Flt.exact.long_ok et18) rfl rfl ?_
    conv=>whnf
    rfl
  obtain ⟨t19,et19,h2⟩:=letk_elim h1; clear h1
  conv=>whnf
  refine DNodeB.of (.lit (.int .i64 t19)) ?_ ?_
  · conv=>whnf
    refine Nm.mk ⟨t19,et19,?_⟩
    conv=>whnf
    rfl
  obtain ⟨t20,et20,h3⟩:=letk_elim h2; clear h2
  conv=>whnf
  refine DNodeB.of (.lit (.int .i64 t20)) ?_ ?_
  · conv=>whnf
    refine Nm.mk ⟨t20,et20,?_⟩
    conv=>whnf
    rfl
  conv=>whnf
  refine DNodeB.of (.lit (.int .i64 t20)) ?_ ?_
  · conv=>whnf
    rfl
  conv=>whnf
  refine DrawB.ofG [none,none,none,none,none,none,none,none,none] Tryz_mixed (by kernel_rfl) (by kernel_rfl) ?_
  conv=>whnf
  refine DNodeB.of (.lit (.int .i64 t20)) ?_ ?_
  · conv=>whnf
    rfl
  conv=>whnf
  refine DNodeB.of (.ptr 0 0) ?_ ?_
  · conv=>whnf
    rfl
  conv=>whnf
  refine DNodeB.of (.lit (.int .i64 s0.p)) ?_ ?_
  · conv=>whnf
    rfl
  obtain ⟨t24,et24,h4⟩:=letk_elim h3; clear h3
  conv=>whnf
  refine DNodeB.of (.lit (.int .i64 t24)) ?_ ?_
  · conv=>whnf
    refine Nm.mk ⟨t24,et24,?_⟩
    conv=>whnf
    rfl
  obtain ⟨t25,et25,h5⟩:=letk_elim h4; clear h4
  conv=>whnf
  refine DNodeB.of (.lit (.int .i64 t25)) ?_ ?_
  · conv=>whnf
    refine Nm.mk ⟨t25,et25,?_⟩
    conv=>whnf
    rfl
  conv=>whnf
  refine DNodeB.of (.agg [.lit (.int .i64 s0.p),.lit (.int .i64 s0.w)]) ?_ ?_
  · conv=>whnf
    rfl
  obtain ⟨t27,et27,h6⟩:=bind_elim h5; clear h5
  conv=>whnf
  refine DNodeB.of (.lit (.int .i64 t27)) ?_ ?_
  · conv=>whnf
    refine CallN.by (v:=.lit (.int .i64 t27)) (Flt.shape.least_ok et27) rfl rfl ?_
    conv=>whnf
    rfl
  obtain ⟨t28,et28,h7⟩:=letk_elim h6; clear h6
  conv=>whnf
  refine DNodeB.of (.lit (.int .i64 t28)) ?_ ?_
  · conv=>whnf
    refine Nm.mk ⟨t28,et28,?_⟩
    conv=>whnf
    rfl
  conv=>whnf
  refine DNodeB.of (.lit (.int .i64 t28)) ?_ ?_
  · conv=>whnf
    rfl
  conv=>whnf
  refine CutN.of (fun s=>∃ (s4_0:Int) (s4_1:Int) (m12:Int) (rest13:Int),Flt.shape.round.j0 mode1 sign2 t20 t28 s4_0 s4_1 m12 rest13 = some r ∧ s = (⟨140,[(1,.lit (.int .i64 mode1)),(2,.lit (.int .i64 sign2)),(4,.ptr 0 0),(9,.lit (.int .i64 0)),(10,.lit (.int .i64 t20)),(11,.lit (.int .i64 t28)),(12,.lit (.int .u64 m12)),(13,.lit (.int .i64 rest13))],[.box [.lit (.int .i64 s4_0),.lit (.int .i64 s4_1)]]⟩:St)) ?_ ?_
  · obtain ⟨t32,et32,h8⟩:=letk_elim h7; clear h7
    conv=>whnf
    refine Nm.mk ⟨t32,et32,?_⟩
    rcases t32 with _ | _
    · have h9:=bif_f h8
      clear h8
      obtain ⟨t45,et45,h10⟩:=letk_elim h9; clear h9
      conv=>whnf
      refine Nm.mk ⟨t45,et45,?_⟩
      obtain ⟨⟨t46_0,t46_1⟩,et46,h11⟩:=bind_elim h10; clear h10
      conv=>whnf
      refine Gate.go ?_
      conv=>whnf
      refine CallN.by (v:=.tup [.lit (.int .u64 t46_0),.lit (.int .i64 t46_1)]) (Flt.exact.right_ok et46) rfl rfl ?_
      exact BackS.by ⟨_,_,_,_,h11,rfl⟩ (Sees.of (Weak.objs (keep:=[0]) (frz:=[]) (m:=0) rfl (by decide) rfl rfl ⟨⟨_,rfl,WO.boxs ⟨.s,.s,trivial⟩⟩,⟨rfl,fun _ h=>by cases h⟩⟩ ⟨.s,.s,(.ptr _ _ 0 rfl),.s,.s,.s,.s,.s,trivial⟩))
    have h9:=bif_t h8
    clear h8
    obtain ⟨t38,et38,h10⟩:=letk_elim h9; clear h9
    conv=>whnf
    refine Nm.mk ⟨t38,et38,?_⟩
    obtain ⟨ch11,h11⟩:=chk_elim h10; clear h10
    obtain ⟨t39,et39,h12⟩:=letk_elim h11; clear h11
    conv=>whnf
    refine Side.mk ch11 ?_
    conv=>whnf
    refine Nm.mk ⟨t39,et39,?_⟩
    exact BackS.by ⟨_,_,_,_,h12,rfl⟩ (Sees.of (Weak.objs (keep:=[0]) (frz:=[]) (m:=0) rfl (by decide) rfl rfl ⟨⟨_,rfl,WO.boxs ⟨.s,.s,trivial⟩⟩,⟨rfl,fun _ h=>by cases h⟩⟩ ⟨.s,.s,(.ptr _ _ 0 rfl),.s,.s,.s,.s,.s,trivial⟩))
  clear h7
  rintro s ⟨s4_0,s4_1,m12,rest13,hj0,rfl⟩
  unfold Flt.shape.round.j0 at hj0
  conv=>whnf
  refine CutN.of (fun s=>∃ (s4_0_1:Int) (s4_1_1:Int) (flags9:Int),Flt.shape.round.j1 mode1 sign2 t28 m12 rest13 s4_0_1 s4_1_1 flags9 = some r ∧ s = (⟨140,[(1,.lit (.int .i64 mode1)),(2,.lit (.int .i64 sign2)),(4,.ptr 0 0),(9,.lit (.int .i64 flags9)),(11,.lit (.int .i64 t28)),(12,.lit (.int .u64 m12)),(13,.lit (.int .i64 rest13))],[.box [.lit (.int .i64 s4_0_1),.lit (.int .i64 s4_1_1)]]⟩:St)) ?_ ?_
  · obtain ⟨t50,et50,hj1⟩:=letk_elim hj0; clear hj0
    conv=>whnf
    refine Nm.mk ⟨t50,et50,?_⟩
    rcases t50 with _ | _
    · have hj2:=bif_f hj1
      clear hj1
      exact BackS.by ⟨_,_,_,hj2,rfl⟩ (Sees.of (Weak.objs (keep:=[0]) (frz:=[]) (m:=0) rfl (by decide) rfl rfl ⟨⟨_,rfl,WO.boxs ⟨.s,.s,trivial⟩⟩,⟨rfl,fun _ h=>by cases h⟩⟩ ⟨.s,.s,(.ptr _ _ 0 rfl),.s,.s,.s,.s,trivial⟩))
    have hj2:=bif_t hj1
    clear hj1
    conv=>whnf
    refine DrawB.ofG [none,none,none,none,none,none,none,none] Tryz_mixed (by kernel_rfl) (by kernel_rfl) ?_
    conv=>whnf
    refine DNodeB.of (.lit (.int .i64 t20)) ?_ ?_
    · conv=>whnf
      rfl
    conv=>whnf
    refine DNodeB.of (.agg [.lit (.int .i64 s4_0),.lit (.int .i64 s4_1)]) ?_ ?_
    · conv=>whnf
      rfl
    obtain ⟨t53,et53,hj3⟩:=bind_elim hj2; clear hj2
    conv=>whnf
    refine DNodeB.of (.lit (.int .i64 t53)) ?_ ?_
    · conv=>whnf
      refine CallN.by (v:=.lit (.int .i64 t53)) (Flt.shape.least_ok et53) rfl rfl ?_
      conv=>whnf
      rfl
    conv=>whnf
    refine DNodeB.of (.ptr 0 0) ?_ ?_
    · conv=>whnf
      rfl
    conv=>whnf
    refine DNodeB.of (.lit (.int .i64 s4_0)) ?_ ?_
    · conv=>whnf
      rfl
    obtain ⟨t56,et56,hj4⟩:=letk_elim hj3; clear hj3
    conv=>whnf
    refine DNodeB.of (.lit (.int .i64 t56)) ?_ ?_
    · conv=>whnf
      refine Nm.mk ⟨t56,et56,?_⟩
      conv=>whnf
      rfl
    obtain ⟨t57,et57,hj5⟩:=letk_elim hj4; clear hj4
    conv=>whnf
    refine DNodeB.of (.lit (.int .i64 t57)) ?_ ?_
    · conv=>whnf
      refine Nm.mk ⟨t57,et57,?_⟩
      conv=>whnf
      rfl
    obtain ⟨t58,et58,hj6⟩:=letk_elim hj5; clear hj5
    conv=>whnf
    refine DNodeB.of (.lit (.bool t58)) ?_ ?_
    · conv=>whnf
      refine Nm.mk ⟨t58,et58,?_⟩
      conv=>whnf
      rfl
    rcases t58 with _ | _
    · have hj7:=bif_f hj6
      clear hj6
      exact BackS.by ⟨_,_,_,hj7,rfl⟩ (Sees.of (Weak.objs (keep:=[0]) (frz:=[]) (m:=0) rfl (by decide) rfl rfl ⟨⟨_,rfl,WO.boxs ⟨.s,.s,trivial⟩⟩,⟨rfl,fun _ h=>by cases h⟩⟩ ⟨.s,.s,(.ptr _ _ 0 rfl),.s,.s,.s,.s,trivial⟩))
    have hj7:=bif_t hj6
    clear hj6
    obtain ⟨t60,et60,hj8⟩:=letk_elim hj7; clear hj7
    conv=>whnf
    refine Nm.mk ⟨t60,et60,?_⟩
    exact BackS.by ⟨_,_,_,hj8,rfl⟩ (Sees.of (Weak.objs (keep:=[0]) (frz:=[]) (m:=0) rfl (by decide) rfl rfl ⟨⟨_,rfl,WO.boxs ⟨.s,.s,trivial⟩⟩,⟨rfl,fun _ h=>by cases h⟩⟩ ⟨.s,.s,(.ptr _ _ 0 rfl),.s,.s,.s,.s,trivial⟩))
  clear hj0
  rintro s ⟨s4_0_1,s4_1_1,flags9,hj0,rfl⟩
  unfold Flt.shape.round.j1 at hj0
  conv=>whnf
  refine CutN.of (fun s=>∃ (s4_0_2:Int) (s4_1_2:Int) (m12_1:Int),Flt.shape.round.j2 mode1 sign2 t28 flags9 s4_0_2 s4_1_2 m12_1 = some r ∧ s = (⟨140,[(1,.lit (.int .i64 mode1)),(2,.lit (.int .i64 sign2)),(4,.ptr 0 0),(9,.lit (.int .i64 flags9)),(11,.lit (.int .i64 t28)),(12,.lit (.int .u64 m12_1))],[.box [.lit (.int .i64 s4_0_2),.lit (.int .i64 s4_1_2)]]⟩:St)) ?_ ?_
  · obtain ⟨t64,et64,hj1⟩:=letk_elim hj0; clear hj0
    conv=>whnf
    refine Nm.mk ⟨t64,et64,?_⟩
    obtain ⟨t65,et65,hj2⟩:=letk_elim hj1; clear hj1
    conv=>whnf
    refine Nm.mk ⟨t65,et65,?_⟩
    obtain ⟨t67,et67,hj3⟩:=bind_elim hj2; clear hj2
    conv=>whnf
    refine Gate.go ?_
    conv=>whnf
    refine CallN.by (v:=.lit (.bool t67)) (Flt.away_ok et67) rfl rfl ?_
    rcases t67 with _ | _
    · have hj4:=bif_f hj3
      clear hj3
      exact BackS.by ⟨_,_,_,hj4,rfl⟩ (Sees.of (Weak.objs (keep:=[0]) (frz:=[]) (m:=0) rfl (by decide) rfl rfl ⟨⟨_,rfl,WO.boxs ⟨.s,.s,trivial⟩⟩,⟨rfl,fun _ h=>by cases h⟩⟩ ⟨.s,.s,(.ptr _ _ 0 rfl),.s,.s,.s,trivial⟩))
    have hj4:=bif_t hj3
    clear hj3
    obtain ⟨t69,et69,hj5⟩:=letk_elim hj4; clear hj4
    conv=>whnf
    refine Nm.mk ⟨t69,et69,?_⟩
    exact BackS.by ⟨_,_,_,hj5,rfl⟩ (Sees.of (Weak.objs (keep:=[0]) (frz:=[]) (m:=0) rfl (by decide) rfl rfl ⟨⟨_,rfl,WO.boxs ⟨.s,.s,trivial⟩⟩,⟨rfl,fun _ h=>by cases h⟩⟩ ⟨.s,.s,(.ptr _ _ 0 rfl),.s,.s,.s,trivial⟩))
  clear hj0
  rintro s ⟨s4_0_2,s4_1_2,m12_1,hj0,rfl⟩
  unfold Flt.shape.round.j2 at hj0
  conv=>whnf
  refine CutN.of (fun s=>∃ (last11:Int) (m12_2:Int),Flt.shape.round.j3 mode1 sign2 flags9 s4_0_2 s4_1_2 last11 m12_2 = some r ∧ s = (⟨140,[(1,.lit (.int .i64 mode1)),(2,.lit (.int .i64 sign2)),(4,.ptr 0 0),(9,.lit (.int .i64 flags9)),(11,.lit (.int .i64 last11)),(12,.lit (.int .u64 m12_2))],[.box [.lit (.int .i64 s4_0_2),.lit (.int .i64 s4_1_2)]]⟩:St)) ?_ ?_
  · obtain ⟨chj1,hj1⟩:=chk_elim hj0; clear hj0
    obtain ⟨t73,et73,hj2⟩:=letk_elim hj1; clear hj1
    conv=>whnf
    refine Side.mk chj1 ?_
    conv=>whnf
    refine Nm.mk ⟨t73,et73,?_⟩
    obtain ⟨t74,et74,hj3⟩:=letk_elim hj2; clear hj2
    conv=>whnf
    refine Nm.mk ⟨t74,et74,?_⟩
    rcases t74 with _ | _
    · have hj4:=bif_f hj3
      clear hj3
      exact BackS.by ⟨_,_,hj4,rfl⟩ (Sees.of (Weak.objs (keep:=[0]) (frz:=[]) (m:=0) rfl (by decide) rfl rfl ⟨⟨_,rfl,WO.boxs ⟨.s,.s,trivial⟩⟩,⟨rfl,fun _ h=>by cases h⟩⟩ ⟨.s,.s,(.ptr _ _ 0 rfl),.s,.s,.s,trivial⟩))
    have hj4:=bif_t hj3
    clear hj3
    obtain ⟨chj5,hj5⟩:=chk_elim hj4; clear hj4
    obtain ⟨t76,et76,hj6⟩:=letk_elim hj5; clear hj5
    conv=>whnf
    refine Side.mk chj5 ?_
    conv=>whnf
    refine Nm.mk ⟨t76,et76,?_⟩
    obtain ⟨t78,et78,hj7⟩:=letk_elim hj6; clear hj6
    conv=>whnf
    refine Nm.mk ⟨t78,et78,?_⟩
    exact BackS.by ⟨_,_,hj7,rfl⟩ (Sees.of (Weak.objs (keep:=[0]) (frz:=[]) (m:=0) rfl (by decide) rfl rfl ⟨⟨_,rfl,WO.boxs ⟨.s,.s,trivial⟩⟩,⟨rfl,fun _ h=>by cases h⟩⟩ ⟨.s,.s,(.ptr _ _ 0 rfl),.s,.s,.s,trivial⟩))
  clear hj0
  rintro s ⟨last11,m12_2,hj0,rfl⟩
  unfold Flt.shape.round.j3 at hj0
  obtain ⟨t82,et82,hj1⟩:=letk_elim hj0; clear hj0
  conv=>whnf
  refine Nm.mk ⟨t82,et82,?_⟩
  obtain ⟨chj2,hj2⟩:=chk_elim hj1; clear hj1
  obtain ⟨t83,et83,hj3⟩:=letk_elim hj2; clear hj2
  conv=>whnf
  refine Side.mk chj2 ?_
  conv=>whnf
  refine Nm.mk ⟨t83,et83,?_⟩
  obtain ⟨t84,et84,hj4⟩:=letk_elim hj3; clear hj3
  conv=>whnf
  refine Nm.mk ⟨t84,et84,?_⟩
  rcases t84 with _ | _
  · have hj5:=bif_f hj4
    clear hj4
    conv=>whnf
    refine DrawB.ofG [none,none,none,none,none,none,none,none,none] Tryz_mixed (by kernel_rfl) (by kernel_rfl) ?_
    conv=>whnf
    refine DNodeB.of (.lit (.int .i64 last11)) ?_ ?_
    · conv=>whnf
      rfl
    conv=>whnf
    refine DNodeB.of (.ptr 0 0) ?_ ?_
    · conv=>whnf
      rfl
    conv=>whnf
    refine DNodeB.of (.lit (.int .i64 s4_0_2)) ?_ ?_
    · conv=>whnf
      rfl
    obtain ⟨t93,et93,hj6⟩:=letk_elim hj5; clear hj5
    conv=>whnf
    refine DNodeB.of (.lit (.int .i64 t93)) ?_ ?_
    · conv=>whnf
      refine Nm.mk ⟨t93,et93,?_⟩
      conv=>whnf
      rfl
    obtain ⟨t94,et94,hj7⟩:=letk_elim hj6; clear hj6
    conv=>whnf
    refine DNodeB.of (.lit (.int .i64 t94)) ?_ ?_
    · conv=>whnf
      refine Nm.mk ⟨t94,et94,?_⟩
      conv=>whnf
      rfl
    conv=>whnf
    refine DNodeB.of (.agg [.lit (.int .i64 s4_0_2),.lit (.int .i64 s4_1_2)]) ?_ ?_
    · conv=>whnf
      rfl
    obtain ⟨t96,et96,hj8⟩:=bind_elim hj7; clear hj7
    conv=>whnf
    refine DNodeB.of (.lit (.int .i64 t96)) ?_ ?_
    · conv=>whnf
      refine CallN.by (v:=.lit (.int .i64 t96)) (Flt.shape.bias_ok et96) rfl rfl ?_
      conv=>whnf
      rfl
    obtain ⟨t97,et97,hj9⟩:=letk_elim hj8; clear hj8
    conv=>whnf
    refine DNodeB.of (.lit (.int .i64 t97)) ?_ ?_
    · conv=>whnf
      refine Nm.mk ⟨t97,et97,?_⟩
      conv=>whnf
      rfl
    conv=>whnf
    refine DNodeB.of (.lit (.int .i64 t97)) ?_ ?_
    · conv=>whnf
      rfl
    obtain ⟨t100,et100,hj10⟩:=bind_elim hj9; clear hj9
    conv=>whnf
    refine Gate.go ?_
    conv=>whnf
    refine CallN.by (v:=.lit (.int .u64 t100)) (Flt.shape.top_ok et100) rfl rfl ?_
    obtain ⟨t101,et101,hj11⟩:=letk_elim hj10; clear hj10
    conv=>whnf
    refine Nm.mk ⟨t101,et101,?_⟩
    obtain ⟨t102,et102,hj12⟩:=letk_elim hj11; clear hj11
    conv=>whnf
    refine Nm.mk ⟨t102,et102,?_⟩
    rcases t102 with _ | _
    · have hj13:=bif_f hj12
      clear hj12
      conv=>whnf
      refine CutN.of (fun s=>∃ (t133:Bool),Flt.shape.round.j4 sign2 s4_0_2 s4_1_2 t133 = some r ∧ s = (⟨140,[(2,.lit (.int .i64 sign2)),(4,.ptr 0 0),(133,.lit (.bool t133))],[.box [.lit (.int .i64 s4_0_2),.lit (.int .i64 s4_1_2)]]⟩:St)) ?_ ?_
      · obtain ⟨t117,et117,hj14⟩:=letk_elim hj13; clear hj13
        conv=>whnf
        refine Nm.mk ⟨t117,et117,?_⟩
        rcases t117 with _ | _
        · have hj15:=bif_f hj14
          clear hj14
          obtain ⟨t120,et120,hj16⟩:=letk_elim hj15; clear hj15
          conv=>whnf
          refine Nm.mk ⟨t120,et120,?_⟩
          rcases t120 with _ | _
          · have hj17:=bif_f hj16
            clear hj16
            obtain ⟨t128,et128,hj18⟩:=letk_elim hj17; clear hj17
            conv=>whnf
            refine Nm.mk ⟨t128,et128,?_⟩
            rcases t128 with _ | _
            · have hj19:=bif_f hj18
              clear hj18
              exact BackS.by ⟨_,hj19,rfl⟩ (Sees.of (Weak.objs (keep:=[0]) (frz:=[]) (m:=0) rfl (by decide) rfl rfl ⟨⟨_,rfl,WO.boxs ⟨.s,.s,trivial⟩⟩,⟨rfl,fun _ h=>by cases h⟩⟩ ⟨.s,(.ptr _ _ 0 rfl),.s,trivial⟩))
            have hj19:=bif_t hj18
            clear hj18
            obtain ⟨t131,et131,hj20⟩:=letk_elim hj19; clear hj19
            conv=>whnf
            refine Nm.mk ⟨t131,et131,?_⟩
            exact BackS.by ⟨_,hj20,rfl⟩ (Sees.of (Weak.objs (keep:=[0]) (frz:=[]) (m:=0) rfl (by decide) rfl rfl ⟨⟨_,rfl,WO.boxs ⟨.s,.s,trivial⟩⟩,⟨rfl,fun _ h=>by cases h⟩⟩ ⟨.s,(.ptr _ _ 0 rfl),.s,trivial⟩))
          have hj17:=bif_t hj16
          clear hj16
          obtain ⟨t123,et123,hj18⟩:=letk_elim hj17; clear hj17
          conv=>whnf
          refine Nm.mk ⟨t123,et123,?_⟩
          rcases t123 with _ | _
          · have hj19:=bif_f hj18
            clear hj18
            obtain ⟨t128_1,et128_1,hj20⟩:=letk_elim hj19; clear hj19
            conv=>whnf
            refine Nm.mk ⟨t128_1,et128_1,?_⟩
            rcases t128_1 with _ | _
            · have hj21:=bif_f hj20
              clear hj20
              exact BackS.by ⟨_,hj21,rfl⟩ (Sees.of (Weak.objs (keep:=[0]) (frz:=[]) (m:=0) rfl (by decide) rfl rfl ⟨⟨_,rfl,WO.boxs ⟨.s,.s,trivial⟩⟩,⟨rfl,fun _ h=>by cases h⟩⟩ ⟨.s,(.ptr _ _ 0 rfl),.s,trivial⟩))
            have hj21:=bif_t hj20
            clear hj20
            obtain ⟨t131_1,et131_1,hj22⟩:=letk_elim hj21; clear hj21
            conv=>whnf
            refine Nm.mk ⟨t131_1,et131_1,?_⟩
            exact BackS.by ⟨_,hj22,rfl⟩ (Sees.of (Weak.objs (keep:=[0]) (frz:=[]) (m:=0) rfl (by decide) rfl rfl ⟨⟨_,rfl,WO.boxs ⟨.s,.s,trivial⟩⟩,⟨rfl,fun _ h=>by cases h⟩⟩ ⟨.s,(.ptr _ _ 0 rfl),.s,trivial⟩))
          have hj19:=bif_t hj18
          clear hj18
          exact BackS.by ⟨_,hj19,rfl⟩ (Sees.of (Weak.objs (keep:=[0]) (frz:=[]) (m:=0) rfl (by decide) rfl rfl ⟨⟨_,rfl,WO.boxs ⟨.s,.s,trivial⟩⟩,⟨rfl,fun _ h=>by cases h⟩⟩ ⟨.s,(.ptr _ _ 0 rfl),.s,trivial⟩))
        have hj15:=bif_t hj14
        clear hj14
        exact BackS.by ⟨_,hj15,rfl⟩ (Sees.of (Weak.objs (keep:=[0]) (frz:=[]) (m:=0) rfl (by decide) rfl rfl ⟨⟨_,rfl,WO.boxs ⟨.s,.s,trivial⟩⟩,⟨rfl,fun _ h=>by cases h⟩⟩ ⟨.s,(.ptr _ _ 0 rfl),.s,trivial⟩))
      clear hj13
      rintro s ⟨t133,hj0,rfl⟩
      unfold Flt.shape.round.j4 at hj0
      rcases t133 with _ | _
      · have hj1:=bif_f hj0
        clear hj0
        obtain ⟨t139,et139,hj2⟩:=bind_elim hj1; clear hj1
        conv=>whnf
        refine Gate.go ?_
        conv=>whnf
        refine CallN.by (v:=.lit (.int .i64 t139)) (Flt.shape.infinite_ok et139) rfl rfl ?_
        have ehj2_0:=Option.some.inj hj2
        subst ehj2_0
        conv=>whnf
        exact Returns.pure (r:=.tup [.lit (.int .i64 t139),.lit (.int .i64 20)]) rfl rfl rfl rfl ⟨rfl,rfl⟩
      have hj1:=bif_t hj0
      clear hj0
      obtain ⟨t136,et136,hj2⟩:=bind_elim hj1; clear hj1
      conv=>whnf
      refine Gate.go ?_
      conv=>whnf
      refine CallN.by (v:=.lit (.int .i64 t136)) (Flt.shape.greatest_ok et136) rfl rfl ?_
      have ehj2_0:=Option.some.inj hj2
      subst ehj2_0
      conv=>whnf
      exact Returns.pure (r:=.tup [.lit (.int .i64 t136),.lit (.int .i64 20)]) rfl rfl rfl rfl ⟨rfl,rfl⟩
    have hj13:=bif_t hj12
    clear hj12
    conv=>whnf
    refine DrawB.sees (Sees.of (Weak.objs (k:=140) (keep:=[0]) (frz:=[]) (m:=0) (ts:=[(2,.lit (.int .i64 sign2)),(4,.ptr 0 0),(9,.lit (.int .i64 flags9)),(12,.lit (.int .u64 m12_2)),(14,.lit (.int .i64 t97))]) (hs:=[.box [.lit (.int .i64 s4_0_2),.lit (.int .i64 s4_1_2)]]) rfl (by decide) rfl rfl ⟨⟨_,rfl,WO.refl rfl⟩,⟨rfl,fun _ h=>by cases h⟩⟩ ⟨.s,(.ptr _ _ 0 rfl),.s,.s,.s,trivial⟩)) ?_
    refine DrawB.ofG [none,none,none,none,none,none,none,none,none,none,none,none,none,none,none] Tryz_mixed (by kernel_rfl) (by kernel_rfl) ?_
    conv=>whnf
    refine DNodeB.of (.agg [.lit (.int .i64 s4_0_2),.lit (.int .i64 s4_1_2)]) ?_ ?_
    · conv=>whnf
      rfl
    conv=>whnf
    refine DNodeB.of (.lit (.int .i64 sign2)) ?_ ?_
    · conv=>whnf
      rfl
    conv=>whnf
    refine DNodeB.of (.lit (.int .i64 t97)) ?_ ?_
    · conv=>whnf
      rfl
    obtain ⟨t106,et106,hj14⟩:=letk_elim hj13; clear hj13
    conv=>whnf
    refine DNodeB.of (.lit (.int .u64 t106)) ?_ ?_
    · conv=>whnf
      refine Nm.mk ⟨t106,et106,?_⟩
      conv=>whnf
      rfl
    conv=>whnf
    refine DNodeB.of (.lit (.int .u64 m12_2)) ?_ ?_
    · conv=>whnf
      rfl
    conv=>whnf
    refine DNodeB.of (.ptr 0 0) ?_ ?_
    · conv=>whnf
      rfl
    conv=>whnf
    refine DNodeB.of (.lit (.int .i64 s4_0_2)) ?_ ?_
    · conv=>whnf
      rfl
    obtain ⟨t110,et110,hj15⟩:=letk_elim hj14; clear hj14
    conv=>whnf
    refine DNodeB.of (.lit (.int .i64 t110)) ?_ ?_
    · conv=>whnf
      refine Nm.mk ⟨t110,et110,?_⟩
      conv=>whnf
      rfl
    obtain ⟨chj16,hj16⟩:=chk_elim hj15; clear hj15
    obtain ⟨t111,et111,hj17⟩:=letk_elim hj16; clear hj16
    conv=>whnf
    refine DNodeB.of (.lit (.int .u64 t111)) ?_ ?_
    · conv=>whnf
      refine Side.mk chj16 ?_
      conv=>whnf
      refine Nm.mk ⟨t111,et111,?_⟩
      conv=>whnf
      rfl
    obtain ⟨t112,et112,hj18⟩:=letk_elim hj17; clear hj17
    conv=>whnf
    refine DNodeB.of (.lit (.int .u64 t112)) ?_ ?_
    · conv=>whnf
      refine Nm.mk ⟨t112,et112,?_⟩
      conv=>whnf
      rfl
    obtain ⟨t113,et113,hj19⟩:=letk_elim hj18; clear hj18
    conv=>whnf
    refine DNodeB.of (.lit (.int .u64 t113)) ?_ ?_
    · conv=>whnf
      refine Nm.mk ⟨t113,et113,?_⟩
      conv=>whnf
      rfl
    obtain ⟨t114,et114,hj20⟩:=bind_elim hj19; clear hj19
    conv=>whnf
    refine DNodeB.of (.lit (.int .i64 t114)) ?_ ?_
    · conv=>whnf
      refine CallN.by (v:=.lit (.int .i64 t114)) (Flt.shape.pack_ok et114) rfl rfl ?_
      conv=>whnf
      rfl
    conv=>whnf
    refine DNodeB.of (.lit (.int .i64 flags9)) ?_ ?_
    · conv=>whnf
      rfl
    conv=>whnf
    refine DNodeB.of (.lit (.int .i64 t114)) ?_ ?_
    · conv=>whnf
      rfl
    conv=>whnf
    refine DNodeB.of (.lit (.int .i64 flags9)) ?_ ?_
    · conv=>whnf
      rfl
    have ehj20_0:=Option.some.inj hj20
    subst ehj20_0
    conv=>whnf
    exact Returns.pure (r:=.tup [.lit (.int .i64 t114),.lit (.int .i64 flags9)]) rfl rfl rfl rfl ⟨rfl,rfl⟩
  have hj5:=bif_t hj4
  clear hj4
  obtain ⟨t88,et88,hj6⟩:=bind_elim hj5; clear hj5
  conv=>whnf
  refine Gate.go ?_
  conv=>whnf
  refine CallN.by (v:=.lit (.int .i64 t88)) (Flt.shape.pack_ok et88) rfl rfl ?_
  have ehj6_0:=Option.some.inj hj6
  subst ehj6_0
  conv=>whnf
  exact Returns.pure (r:=.tup [.lit (.int .i64 t88),.lit (.int .i64 flags9)]) rfl rfl rfl rfl ⟨rfl,rfl⟩
noncomputable def Flt.Make.j0 (mode1:Int) (sign2:Int) (m3:Int) (e4:Int) (t17_0:float.shape):Option (Int × Int × Int) :=
  letk (m3 == (0:Int)) fun t51 =>
  bif t51 then
    Option.bind (Flt.shape.zero (⟨t17_0.p,t17_0.w⟩:float.shape) sign2) fun t54 =>
    some (t54,0,0)
  else
    letk (IntKind.u64.wrap m3) fun t60 =>
    Option.bind (Flt.shape.round (⟨t17_0.p,t17_0.w⟩:float.shape) mode1 sign2 (⟨0,t60,e4,false⟩:float.exact)) fun (t63_0,t63_1) =>
    some (t63_0,t63_1,0)
noncomputable def Flt.Make (kind0:Int) (mode1:Int) (sign2:Int) (m3:Int) (e4:Int):Option (Int × Int × Int) :=
  Option.bind (Flt.of kind0) fun (t17_0,t17_1) =>
  letk (!t17_1) fun t21 =>
  bif t21 then
    some (0,0,2)
  else
    letk (decide (mode1 < (0:Int))) fun t24 =>
    bif t24 then
      some (0,0,2)
    else
      letk (decide (mode1 ≥ (4:Int))) fun t28 =>
      bif t28 then
        some (0,0,2)
      else
        letk (decide (sign2 < (0:Int))) fun t32 =>
        bif t32 then
          some (0,0,2)
        else
          letk (decide (sign2 > (1:Int))) fun t36 =>
          bif t36 then
            some (0,0,2)
          else
            letk (decide (m3 < (0:Int))) fun t40 =>
            bif t40 then
              some (0,0,2)
            else
              letk (decide (e4 < ((-2000):Int))) fun t44 =>
              bif t44 then
                some (0,0,2)
              else
                letk (decide (e4 > (2000:Int))) fun t48 =>
                bif t48 then
                  some (0,0,2)
                else
                  Flt.Make.j0 mode1 sign2 m3 e4 t17_0
theorem Flt.Make_ok {kind0:Int} {mode1:Int} {sign2:Int} {m3:Int} {e4:Int} {r:Int × Int × Int} (h0:Flt.Make kind0 mode1 sign2 m3 e4 = some r):Gives Tryz.prog 76 [.lit (.int .i64 kind0),.lit (.int .i64 mode1),.lit (.int .i64 sign2),.lit (.int .i64 m3),.lit (.int .i64 e4)] (.tup [.lit (.int .i64 r.1),.lit (.int .i64 r.2.1),.lit (.int .i64 r.2.2)]):=by
  unfold Flt.Make at h0
  refine ACalls.of_swp Tryz.func76 rfl (by decide) rfl (st0:=⟨68,[(0,.lit (.int .i64 kind0)),(1,.lit (.int .i64 mode1)),(2,.lit (.int .i64 sign2)),(3,.lit (.int .i64 m3)),(4,.lit (.int .i64 e4))],[]⟩) rfl (bwp_ok (C:=[(0,4)]) ?_)
  obtain ⟨⟨t17_0,t17_1⟩,et17,h1⟩:=bind_elim h0; clear h0
  conv=>whnf
  refine Gate.go ?_
  conv=>whnf
  refine CallN.by (v:=.tup [float.shape.enc t17_0,.lit (.bool t17_1)]) (Flt.of_ok et17) rfl rfl ?_
  conv=>whnf
  refine Nm.mk ⟨[.lit (.int .i64 0),.lit (.int .i64 0)],rfl,?_⟩
  conv=>whnf
  refine Nm.mk ⟨[.lit (.int .i64 t17_0.p),.lit (.int .i64 t17_0.w)],rfl,?_⟩
  conv=>whnf
  refine CutN.of (fun s=>Flt.Make.j0 mode1 sign2 m3 e4 t17_0 = some r ∧ s = (⟨68,[(1,.lit (.int .i64 mode1)),(2,.lit (.int .i64 sign2)),(3,.lit (.int .i64 m3)),(4,.lit (.int .i64 e4)),(13,.ptr 0 0)],[.box [.lit (.int .i64 t17_0.p),.lit (.int .i64 t17_0.w)]]⟩:St)) ?_ ?_
  · obtain ⟨t21,et21,h2⟩:=letk_elim h1; clear h1
    conv=>whnf
    refine Nm.mk ⟨t21,et21,?_⟩
    rcases t21 with _ | _
    · have h3:=bif_f h2
      clear h2
      obtain ⟨t24,et24,h4⟩:=letk_elim h3; clear h3
      conv=>whnf
      refine Nm.mk ⟨t24,et24,?_⟩
      rcases t24 with _ | _
      · have h5:=bif_f h4
        clear h4
        obtain ⟨t28,et28,h6⟩:=letk_elim h5; clear h5
        conv=>whnf
        refine Nm.mk ⟨t28,et28,?_⟩
        rcases t28 with _ | _
        · have h7:=bif_f h6
          clear h6
          obtain ⟨t32,et32,h8⟩:=letk_elim h7; clear h7
          conv=>whnf
          refine Nm.mk ⟨t32,et32,?_⟩
          rcases t32 with _ | _
          · have h9:=bif_f h8
            clear h8
            obtain ⟨t36,et36,h10⟩:=letk_elim h9; clear h9
            conv=>whnf
            refine Nm.mk ⟨t36,et36,?_⟩
            rcases t36 with _ | _
            · have h11:=bif_f h10
              clear h10
              obtain ⟨t40,et40,h12⟩:=letk_elim h11; clear h11
              conv=>whnf
              refine Nm.mk ⟨t40,et40,?_⟩
              rcases t40 with _ | _
              · have h13:=bif_f h12
                clear h12
                obtain ⟨t44,et44,h14⟩:=letk_elim h13; clear h13
                conv=>whnf
                refine Nm.mk ⟨t44,et44,?_⟩
                rcases t44 with _ | _
                · have h15:=bif_f h14
                  clear h14
                  obtain ⟨t48,et48,h16⟩:=letk_elim h15; clear h15
                  conv=>whnf
                  refine Nm.mk ⟨t48,et48,?_⟩
                  rcases t48 with _ | _
                  · have h17:=bif_f h16
                    clear h16
                    exact BackS.by ⟨h17,rfl⟩ (Sees.of (Weak.objs (keep:=[0]) (frz:=[]) (m:=0) rfl (by decide) rfl rfl ⟨⟨_,rfl,WO.boxs ⟨.s,.s,trivial⟩⟩,⟨rfl,fun _ h=>by cases h⟩⟩ ⟨.s,.s,.s,.s,(.ptr _ _ 0 rfl),trivial⟩))
                  have h17:=bif_t h16
                  clear h16
                  have eh17_0:=Option.some.inj h17
                  subst eh17_0
                  conv=>whnf
                  exact Returns.pure (r:=.tup [.lit (.int .i64 0),.lit (.int .i64 0),.lit (.int .i64 2)]) rfl rfl rfl rfl ⟨rfl,rfl⟩
                have h15:=bif_t h14
                clear h14
                have eh15_0:=Option.some.inj h15
                subst eh15_0
                conv=>whnf
                exact Returns.pure (r:=.tup [.lit (.int .i64 0),.lit (.int .i64 0),.lit (.int .i64 2)]) rfl rfl rfl rfl ⟨rfl,rfl⟩
              have h13:=bif_t h12
              clear h12
              have eh13_0:=Option.some.inj h13
              subst eh13_0
              conv=>whnf
              exact Returns.pure (r:=.tup [.lit (.int .i64 0),.lit (.int .i64 0),.lit (.int .i64 2)]) rfl rfl rfl rfl ⟨rfl,rfl⟩
            have h11:=bif_t h10
            clear h10
            have eh11_0:=Option.some.inj h11
            subst eh11_0
            conv=>whnf
            exact Returns.pure (r:=.tup [.lit (.int .i64 0),.lit (.int .i64 0),.lit (.int .i64 2)]) rfl rfl rfl rfl ⟨rfl,rfl⟩
          have h9:=bif_t h8
          clear h8
          have eh9_0:=Option.some.inj h9
          subst eh9_0
          conv=>whnf
          exact Returns.pure (r:=.tup [.lit (.int .i64 0),.lit (.int .i64 0),.lit (.int .i64 2)]) rfl rfl rfl rfl ⟨rfl,rfl⟩
        have h7:=bif_t h6
        clear h6
        have eh7_0:=Option.some.inj h7
        subst eh7_0
        conv=>whnf
        exact Returns.pure (r:=.tup [.lit (.int .i64 0),.lit (.int .i64 0),.lit (.int .i64 2)]) rfl rfl rfl rfl ⟨rfl,rfl⟩
      have h5:=bif_t h4
      clear h4
      have eh5_0:=Option.some.inj h5
      subst eh5_0
      conv=>whnf
      exact Returns.pure (r:=.tup [.lit (.int .i64 0),.lit (.int .i64 0),.lit (.int .i64 2)]) rfl rfl rfl rfl ⟨rfl,rfl⟩
    have h3:=bif_t h2
    clear h2
    have eh3_0:=Option.some.inj h3
    subst eh3_0
    conv=>whnf
    exact Returns.pure (r:=.tup [.lit (.int .i64 0),.lit (.int .i64 0),.lit (.int .i64 2)]) rfl rfl rfl rfl ⟨rfl,rfl⟩
  clear h1
  rintro s ⟨hj0,rfl⟩
  unfold Flt.Make.j0 at hj0
  obtain ⟨t51,et51,hj1⟩:=letk_elim hj0; clear hj0
  conv=>whnf
  refine Nm.mk ⟨t51,et51,?_⟩
  rcases t51 with _ | _
  · have hj2:=bif_f hj1
    clear hj1
    obtain ⟨t60,et60,hj3⟩:=letk_elim hj2; clear hj2
    conv=>whnf
    refine Nm.mk ⟨t60,et60,?_⟩
    conv=>whnf
    refine Gate.go ?_
    conv=>whnf
    refine Nm.mk ⟨[.lit (.int .u64 0),.lit (.int .u64 t60),.lit (.int .i64 e4),.lit (.bool false)],rfl,?_⟩
    obtain ⟨⟨t63_0,t63_1⟩,et63,hj4⟩:=bind_elim hj3; clear hj3
    conv=>whnf
    refine Gate.go ?_
    conv=>whnf
    refine CallN.by (v:=.tup [.lit (.int .i64 t63_0),.lit (.int .i64 t63_1)]) (Flt.shape.round_ok et63) rfl rfl ?_
    have ehj4_0:=Option.some.inj hj4
    subst ehj4_0
    conv=>whnf
    exact Returns.pure (r:=.tup [.lit (.int .i64 t63_0),.lit (.int .i64 t63_1),.lit (.int .i64 0)]) rfl rfl rfl rfl ⟨rfl,rfl⟩
  have hj2:=bif_t hj1
  clear hj1
  obtain ⟨t54,et54,hj3⟩:=bind_elim hj2; clear hj2
  conv=>whnf
  refine Gate.go ?_
  conv=>whnf
  refine CallN.by (v:=.lit (.int .i64 t54)) (Flt.shape.zero_ok et54) rfl rfl ?_
  have ehj3_0:=Option.some.inj hj3
  subst ehj3_0
  conv=>whnf
  exact Returns.pure (r:=.tup [.lit (.int .i64 t54),.lit (.int .i64 0),.lit (.int .i64 0)]) rfl rfl rfl rfl ⟨rfl,rfl⟩
noncomputable def Flt.two.j0 (a2:Int) (b3:Int) (s8_0:Int) (s8_1:Int) (x9_0:Int) (x9_1:Int) (x9_2:Int) (x9_3:Int) (y10_0:Int) (y10_1:Int) (y10_2:Int) (y10_3:Int):Option (float.shape × float.number × float.number × Bool) :=
  Option.bind (Flt.shape.read (⟨s8_0,s8_1⟩:float.shape) a2) fun (t34_0,t34_1) =>
  Option.bind (Flt.shape.read (⟨s8_0,s8_1⟩:float.shape) b3) fun (t40_0,t40_1) =>
  bif t34_1 then
    some ((⟨s8_0,s8_1⟩:float.shape),(⟨t34_0.class_,t34_0.sign,t34_0.m,t34_0.e⟩:float.number),(⟨t40_0.class_,t40_0.sign,t40_0.m,t40_0.e⟩:float.number),t40_1)
  else
    some ((⟨s8_0,s8_1⟩:float.shape),(⟨t34_0.class_,t34_0.sign,t34_0.m,t34_0.e⟩:float.number),(⟨t40_0.class_,t40_0.sign,t40_0.m,t40_0.e⟩:float.number),false)
noncomputable def Flt.two.j1 (a2:Int) (b3:Int) (t15_0:float.shape) (t27:Bool):Option (float.shape × float.number × float.number × Bool) :=
  bif t27 then
    some ((⟨t15_0.p,t15_0.w⟩:float.shape),(⟨0,0,0,0⟩:float.number),(⟨0,0,0,0⟩:float.number),false)
  else
    Flt.two.j0 a2 b3 t15_0.p t15_0.w 0 0 0 0 0 0 0 0
noncomputable def Flt.two (kind0:Int) (mode1:Int) (a2:Int) (b3:Int):Option (float.shape × float.number × float.number × Bool) :=
  Option.bind (Flt.of kind0) fun (t15_0,t15_1) =>
  letk (!t15_1) fun t19 =>
  bif t19 then
    Flt.two.j1 a2 b3 t15_0 true
  else
    letk (decide (mode1 < (0:Int))) fun t22 =>
    bif t22 then
      Flt.two.j1 a2 b3 t15_0 true
    else
      letk (decide (mode1 ≥ (4:Int))) fun t26 =>
      Flt.two.j1 a2 b3 t15_0 t26
theorem Flt.two_ok {kind0:Int} {mode1:Int} {a2:Int} {b3:Int} {r:float.shape × float.number × float.number × Bool} (h0:Flt.two kind0 mode1 a2 b3 = some r):Gives Tryz.prog 117 [.lit (.int .i64 kind0),.lit (.int .i64 mode1),.lit (.int .i64 a2),.lit (.int .i64 b3)] (.tup [float.shape.enc r.1,float.number.enc r.2.1,float.number.enc r.2.2.1,.lit (.bool r.2.2.2)]):=by
  unfold Flt.two at h0
  refine ACalls.of_swp Tryz.func117 rfl (by decide) rfl (st0:=⟨50,[(0,.lit (.int .i64 kind0)),(1,.lit (.int .i64 mode1)),(2,.lit (.int .i64 a2)),(3,.lit (.int .i64 b3))],[]⟩) rfl (bwp_ok (C:=[(0,4),(37,7)]) ?_)
  conv=>whnf
  refine Nm.mk ⟨[.lit (.int .i64 0),.lit (.int .i64 0)],rfl,?_⟩
  conv=>whnf
  refine Nm.mk ⟨[.lit (.int .i64 0),.lit (.int .i64 0),.lit (.int .u64 0),.lit (.int .i64 0)],rfl,?_⟩
  conv=>whnf
  refine Nm.mk ⟨[.lit (.int .i64 0),.lit (.int .i64 0),.lit (.int .u64 0),.lit (.int .i64 0)],rfl,?_⟩
  obtain ⟨⟨t15_0,t15_1⟩,et15,h1⟩:=bind_elim h0; clear h0
  conv=>whnf
  refine Gate.go ?_
  conv=>whnf
  refine CallN.by (v:=.tup [float.shape.enc t15_0,.lit (.bool t15_1)]) (Flt.of_ok et15) rfl rfl ?_
  conv=>whnf
  refine Nm.mk ⟨[.lit (.int .i64 t15_0.p),.lit (.int .i64 t15_0.w)],rfl,?_⟩
  conv=>whnf
  refine CutN.of (fun s=>∃ (s8_0:Int) (s8_1:Int) (x9_0:Int) (x9_1:Int) (x9_2:Int) (x9_3:Int) (y10_0:Int) (y10_1:Int) (y10_2:Int) (y10_3:Int),Flt.two.j0 a2 b3 s8_0 s8_1 x9_0 x9_1 x9_2 x9_3 y10_0 y10_1 y10_2 y10_3 = some r ∧ s = (⟨50,[(2,.lit (.int .i64 a2)),(3,.lit (.int .i64 b3)),(8,.ptr 0 0),(9,.ptr 1 0),(10,.ptr 2 0)],[.box [.lit (.int .i64 s8_0),.lit (.int .i64 s8_1)],.box [.lit (.int .i64 x9_0),.lit (.int .i64 x9_1),.lit (.int .u64 x9_2),.lit (.int .i64 x9_3)],.box [.lit (.int .i64 y10_0),.lit (.int .i64 y10_1),.lit (.int .u64 y10_2),.lit (.int .i64 y10_3)]]⟩:St)) ?_ ?_
  · conv=>whnf
    refine CutN.of (fun s=>∃ (t27:Bool),Flt.two.j1 a2 b3 t15_0 t27 = some r ∧ s = (⟨50,[(2,.lit (.int .i64 a2)),(3,.lit (.int .i64 b3)),(8,.ptr 0 0),(9,.ptr 1 0),(10,.ptr 2 0),(27,.lit (.bool t27))],[.box [.lit (.int .i64 t15_0.p),.lit (.int .i64 t15_0.w)],.box [.lit (.int .i64 0),.lit (.int .i64 0),.lit (.int .u64 0),.lit (.int .i64 0)],.box [.lit (.int .i64 0),.lit (.int .i64 0),.lit (.int .u64 0),.lit (.int .i64 0)]]⟩:St)) ?_ ?_
    · obtain ⟨t19,et19,h2⟩:=letk_elim h1; clear h1
      conv=>whnf
      refine Nm.mk ⟨t19,et19,?_⟩
      rcases t19 with _ | _
      · have h3:=bif_f h2
        clear h2
        obtain ⟨t22,et22,h4⟩:=letk_elim h3; clear h3
        conv=>whnf
        refine Nm.mk ⟨t22,et22,?_⟩
        rcases t22 with _ | _
        · have h5:=bif_f h4
          clear h4
          obtain ⟨t26,et26,h6⟩:=letk_elim h5; clear h5
          conv=>whnf
          refine Nm.mk ⟨t26,et26,?_⟩
          exact BackS.by ⟨_,h6,rfl⟩ (Sees.of (Weak.objs (keep:=[0,1,2]) (frz:=[]) (m:=0) rfl (by decide) rfl rfl ⟨⟨_,rfl,WO.boxs ⟨.s,.s,trivial⟩⟩,⟨⟨_,rfl,WO.boxs ⟨.s,.s,.s,.s,trivial⟩⟩,⟨⟨_,rfl,WO.boxs ⟨.s,.s,.s,.s,trivial⟩⟩,⟨rfl,fun _ h=>by cases h⟩⟩⟩⟩ ⟨.s,.s,(.ptr _ _ 0 rfl),(.ptr _ _ 1 rfl),(.ptr _ _ 2 rfl),.s,trivial⟩))
        have h5:=bif_t h4
        clear h4
        exact BackS.by ⟨_,h5,rfl⟩ (Sees.of (Weak.objs (keep:=[0,1,2]) (frz:=[]) (m:=0) rfl (by decide) rfl rfl ⟨⟨_,rfl,WO.boxs ⟨.s,.s,trivial⟩⟩,⟨⟨_,rfl,WO.boxs ⟨.s,.s,.s,.s,trivial⟩⟩,⟨⟨_,rfl,WO.boxs ⟨.s,.s,.s,.s,trivial⟩⟩,⟨rfl,fun _ h=>by cases h⟩⟩⟩⟩ ⟨.s,.s,(.ptr _ _ 0 rfl),(.ptr _ _ 1 rfl),(.ptr _ _ 2 rfl),.s,trivial⟩))
      have h3:=bif_t h2
      clear h2
      exact BackS.by ⟨_,h3,rfl⟩ (Sees.of (Weak.objs (keep:=[0,1,2]) (frz:=[]) (m:=0) rfl (by decide) rfl rfl ⟨⟨_,rfl,WO.boxs ⟨.s,.s,trivial⟩⟩,⟨⟨_,rfl,WO.boxs ⟨.s,.s,.s,.s,trivial⟩⟩,⟨⟨_,rfl,WO.boxs ⟨.s,.s,.s,.s,trivial⟩⟩,⟨rfl,fun _ h=>by cases h⟩⟩⟩⟩ ⟨.s,.s,(.ptr _ _ 0 rfl),(.ptr _ _ 1 rfl),(.ptr _ _ 2 rfl),.s,trivial⟩))
    clear h1
    rintro s ⟨t27,hj0,rfl⟩
    unfold Flt.two.j1 at hj0
    rcases t27 with _ | _
    · have hj1:=bif_f hj0
      clear hj0
      exact BackS.by ⟨_,_,_,_,_,_,_,_,_,_,hj1,rfl⟩ (Sees.of (Weak.objs (keep:=[0,1,2]) (frz:=[]) (m:=0) rfl (by decide) rfl rfl ⟨⟨_,rfl,WO.boxs ⟨.s,.s,trivial⟩⟩,⟨⟨_,rfl,WO.boxs ⟨.s,.s,.s,.s,trivial⟩⟩,⟨⟨_,rfl,WO.boxs ⟨.s,.s,.s,.s,trivial⟩⟩,⟨rfl,fun _ h=>by cases h⟩⟩⟩⟩ ⟨.s,.s,(.ptr _ _ 0 rfl),(.ptr _ _ 1 rfl),(.ptr _ _ 2 rfl),trivial⟩))
    have hj1:=bif_t hj0
    clear hj0
    conv=>whnf
    refine DrawB.ofFN 0 [.box [.lit (.int .i64 t15_0.p),.lit (.int .i64 t15_0.w)],.box [.lit (.int .i64 0),.lit (.int .i64 0),.lit (.int .u64 0),.lit (.int .i64 0)],.box [.lit (.int .i64 0),.lit (.int .i64 0),.lit (.int .u64 0),.lit (.int .i64 0)]] 3 3 [[0],[1],[2],[0],[1],[2],[]] [[],[],[],[0],[1],[2],[]] [none,none,none,none,none,none,none] Tryz_mixed (by kernel_rfl) rfl rfl rfl (by kernel_rfl) ?_
    conv=>whnf
    refine FNode.rd (F:=[0]) (W:=[]) (.agg [.lit (.int .i64 t15_0.p),.lit (.int .i64 t15_0.w)]) ?_ rfl rfl ?_
    · conv=>whnf
      rfl
    conv=>whnf
    refine FNode.rd (F:=[1]) (W:=[]) (.agg [.lit (.int .i64 0),.lit (.int .i64 0),.lit (.int .u64 0),.lit (.int .i64 0)]) ?_ rfl rfl ?_
    · conv=>whnf
      rfl
    conv=>whnf
    refine FNode.rd (F:=[2]) (W:=[]) (.agg [.lit (.int .i64 0),.lit (.int .i64 0),.lit (.int .u64 0),.lit (.int .i64 0)]) ?_ rfl rfl ?_
    · conv=>whnf
      rfl
    conv=>whnf
    refine FNode.pl (F:=[0]) (W:=[0]) (.undef) [.box [.lit (.int .i64 t15_0.p),.lit (.int .i64 t15_0.w)],.box [.lit (.int .i64 0),.lit (.int .i64 0),.lit (.int .u64 0),.lit (.int .i64 0)],.box [.lit (.int .i64 0),.lit (.int .i64 0),.lit (.int .u64 0),.lit (.int .i64 0)]] ?_ rfl rfl rfl rfl ?_
    · conv=>whnf
      refine Nm.mk ⟨[.lit (.int .i64 t15_0.p),.lit (.int .i64 t15_0.w)],rfl,?_⟩
      conv=>whnf
      rfl
    conv=>whnf
    refine FNode.pl (F:=[1]) (W:=[1]) (.undef) [.box [.lit (.int .i64 t15_0.p),.lit (.int .i64 t15_0.w)],.box [.lit (.int .i64 0),.lit (.int .i64 0),.lit (.int .u64 0),.lit (.int .i64 0)],.box [.lit (.int .i64 0),.lit (.int .i64 0),.lit (.int .u64 0),.lit (.int .i64 0)]] ?_ rfl rfl rfl rfl ?_
    · conv=>whnf
      refine Nm.mk ⟨[.lit (.int .i64 0),.lit (.int .i64 0),.lit (.int .u64 0),.lit (.int .i64 0)],rfl,?_⟩
      conv=>whnf
      rfl
    conv=>whnf
    refine FNode.pl (F:=[2]) (W:=[2]) (.undef) [.box [.lit (.int .i64 t15_0.p),.lit (.int .i64 t15_0.w)],.box [.lit (.int .i64 0),.lit (.int .i64 0),.lit (.int .u64 0),.lit (.int .i64 0)],.box [.lit (.int .i64 0),.lit (.int .i64 0),.lit (.int .u64 0),.lit (.int .i64 0)]] ?_ rfl rfl rfl rfl ?_
    · conv=>whnf
      refine Nm.mk ⟨[.lit (.int .i64 0),.lit (.int .i64 0),.lit (.int .u64 0),.lit (.int .i64 0)],rfl,?_⟩
      conv=>whnf
      rfl
    conv=>whnf
    refine FNode.no (W:=[]) (.lit (.bool false)) ?_ rfl ?_
    · conv=>whnf
      rfl
    have ehj1_0:=Option.some.inj hj1
    subst ehj1_0
    conv=>whnf
    exact Returns.pure (r:=.tup [float.shape.enc ((⟨t15_0.p,t15_0.w⟩:float.shape)),float.number.enc ((⟨0,0,0,0⟩:float.number)),float.number.enc ((⟨0,0,0,0⟩:float.number)),.lit (.bool false)]) rfl rfl rfl rfl ⟨rfl,rfl⟩
  clear h1
  rintro s ⟨s8_0,s8_1,x9_0,x9_1,x9_2,x9_3,y10_0,y10_1,y10_2,y10_3,hj0,rfl⟩
  unfold Flt.two.j0 at hj0
  obtain ⟨⟨t34_0,t34_1⟩,et34,hj1⟩:=bind_elim hj0; clear hj0
  conv=>whnf
  refine Gate.go ?_
  conv=>whnf
  refine CallN.by (v:=.tup [float.number.enc t34_0,.lit (.bool t34_1)]) (Flt.shape.read_ok et34) rfl rfl ?_
  conv=>whnf
  refine Nm.mk ⟨[.lit (.int .i64 t34_0.class_),.lit (.int .i64 t34_0.sign),.lit (.int .u64 t34_0.m),.lit (.int .i64 t34_0.e)],rfl,?_⟩
  obtain ⟨⟨t40_0,t40_1⟩,et40,hj2⟩:=bind_elim hj1; clear hj1
  conv=>whnf
  refine Gate.go ?_
  conv=>whnf
  refine CallN.by (v:=.tup [float.number.enc t40_0,.lit (.bool t40_1)]) (Flt.shape.read_ok et40) rfl rfl ?_
  conv=>whnf
  refine Nm.mk ⟨[.lit (.int .i64 t40_0.class_),.lit (.int .i64 t40_0.sign),.lit (.int .u64 t40_0.m),.lit (.int .i64 t40_0.e)],rfl,?_⟩
  conv=>whnf
  refine DrawB.ofFN 0 [.box [.lit (.int .i64 s8_0),.lit (.int .i64 s8_1)],.box [.lit (.int .i64 t34_0.class_),.lit (.int .i64 t34_0.sign),.lit (.int .u64 t34_0.m),.lit (.int .i64 t34_0.e)],.box [.lit (.int .i64 t40_0.class_),.lit (.int .i64 t40_0.sign),.lit (.int .u64 t40_0.m),.lit (.int .i64 t40_0.e)]] 3 3 [[0],[1],[2],[],[],[],[],[0],[1],[2],[]] [[],[],[],[],[],[],[],[0],[1],[2],[]] [none,none,none,none,none,none,none,none,none,none,none] Tryz_mixed (by kernel_rfl) rfl rfl rfl (by kernel_rfl) ?_
  conv=>whnf
  refine FNode.rd (F:=[0]) (W:=[]) (.agg [.lit (.int .i64 s8_0),.lit (.int .i64 s8_1)]) ?_ rfl rfl ?_
  · conv=>whnf
    rfl
  conv=>whnf
  refine FNode.rd (F:=[1]) (W:=[]) (.agg [.lit (.int .i64 t34_0.class_),.lit (.int .i64 t34_0.sign),.lit (.int .u64 t34_0.m),.lit (.int .i64 t34_0.e)]) ?_ rfl rfl ?_
  · conv=>whnf
    rfl
  conv=>whnf
  refine FNode.rd (F:=[2]) (W:=[]) (.agg [.lit (.int .i64 t40_0.class_),.lit (.int .i64 t40_0.sign),.lit (.int .u64 t40_0.m),.lit (.int .i64 t40_0.e)]) ?_ rfl rfl ?_
  · conv=>whnf
    rfl
  conv=>whnf
  refine FNode.no (W:=[]) (.lit (.bool t34_1)) ?_ rfl ?_
  · conv=>whnf
    rfl
  conv=>whnf
  refine FNode.no (W:=[]) (.lit (.bool t34_1)) ?_ rfl ?_
  · conv=>whnf
    rfl
  rcases t34_1 with _ | _
  · have hj3:=bif_f hj2
    clear hj2
    conv=>whnf
    refine FNode.no (W:=[]) (.lit (.bool false)) ?_ rfl ?_
    · conv=>whnf
      rfl
    conv=>whnf
    refine FNode.pl (F:=[0]) (W:=[0]) (.undef) [.box [.lit (.int .i64 s8_0),.lit (.int .i64 s8_1)],.box [.lit (.int .i64 t34_0.class_),.lit (.int .i64 t34_0.sign),.lit (.int .u64 t34_0.m),.lit (.int .i64 t34_0.e)],.box [.lit (.int .i64 t40_0.class_),.lit (.int .i64 t40_0.sign),.lit (.int .u64 t40_0.m),.lit (.int .i64 t40_0.e)]] ?_ rfl rfl rfl rfl ?_
    · conv=>whnf
      refine Nm.mk ⟨[.lit (.int .i64 s8_0),.lit (.int .i64 s8_1)],rfl,?_⟩
      conv=>whnf
      rfl
    conv=>whnf
    refine FNode.pl (F:=[1]) (W:=[1]) (.undef) [.box [.lit (.int .i64 s8_0),.lit (.int .i64 s8_1)],.box [.lit (.int .i64 t34_0.class_),.lit (.int .i64 t34_0.sign),.lit (.int .u64 t34_0.m),.lit (.int .i64 t34_0.e)],.box [.lit (.int .i64 t40_0.class_),.lit (.int .i64 t40_0.sign),.lit (.int .u64 t40_0.m),.lit (.int .i64 t40_0.e)]] ?_ rfl rfl rfl rfl ?_
    · conv=>whnf
      refine Nm.mk ⟨[.lit (.int .i64 t34_0.class_),.lit (.int .i64 t34_0.sign),.lit (.int .u64 t34_0.m),.lit (.int .i64 t34_0.e)],rfl,?_⟩
      conv=>whnf
      rfl
    conv=>whnf
    refine FNode.pl (F:=[2]) (W:=[2]) (.undef) [.box [.lit (.int .i64 s8_0),.lit (.int .i64 s8_1)],.box [.lit (.int .i64 t34_0.class_),.lit (.int .i64 t34_0.sign),.lit (.int .u64 t34_0.m),.lit (.int .i64 t34_0.e)],.box [.lit (.int .i64 t40_0.class_),.lit (.int .i64 t40_0.sign),.lit (.int .u64 t40_0.m),.lit (.int .i64 t40_0.e)]] ?_ rfl rfl rfl rfl ?_
    · conv=>whnf
      refine Nm.mk ⟨[.lit (.int .i64 t40_0.class_),.lit (.int .i64 t40_0.sign),.lit (.int .u64 t40_0.m),.lit (.int .i64 t40_0.e)],rfl,?_⟩
      conv=>whnf
      rfl
    conv=>whnf
    refine FNode.no (W:=[]) (.lit (.bool false)) ?_ rfl ?_
    · conv=>whnf
      rfl
    have ehj3_0:=Option.some.inj hj3
    subst ehj3_0
    conv=>whnf
    exact Returns.pure (r:=.tup [float.shape.enc ((⟨s8_0,s8_1⟩:float.shape)),float.number.enc ((⟨t34_0.class_,t34_0.sign,t34_0.m,t34_0.e⟩:float.number)),float.number.enc ((⟨t40_0.class_,t40_0.sign,t40_0.m,t40_0.e⟩:float.number)),.lit (.bool false)]) rfl rfl rfl rfl ⟨rfl,rfl⟩
  have hj3:=bif_t hj2
  clear hj2
  conv=>whnf
  refine FNode.no (W:=[]) (.lit (.bool t40_1)) ?_ rfl ?_
  · conv=>whnf
    rfl
  conv=>whnf
  refine FNode.no (W:=[]) (.lit (.bool t40_1)) ?_ rfl ?_
  · conv=>whnf
    rfl
  conv=>whnf
  refine FNode.pl (F:=[0]) (W:=[0]) (.undef) [.box [.lit (.int .i64 s8_0),.lit (.int .i64 s8_1)],.box [.lit (.int .i64 t34_0.class_),.lit (.int .i64 t34_0.sign),.lit (.int .u64 t34_0.m),.lit (.int .i64 t34_0.e)],.box [.lit (.int .i64 t40_0.class_),.lit (.int .i64 t40_0.sign),.lit (.int .u64 t40_0.m),.lit (.int .i64 t40_0.e)]] ?_ rfl rfl rfl rfl ?_
  · conv=>whnf
    refine Nm.mk ⟨[.lit (.int .i64 s8_0),.lit (.int .i64 s8_1)],rfl,?_⟩
    conv=>whnf
    rfl
  conv=>whnf
  refine FNode.pl (F:=[1]) (W:=[1]) (.undef) [.box [.lit (.int .i64 s8_0),.lit (.int .i64 s8_1)],.box [.lit (.int .i64 t34_0.class_),.lit (.int .i64 t34_0.sign),.lit (.int .u64 t34_0.m),.lit (.int .i64 t34_0.e)],.box [.lit (.int .i64 t40_0.class_),.lit (.int .i64 t40_0.sign),.lit (.int .u64 t40_0.m),.lit (.int .i64 t40_0.e)]] ?_ rfl rfl rfl rfl ?_
  · conv=>whnf
    refine Nm.mk ⟨[.lit (.int .i64 t34_0.class_),.lit (.int .i64 t34_0.sign),.lit (.int .u64 t34_0.m),.lit (.int .i64 t34_0.e)],rfl,?_⟩
    conv=>whnf
    rfl
  conv=>whnf
  refine FNode.pl (F:=[2]) (W:=[2]) (.undef) [.box [.lit (.int .i64 s8_0),.lit (.int .i64 s8_1)],.box [.lit (.int .i64 t34_0.class_),.lit (.int .i64 t34_0.sign),.lit (.int .u64 t34_0.m),.lit (.int .i64 t34_0.e)],.box [.lit (.int .i64 t40_0.class_),.lit (.int .i64 t40_0.sign),.lit (.int .u64 t40_0.m),.lit (.int .i64 t40_0.e)]] ?_ rfl rfl rfl rfl ?_
  · conv=>whnf
    refine Nm.mk ⟨[.lit (.int .i64 t40_0.class_),.lit (.int .i64 t40_0.sign),.lit (.int .u64 t40_0.m),.lit (.int .i64 t40_0.e)],rfl,?_⟩
    conv=>whnf
    rfl
  conv=>whnf
  refine FNode.no (W:=[]) (.lit (.bool t40_1)) ?_ rfl ?_
  · conv=>whnf
    rfl
  have ehj3_0:=Option.some.inj hj3
  subst ehj3_0
  conv=>whnf
  exact Returns.pure (r:=.tup [float.shape.enc ((⟨s8_0,s8_1⟩:float.shape)),float.number.enc ((⟨t34_0.class_,t34_0.sign,t34_0.m,t34_0.e⟩:float.number)),float.number.enc ((⟨t40_0.class_,t40_0.sign,t40_0.m,t40_0.e⟩:float.number)),.lit (.bool t40_1)]) rfl rfl rfl rfl ⟨rfl,rfl⟩
noncomputable def Flt.shape.quiet (s0:float.shape):Option Int :=
  Option.bind (Flt.shape.top (⟨s0.p,s0.w⟩:float.shape)) fun t5 =>
  letk (IntKind.i64.wrap (s0.p - (2:Int))) fun t8 =>
  chk (0 ≤ t8) <|
  letk (IntKind.u64.wrap ((1:Int) * 2 ^ (min t8.toNat (IntKind.u64).bits))) fun t9 =>
  Option.bind (Flt.shape.pack (⟨s0.p,s0.w⟩:float.shape) 0 t5 t9) fun t10 =>
  some t10
theorem Flt.shape.quiet_ok {s0:float.shape} {r:Int} (h0:Flt.shape.quiet s0 = some r):Gives Tryz.prog 172 [float.shape.enc s0] (.lit (.int .i64 r)):=by
  unfold Flt.shape.quiet at h0
  refine ACalls.of_swp Tryz.func172 rfl (by decide) rfl (st0:=⟨11,[(0,float.shape.enc s0)],[]⟩) rfl (bwp_ok (C:=[]) ?_)
  conv=>whnf
  refine Nm.mk ⟨[.lit (.int .i64 s0.p),.lit (.int .i64 s0.w)],rfl,?_⟩
  conv=>whnf
  refine DrawB.ofG [none,none,none,none,none,none,none,none,none] Tryz_mixed (by kernel_rfl) (by kernel_rfl) ?_
  conv=>whnf
  refine DNodeB.of (.agg [.lit (.int .i64 s0.p),.lit (.int .i64 s0.w)]) ?_ ?_
  · conv=>whnf
    rfl
  conv=>whnf
  refine DNodeB.of (.agg [.lit (.int .i64 s0.p),.lit (.int .i64 s0.w)]) ?_ ?_
  · conv=>whnf
    rfl
  obtain ⟨t5,et5,h1⟩:=bind_elim h0; clear h0
  conv=>whnf
  refine DNodeB.of (.lit (.int .u64 t5)) ?_ ?_
  · conv=>whnf
    refine CallN.by (v:=.lit (.int .u64 t5)) (Flt.shape.top_ok et5) rfl rfl ?_
    conv=>whnf
    rfl
  conv=>whnf
  refine DNodeB.of (.ptr 0 0) ?_ ?_
  · conv=>whnf
    rfl
  conv=>whnf
  refine DNodeB.of (.lit (.int .i64 s0.p)) ?_ ?_
  · conv=>whnf
    rfl
  obtain ⟨t8,et8,h2⟩:=letk_elim h1; clear h1
  conv=>whnf
  refine DNodeB.of (.lit (.int .i64 t8)) ?_ ?_
  · conv=>whnf
    refine Nm.mk ⟨t8,et8,?_⟩
    conv=>whnf
    rfl
  obtain ⟨ch3,h3⟩:=chk_elim h2; clear h2
  obtain ⟨t9,et9,h4⟩:=letk_elim h3; clear h3
  conv=>whnf
  refine DNodeB.of (.lit (.int .u64 t9)) ?_ ?_
  · conv=>whnf
    refine Side.mk ch3 ?_
    conv=>whnf
    refine Nm.mk ⟨t9,et9,?_⟩
    conv=>whnf
    rfl
  obtain ⟨t10,et10,h5⟩:=bind_elim h4; clear h4
  conv=>whnf
  refine DNodeB.of (.lit (.int .i64 t10)) ?_ ?_
  · conv=>whnf
    refine CallN.by (v:=.lit (.int .i64 t10)) (Flt.shape.pack_ok et10) rfl rfl ?_
    conv=>whnf
    rfl
  conv=>whnf
  refine DNodeB.of (.lit (.int .i64 t10)) ?_ ?_
  · conv=>whnf
    rfl
  have eh5_0:=Option.some.inj h5
  subst eh5_0
  conv=>whnf
  exact Returns.pure (r:=.lit (.int .i64 t10)) rfl rfl rfl rfl ⟨rfl,rfl⟩
noncomputable def Flt.shape.none (s0:float.shape) (mode1:Int):Option Int :=
  letk (mode1 == (2:Int)) fun t6 =>
  bif t6 then
    Option.bind (Flt.shape.zero (⟨s0.p,s0.w⟩:float.shape) 1) fun t8 =>
    some t8
  else
    Option.bind (Flt.shape.zero (⟨s0.p,s0.w⟩:float.shape) 0) fun t10 =>
    some t10
theorem Flt.shape.none_ok {s0:float.shape} {mode1:Int} {r:Int} (h0:Flt.shape.none s0 mode1 = some r):Gives Tryz.prog 173 [float.shape.enc s0,.lit (.int .i64 mode1)] (.lit (.int .i64 r)):=by
  unfold Flt.shape.none at h0
  refine ACalls.of_swp Tryz.func173 rfl (by decide) rfl (st0:=⟨11,[(0,float.shape.enc s0),(1,.lit (.int .i64 mode1))],[]⟩) rfl (bwp_ok (C:=[]) ?_)
  conv=>whnf
  refine Nm.mk ⟨[.lit (.int .i64 s0.p),.lit (.int .i64 s0.w)],rfl,?_⟩
  obtain ⟨t6,et6,h1⟩:=letk_elim h0; clear h0
  conv=>whnf
  refine Nm.mk ⟨t6,et6,?_⟩
  rcases t6 with _ | _
  · have h2:=bif_f h1
    clear h1
    obtain ⟨t10,et10,h3⟩:=bind_elim h2; clear h2
    conv=>whnf
    refine Gate.go ?_
    conv=>whnf
    refine CallN.by (v:=.lit (.int .i64 t10)) (Flt.shape.zero_ok et10) rfl rfl ?_
    have eh3_0:=Option.some.inj h3
    subst eh3_0
    conv=>whnf
    exact Returns.pure (r:=.lit (.int .i64 t10)) rfl rfl rfl rfl ⟨rfl,rfl⟩
  have h2:=bif_t h1
  clear h1
  obtain ⟨t8,et8,h3⟩:=bind_elim h2; clear h2
  conv=>whnf
  refine Gate.go ?_
  conv=>whnf
  refine CallN.by (v:=.lit (.int .i64 t8)) (Flt.shape.zero_ok et8) rfl rfl ?_
  have eh3_0:=Option.some.inj h3
  subst eh3_0
  conv=>whnf
  exact Returns.pure (r:=.lit (.int .i64 t8)) rfl rfl rfl rfl ⟨rfl,rfl⟩
noncomputable def Flt.left (m0:Int) (n1:Int):Option (Int × Int) :=
  letk (decide (n1 ≥ (64:Int))) fun t7 =>
  bif t7 then
    letk (IntKind.i64.wrap (n1 - (64:Int))) fun t10 =>
    chk (0 ≤ t10) <|
    letk (IntKind.u64.wrap (m0 * 2 ^ (min t10.toNat (IntKind.u64).bits))) fun t11 =>
    some (t11,0)
  else
    letk (IntKind.i64.wrap ((64:Int) - n1)) fun t14 =>
    chk (0 ≤ t14) <|
    letk ((IntKind.u64,m0.fdiv (2 ^ (min t14.toNat (IntKind.u64).bits))).2) fun t15 =>
    chk (0 ≤ n1) <|
    letk (IntKind.u64.wrap (m0 * 2 ^ (min n1.toNat (IntKind.u64).bits))) fun t18 =>
    some (t15,t18)
theorem Flt.left_ok {m0:Int} {n1:Int} {r:Int × Int} (h0:Flt.left m0 n1 = some r):Gives Tryz.prog 190 [.lit (.int .u64 m0),.lit (.int .i64 n1)] (.tup [.lit (.int .u64 r.1),.lit (.int .u64 r.2)]):=by
  unfold Flt.left at h0
  refine ACalls.of_swp Tryz.func190 rfl (by decide) rfl (st0:=⟨19,[(0,.lit (.int .u64 m0)),(1,.lit (.int .i64 n1))],[]⟩) rfl (bwp_ok (C:=[]) ?_)
  obtain ⟨t7,et7,h1⟩:=letk_elim h0; clear h0
  conv=>whnf
  refine Nm.mk ⟨t7,et7,?_⟩
  rcases t7 with _ | _
  · have h2:=bif_f h1
    clear h1
    conv=>whnf
    refine DrawB.ofG [none,none,none,none,none,none,none,none,none] Tryz_mixed (by kernel_rfl) (by kernel_rfl) ?_
    conv=>whnf
    refine DNodeB.of (.lit (.int .u64 m0)) ?_ ?_
    · conv=>whnf
      rfl
    conv=>whnf
    refine DNodeB.of (.lit (.int .i64 n1)) ?_ ?_
    · conv=>whnf
      rfl
    obtain ⟨t14,et14,h3⟩:=letk_elim h2; clear h2
    conv=>whnf
    refine DNodeB.of (.lit (.int .i64 t14)) ?_ ?_
    · conv=>whnf
      refine Nm.mk ⟨t14,et14,?_⟩
      conv=>whnf
      rfl
    obtain ⟨ch4,h4⟩:=chk_elim h3; clear h3
    obtain ⟨t15,et15,h5⟩:=letk_elim h4; clear h4
    conv=>whnf
    refine DNodeB.of (.lit (.int .u64 t15)) ?_ ?_
    · conv=>whnf
      refine Side.mk ch4 ?_
      conv=>whnf
      refine Nm.mk ⟨t15,et15,?_⟩
      conv=>whnf
      rfl
    conv=>whnf
    refine DNodeB.of (.lit (.int .u64 m0)) ?_ ?_
    · conv=>whnf
      rfl
    conv=>whnf
    refine DNodeB.of (.lit (.int .i64 n1)) ?_ ?_
    · conv=>whnf
      rfl
    obtain ⟨ch6,h6⟩:=chk_elim h5; clear h5
    obtain ⟨t18,et18,h7⟩:=letk_elim h6; clear h6
    conv=>whnf
    refine DNodeB.of (.lit (.int .u64 t18)) ?_ ?_
    · conv=>whnf
      refine Side.mk ch6 ?_
      conv=>whnf
      refine Nm.mk ⟨t18,et18,?_⟩
      conv=>whnf
      rfl
    conv=>whnf
    refine DNodeB.of (.lit (.int .u64 t15)) ?_ ?_
    · conv=>whnf
      rfl
    conv=>whnf
    refine DNodeB.of (.lit (.int .u64 t18)) ?_ ?_
    · conv=>whnf
      rfl
    have eh7_0:=Option.some.inj h7
    subst eh7_0
    conv=>whnf
    exact Returns.pure (r:=.tup [.lit (.int .u64 t15),.lit (.int .u64 t18)]) rfl rfl rfl rfl ⟨rfl,rfl⟩
  have h2:=bif_t h1
  clear h1
  obtain ⟨t10,et10,h3⟩:=letk_elim h2; clear h2
  conv=>whnf
  refine Nm.mk ⟨t10,et10,?_⟩
  obtain ⟨ch4,h4⟩:=chk_elim h3; clear h3
  obtain ⟨t11,et11,h5⟩:=letk_elim h4; clear h4
  conv=>whnf
  refine Side.mk ch4 ?_
  conv=>whnf
  refine Nm.mk ⟨t11,et11,?_⟩
  have eh5_0:=Option.some.inj h5
  subst eh5_0
  conv=>whnf
  exact Returns.pure (r:=.tup [.lit (.int .u64 t11),.lit (.int .u64 0)]) rfl rfl rfl rfl ⟨rfl,rfl⟩
noncomputable def Flt.shape.sum.j4 (mode1:Int) (lo15:Int) (hi17:Int) (sign18:Int) (s4_0_2:Int) (s4_1_2:Int) (a12_0_2:Int) (a12_1_2:Int) (a12_2_2:Int) (a12_3_3:Bool):Option (Int × Int) :=
  Option.bind (Flt.shape.round (⟨s4_0_2,s4_1_2⟩:float.shape) mode1 sign18 (⟨hi17,lo15,a12_2_2,a12_3_3⟩:float.exact)) fun (t122_0,t122_1) =>
  some (t122_0,t122_1)
noncomputable def Flt.shape.sum.j5 (mode1:Int) (s4_0_1:Int) (s4_1_1:Int) (a12_0_1:Int) (a12_1_1:Int) (a12_2_1:Int) (lo15:Int) (hi17:Int) (sign18:Int) (a12_3_4:Bool) (t110:Bool):Option (Int × Int) :=
  bif t110 then
    Option.bind (Flt.shape.none (⟨s4_0_1,s4_1_1⟩:float.shape) mode1) fun t113 =>
    some (t113,0)
  else
    Flt.shape.sum.j4 mode1 lo15 hi17 sign18 s4_0_1 s4_1_1 a12_0_1 a12_1_1 a12_2_1 a12_3_4
noncomputable def Flt.shape.sum.j3 (mode1:Int) (s4_0_1:Int) (s4_1_1:Int) (a12_0_1:Int) (a12_1_1:Int) (a12_2_1:Int) (a12_3_2:Bool) (lo15:Int) (hi17:Int) (sign18:Int):Option (Int × Int) :=
  letk (hi17 == (0:Int)) fun t106 =>
  bif t106 then
    letk (lo15 == (0:Int)) fun t109 =>
    Flt.shape.sum.j5 mode1 s4_0_1 s4_1_1 a12_0_1 a12_1_1 a12_2_1 lo15 hi17 sign18 a12_3_2 t109
  else
    Flt.shape.sum.j5 mode1 s4_0_1 s4_1_1 a12_0_1 a12_1_1 a12_2_1 lo15 hi17 sign18 a12_3_2 false
noncomputable def Flt.shape.sum.j2 (mode1:Int) (s4_0:Int) (s4_1:Int) (x6_0:Int) (x6_1:Int) (x6_2:Int) (x6_3:Int) (y7_0:Int) (y7_1:Int) (y7_2:Int) (y7_3:Int) (a12_0:Int) (a12_1:Int) (a12_2:Int) (a12_3_1:Bool) (b13_1:Int):Option (Int × Int) :=
  Option.bind (Bits.Sub64 a12_1 b13_1 0) fun (t78_0,t78_1) =>
  Option.bind (Bits.Sub64 a12_0 0 t78_1) fun (t85_0,t85_1) =>
  letk (t85_1 == (1:Int)) fun t91 =>
  bif t91 then
    Option.bind (Bits.Sub64 0 t78_0 0) fun (t96_0,t96_1) =>
    Option.bind (Bits.Sub64 0 t85_0 t96_1) fun (t102_0,t102_1) =>
    Flt.shape.sum.j3 mode1 s4_0 s4_1 a12_0 a12_1 a12_2 a12_3_1 t96_0 t102_0 y7_1
  else
    Flt.shape.sum.j3 mode1 s4_0 s4_1 a12_0 a12_1 a12_2 a12_3_1 t78_0 t85_0 x6_1
noncomputable def Flt.shape.sum.j1 (mode1:Int) (s4_0:Int) (s4_1:Int) (x6_0:Int) (x6_1:Int) (x6_2:Int) (x6_3:Int) (y7_0:Int) (y7_1:Int) (y7_2:Int) (y7_3:Int) (far11_1:Bool) (a12_0:Int) (a12_1:Int) (a12_2:Int) (a12_3:Bool) (b13:Int):Option (Int × Int) :=
  letk (x6_1 == y7_1) fun t51 =>
  bif t51 then
    Option.bind (Bits.Add64 a12_1 b13 0) fun (t56_0,t56_1) =>
    letk (IntKind.u64.wrap (a12_0 + t56_1)) fun t63 =>
    Option.bind (Flt.shape.round (⟨s4_0,s4_1⟩:float.shape) mode1 x6_1 (⟨t63,t56_0,a12_2,a12_3⟩:float.exact)) fun (t70_0,t70_1) =>
    some (t70_0,t70_1)
  else
    bif far11_1 then
      Flt.shape.sum.j2 mode1 s4_0 s4_1 x6_0 x6_1 x6_2 x6_3 y7_0 y7_1 y7_2 y7_3 a12_0 a12_1 a12_2 a12_3 1
    else
      Flt.shape.sum.j2 mode1 s4_0 s4_1 x6_0 x6_1 x6_2 x6_3 y7_0 y7_1 y7_2 y7_3 a12_0 a12_1 a12_2 a12_3 b13
noncomputable def Flt.shape.sum.j0 (s0:float.shape) (mode1:Int) (x2:float.number) (y3:float.number) (apart10:Int) (far11:Bool):Option (Int × Int) :=
  letk (IntKind.i64.wrap (x2.e - apart10)) fun t32 =>
  Option.bind (Flt.left x2.m apart10) fun (t38_0,t38_1) =>
  bif far11 then
    Flt.shape.sum.j1 mode1 s0.p s0.w x2.class_ x2.sign x2.m x2.e y3.class_ y3.sign y3.m y3.e true t38_0 t38_1 t32 true 0
  else
    Flt.shape.sum.j1 mode1 s0.p s0.w x2.class_ x2.sign x2.m x2.e y3.class_ y3.sign y3.m y3.e false t38_0 t38_1 t32 false y3.m
noncomputable def Flt.shape.sum (s0:float.shape) (mode1:Int) (x2:float.number) (y3:float.number):Option (Int × Int) :=
  letk (IntKind.i64.wrap (x2.e - y3.e)) fun t23 =>
  letk (decide (t23 > (70:Int))) fun t25 =>
  bif t25 then
    Flt.shape.sum.j0 s0 mode1 x2 y3 70 true
  else
    Flt.shape.sum.j0 s0 mode1 x2 y3 t23 false
theorem Flt.shape.sum_ok {s0:float.shape} {mode1:Int} {x2:float.number} {y3:float.number} {r:Int × Int} (h0:Flt.shape.sum s0 mode1 x2 y3 = some r):Gives Tryz.prog 174 [float.shape.enc s0,.lit (.int .i64 mode1),float.number.enc x2,float.number.enc y3] (.tup [.lit (.int .i64 r.1),.lit (.int .i64 r.2)]):=by
  unfold Flt.shape.sum at h0
  refine ACalls.of_swp Tryz.func174 rfl (by decide) rfl (st0:=⟨125,[(0,float.shape.enc s0),(1,.lit (.int .i64 mode1)),(2,float.number.enc x2),(3,float.number.enc y3)],[]⟩) rfl (bwp_ok (C:=[(0,5),(0,10),(0,17),(0,24),(0,26),(120,51)]) ?_)
  conv=>whnf
  refine Nm.mk ⟨[.lit (.int .i64 s0.p),.lit (.int .i64 s0.w)],rfl,?_⟩
  conv=>whnf
  refine Nm.mk ⟨[.lit (.int .i64 x2.class_),.lit (.int .i64 x2.sign),.lit (.int .u64 x2.m),.lit (.int .i64 x2.e)],rfl,?_⟩
  conv=>whnf
  refine Nm.mk ⟨[.lit (.int .i64 y3.class_),.lit (.int .i64 y3.sign),.lit (.int .u64 y3.m),.lit (.int .i64 y3.e)],rfl,?_⟩
  obtain ⟨t23,et23,h1⟩:=letk_elim h0; clear h0
  conv=>whnf
  refine Nm.mk ⟨t23,et23,?_⟩
  obtain ⟨t25,et25,h2⟩:=letk_elim h1; clear h1
  conv=>whnf
  refine Nm.mk ⟨t25,et25,?_⟩
  conv=>whnf
  refine CutN.of (fun s=>∃ (apart10:Int) (far11:Bool),Flt.shape.sum.j0 s0 mode1 x2 y3 apart10 far11 = some r ∧ s = (⟨125,[(1,.lit (.int .i64 mode1)),(4,.ptr 0 0),(6,.ptr 1 0),(7,.ptr 2 0),(10,.lit (.int .i64 apart10)),(11,.lit (.bool far11))],[.box [.lit (.int .i64 s0.p),.lit (.int .i64 s0.w)],.box [.lit (.int .i64 x2.class_),.lit (.int .i64 x2.sign),.lit (.int .u64 x2.m),.lit (.int .i64 x2.e)],.box [.lit (.int .i64 y3.class_),.lit (.int .i64 y3.sign),.lit (.int .u64 y3.m),.lit (.int .i64 y3.e)]]⟩:St)) ?_ ?_
  · rcases t25 with _ | _
    · have h3:=bif_f h2
      clear h2
      exact BackS.by ⟨_,_,h3,rfl⟩ (Sees.of (Weak.objs (keep:=[0,1,2]) (frz:=[]) (m:=0) rfl (by decide) rfl rfl ⟨⟨_,rfl,WO.boxs ⟨.s,.s,trivial⟩⟩,⟨⟨_,rfl,WO.boxs ⟨.s,.s,.s,.s,trivial⟩⟩,⟨⟨_,rfl,WO.boxs ⟨.s,.s,.s,.s,trivial⟩⟩,⟨rfl,fun _ h=>by cases h⟩⟩⟩⟩ ⟨.s,(.ptr _ _ 0 rfl),(.ptr _ _ 1 rfl),(.ptr _ _ 2 rfl),.s,.s,trivial⟩))
    have h3:=bif_t h2
    clear h2
    exact BackS.by ⟨_,_,h3,rfl⟩ (Sees.of (Weak.objs (keep:=[0,1,2]) (frz:=[]) (m:=0) rfl (by decide) rfl rfl ⟨⟨_,rfl,WO.boxs ⟨.s,.s,trivial⟩⟩,⟨⟨_,rfl,WO.boxs ⟨.s,.s,.s,.s,trivial⟩⟩,⟨⟨_,rfl,WO.boxs ⟨.s,.s,.s,.s,trivial⟩⟩,⟨rfl,fun _ h=>by cases h⟩⟩⟩⟩ ⟨.s,(.ptr _ _ 0 rfl),(.ptr _ _ 1 rfl),(.ptr _ _ 2 rfl),.s,.s,trivial⟩))
  clear h2
  rintro s ⟨apart10,far11,hj0,rfl⟩
  unfold Flt.shape.sum.j0 at hj0
  obtain ⟨t32,et32,hj1⟩:=letk_elim hj0; clear hj0
  conv=>whnf
  refine Nm.mk ⟨t32,et32,?_⟩
  conv=>whnf
  refine Gate.go ?_
  conv=>whnf
  refine Nm.mk ⟨[.lit (.int .u64 0),.lit (.int .u64 x2.m),.lit (.int .i64 t32),.lit (.bool false)],rfl,?_⟩
  conv=>whnf
  refine Nm.mk ⟨[.lit (.int .u64 0),.lit (.int .u64 0),.lit (.int .i64 0),.lit (.bool false)],rfl,?_⟩
  conv=>whnf
  refine Nm.mk ⟨[.lit (.int .u64 0),.lit (.int .u64 x2.m),.lit (.int .i64 t32),.lit (.bool false)],rfl,?_⟩
  obtain ⟨⟨t38_0,t38_1⟩,et38,hj2⟩:=bind_elim hj1; clear hj1
  conv=>whnf
  refine Gate.go ?_
  conv=>whnf
  refine CallN.by (v:=.tup [.lit (.int .u64 t38_0),.lit (.int .u64 t38_1)]) (Flt.left_ok et38) rfl rfl ?_
  conv=>whnf
  refine Nm.mk ⟨[.lit (.int .u64 t38_0),.lit (.int .u64 x2.m),.lit (.int .i64 t32),.lit (.bool false)],rfl,?_⟩
  conv=>whnf
  refine Nm.mk ⟨[.lit (.int .u64 t38_0),.lit (.int .u64 t38_1),.lit (.int .i64 t32),.lit (.bool false)],rfl,?_⟩
  conv=>whnf
  refine CutN.of (fun s=>∃ (s4_0:Int) (s4_1:Int) (x6_0:Int) (x6_1:Int) (x6_2:Int) (x6_3:Int) (y7_0:Int) (y7_1:Int) (y7_2:Int) (y7_3:Int) (far11_1:Bool) (a12_0:Int) (a12_1:Int) (a12_2:Int) (a12_3:Bool) (b13:Int),Flt.shape.sum.j1 mode1 s4_0 s4_1 x6_0 x6_1 x6_2 x6_3 y7_0 y7_1 y7_2 y7_3 far11_1 a12_0 a12_1 a12_2 a12_3 b13 = some r ∧ s = (⟨125,[(1,.lit (.int .i64 mode1)),(4,.ptr 0 0),(6,.ptr 1 0),(7,.ptr 2 0),(11,.lit (.bool far11_1)),(12,.ptr 3 0),(13,.lit (.int .u64 b13))],[.box [.lit (.int .i64 s4_0),.lit (.int .i64 s4_1)],.box [.lit (.int .i64 x6_0),.lit (.int .i64 x6_1),.lit (.int .u64 x6_2),.lit (.int .i64 x6_3)],.box [.lit (.int .i64 y7_0),.lit (.int .i64 y7_1),.lit (.int .u64 y7_2),.lit (.int .i64 y7_3)],.box [.lit (.int .u64 a12_0),.lit (.int .u64 a12_1),.lit (.int .i64 a12_2),.lit (.bool a12_3)]]⟩:St)) ?_ ?_
  · rcases far11 with _ | _
    · have hj3:=bif_f hj2
      clear hj2
      exact BackS.by ⟨_,_,_,_,_,_,_,_,_,_,_,_,_,_,_,_,hj3,rfl⟩ (Sees.of (Weak.objs (keep:=[0,1,2,3]) (frz:=[]) (m:=0) rfl (by decide) rfl rfl ⟨⟨_,rfl,WO.boxs ⟨.s,.s,trivial⟩⟩,⟨⟨_,rfl,WO.boxs ⟨.s,.s,.s,.s,trivial⟩⟩,⟨⟨_,rfl,WO.boxs ⟨.s,.s,.s,.s,trivial⟩⟩,⟨⟨_,rfl,WO.boxs ⟨.s,.s,.s,.s,trivial⟩⟩,⟨rfl,fun _ h=>by cases h⟩⟩⟩⟩⟩ ⟨.s,(.ptr _ _ 0 rfl),(.ptr _ _ 1 rfl),(.ptr _ _ 2 rfl),.s,(.ptr _ _ 3 rfl),.s,trivial⟩))
    have hj3:=bif_t hj2
    clear hj2
    conv=>whnf
    refine Nm.mk ⟨[.lit (.int .u64 t38_0),.lit (.int .u64 t38_1),.lit (.int .i64 t32),.lit (.bool true)],rfl,?_⟩
    exact BackS.by ⟨_,_,_,_,_,_,_,_,_,_,_,_,_,_,_,_,hj3,rfl⟩ (Sees.of (Weak.objs (keep:=[0,1,2,3]) (frz:=[]) (m:=0) rfl (by decide) rfl rfl ⟨⟨_,rfl,WO.boxs ⟨.s,.s,trivial⟩⟩,⟨⟨_,rfl,WO.boxs ⟨.s,.s,.s,.s,trivial⟩⟩,⟨⟨_,rfl,WO.boxs ⟨.s,.s,.s,.s,trivial⟩⟩,⟨⟨_,rfl,WO.boxs ⟨.s,.s,.s,.s,trivial⟩⟩,⟨rfl,fun _ h=>by cases h⟩⟩⟩⟩⟩ ⟨.s,(.ptr _ _ 0 rfl),(.ptr _ _ 1 rfl),(.ptr _ _ 2 rfl),.s,(.ptr _ _ 3 rfl),.s,trivial⟩))
  clear hj2
  rintro s ⟨s4_0,s4_1,x6_0,x6_1,x6_2,x6_3,y7_0,y7_1,y7_2,y7_3,far11_1,a12_0,a12_1,a12_2,a12_3,b13,hj0,rfl⟩
  unfold Flt.shape.sum.j1 at hj0
  obtain ⟨t51,et51,hj1⟩:=letk_elim hj0; clear hj0
  conv=>whnf
  refine Nm.mk ⟨t51,et51,?_⟩
  rcases t51 with _ | _
  · have hj2:=bif_f hj1
    clear hj1
    conv=>whnf
    refine CutN.of (fun s=>∃ (a12_3_1:Bool) (b13_1:Int),Flt.shape.sum.j2 mode1 s4_0 s4_1 x6_0 x6_1 x6_2 x6_3 y7_0 y7_1 y7_2 y7_3 a12_0 a12_1 a12_2 a12_3_1 b13_1 = some r ∧ s = (⟨125,[(1,.lit (.int .i64 mode1)),(4,.ptr 0 0),(6,.ptr 1 0),(7,.ptr 2 0),(12,.ptr 3 0),(13,.lit (.int .u64 b13_1))],[.box [.lit (.int .i64 s4_0),.lit (.int .i64 s4_1)],.box [.lit (.int .i64 x6_0),.lit (.int .i64 x6_1),.lit (.int .u64 x6_2),.lit (.int .i64 x6_3)],.box [.lit (.int .i64 y7_0),.lit (.int .i64 y7_1),.lit (.int .u64 y7_2),.lit (.int .i64 y7_3)],.box [.lit (.int .u64 a12_0),.lit (.int .u64 a12_1),.lit (.int .i64 a12_2),.lit (.bool a12_3_1)]]⟩:St)) ?_ ?_
    · rcases far11_1 with _ | _
      · have hj3:=bif_f hj2
        clear hj2
        exact BackS.by ⟨_,_,hj3,rfl⟩ (Sees.of (Weak.objs (keep:=[0,1,2,3]) (frz:=[]) (m:=0) rfl (by decide) rfl rfl ⟨⟨_,rfl,WO.boxs ⟨.s,.s,trivial⟩⟩,⟨⟨_,rfl,WO.boxs ⟨.s,.s,.s,.s,trivial⟩⟩,⟨⟨_,rfl,WO.boxs ⟨.s,.s,.s,.s,trivial⟩⟩,⟨⟨_,rfl,WO.boxs ⟨.s,.s,.s,.s,trivial⟩⟩,⟨rfl,fun _ h=>by cases h⟩⟩⟩⟩⟩ ⟨.s,(.ptr _ _ 0 rfl),(.ptr _ _ 1 rfl),(.ptr _ _ 2 rfl),(.ptr _ _ 3 rfl),.s,trivial⟩))
      have hj3:=bif_t hj2
      clear hj2
      exact BackS.by ⟨_,_,hj3,rfl⟩ (Sees.of (Weak.objs (keep:=[0,1,2,3]) (frz:=[]) (m:=0) rfl (by decide) rfl rfl ⟨⟨_,rfl,WO.boxs ⟨.s,.s,trivial⟩⟩,⟨⟨_,rfl,WO.boxs ⟨.s,.s,.s,.s,trivial⟩⟩,⟨⟨_,rfl,WO.boxs ⟨.s,.s,.s,.s,trivial⟩⟩,⟨⟨_,rfl,WO.boxs ⟨.s,.s,.s,.s,trivial⟩⟩,⟨rfl,fun _ h=>by cases h⟩⟩⟩⟩⟩ ⟨.s,(.ptr _ _ 0 rfl),(.ptr _ _ 1 rfl),(.ptr _ _ 2 rfl),(.ptr _ _ 3 rfl),.s,trivial⟩))
    clear hj2
    rintro s ⟨a12_3_1,b13_1,hj0,rfl⟩
    unfold Flt.shape.sum.j2 at hj0
    obtain ⟨⟨t78_0,t78_1⟩,et78,hj1⟩:=bind_elim hj0; clear hj0
    conv=>whnf
    refine Gate.go ?_
    conv=>whnf
    refine CallN.by (v:=.tup [.lit (.int .u64 t78_0),.lit (.int .u64 t78_1)]) (Bits.Sub64_ok et78) rfl rfl ?_
    obtain ⟨⟨t85_0,t85_1⟩,et85,hj2⟩:=bind_elim hj1; clear hj1
    conv=>whnf
    refine Gate.go ?_
    conv=>whnf
    refine CallN.by (v:=.tup [.lit (.int .u64 t85_0),.lit (.int .u64 t85_1)]) (Bits.Sub64_ok et85) rfl rfl ?_
    conv=>whnf
    refine CutN.of (fun s=>∃ (s4_0_1:Int) (s4_1_1:Int) (a12_0_1:Int) (a12_1_1:Int) (a12_2_1:Int) (a12_3_2:Bool) (lo15:Int) (hi17:Int) (sign18:Int),Flt.shape.sum.j3 mode1 s4_0_1 s4_1_1 a12_0_1 a12_1_1 a12_2_1 a12_3_2 lo15 hi17 sign18 = some r ∧ s = (⟨125,[(1,.lit (.int .i64 mode1)),(4,.ptr 0 0),(12,.ptr 1 0),(15,.lit (.int .u64 lo15)),(17,.lit (.int .u64 hi17)),(18,.lit (.int .i64 sign18))],[.box [.lit (.int .i64 s4_0_1),.lit (.int .i64 s4_1_1)],.box [.lit (.int .u64 a12_0_1),.lit (.int .u64 a12_1_1),.lit (.int .i64 a12_2_1),.lit (.bool a12_3_2)]]⟩:St)) ?_ ?_
    · obtain ⟨t91,et91,hj3⟩:=letk_elim hj2; clear hj2
      conv=>whnf
      refine Nm.mk ⟨t91,et91,?_⟩
      rcases t91 with _ | _
      · have hj4:=bif_f hj3
        clear hj3
        exact BackS.by ⟨_,_,_,_,_,_,_,_,_,hj4,rfl⟩ (Sees.of (Weak.objs (keep:=[0,3]) (frz:=[]) (m:=0) rfl (by decide) rfl rfl ⟨⟨_,rfl,WO.boxs ⟨.s,.s,trivial⟩⟩,⟨⟨_,rfl,WO.boxs ⟨.s,.s,.s,.s,trivial⟩⟩,⟨rfl,fun _ h=>by cases h⟩⟩⟩ ⟨.s,(.ptr _ _ 0 rfl),(.ptr _ _ 1 rfl),.s,.s,.s,trivial⟩))
      have hj4:=bif_t hj3
      clear hj3
      obtain ⟨⟨t96_0,t96_1⟩,et96,hj5⟩:=bind_elim hj4; clear hj4
      conv=>whnf
      refine Gate.go ?_
      conv=>whnf
      refine CallN.by (v:=.tup [.lit (.int .u64 t96_0),.lit (.int .u64 t96_1)]) (Bits.Sub64_ok et96) rfl rfl ?_
      obtain ⟨⟨t102_0,t102_1⟩,et102,hj6⟩:=bind_elim hj5; clear hj5
      conv=>whnf
      refine Gate.go ?_
      conv=>whnf
      refine CallN.by (v:=.tup [.lit (.int .u64 t102_0),.lit (.int .u64 t102_1)]) (Bits.Sub64_ok et102) rfl rfl ?_
      exact BackS.by ⟨_,_,_,_,_,_,_,_,_,hj6,rfl⟩ (Sees.of (Weak.objs (keep:=[0,3]) (frz:=[]) (m:=0) rfl (by decide) rfl rfl ⟨⟨_,rfl,WO.boxs ⟨.s,.s,trivial⟩⟩,⟨⟨_,rfl,WO.boxs ⟨.s,.s,.s,.s,trivial⟩⟩,⟨rfl,fun _ h=>by cases h⟩⟩⟩ ⟨.s,(.ptr _ _ 0 rfl),(.ptr _ _ 1 rfl),.s,.s,.s,trivial⟩))
    clear hj2
    rintro s ⟨s4_0_1,s4_1_1,a12_0_1,a12_1_1,a12_2_1,a12_3_2,lo15,hi17,sign18,hj0,rfl⟩
    unfold Flt.shape.sum.j3 at hj0
    conv=>whnf
    refine CutN.of (fun s=>∃ (s4_0_2:Int) (s4_1_2:Int) (a12_0_2:Int) (a12_1_2:Int) (a12_2_2:Int) (a12_3_3:Bool),Flt.shape.sum.j4 mode1 lo15 hi17 sign18 s4_0_2 s4_1_2 a12_0_2 a12_1_2 a12_2_2 a12_3_3 = some r ∧ s = (⟨125,[(1,.lit (.int .i64 mode1)),(4,.ptr 0 0),(12,.ptr 1 0),(15,.lit (.int .u64 lo15)),(17,.lit (.int .u64 hi17)),(18,.lit (.int .i64 sign18))],[.box [.lit (.int .i64 s4_0_2),.lit (.int .i64 s4_1_2)],.box [.lit (.int .u64 a12_0_2),.lit (.int .u64 a12_1_2),.lit (.int .i64 a12_2_2),.lit (.bool a12_3_3)]]⟩:St)) ?_ ?_
    · conv=>whnf
      refine CutN.of (fun s=>∃ (a12_3_4:Bool) (t110:Bool),Flt.shape.sum.j5 mode1 s4_0_1 s4_1_1 a12_0_1 a12_1_1 a12_2_1 lo15 hi17 sign18 a12_3_4 t110 = some r ∧ s = (⟨125,[(1,.lit (.int .i64 mode1)),(4,.ptr 0 0),(12,.ptr 1 0),(15,.lit (.int .u64 lo15)),(17,.lit (.int .u64 hi17)),(18,.lit (.int .i64 sign18)),(110,.lit (.bool t110))],[.box [.lit (.int .i64 s4_0_1),.lit (.int .i64 s4_1_1)],.box [.lit (.int .u64 a12_0_1),.lit (.int .u64 a12_1_1),.lit (.int .i64 a12_2_1),.lit (.bool a12_3_4)]]⟩:St)) ?_ ?_
      · obtain ⟨t106,et106,hj1⟩:=letk_elim hj0; clear hj0
        conv=>whnf
        refine Nm.mk ⟨t106,et106,?_⟩
        rcases t106 with _ | _
        · have hj2:=bif_f hj1
          clear hj1
          exact BackS.by ⟨_,_,hj2,rfl⟩ (Sees.of (Weak.objs (keep:=[0,1]) (frz:=[]) (m:=0) rfl (by decide) rfl rfl ⟨⟨_,rfl,WO.boxs ⟨.s,.s,trivial⟩⟩,⟨⟨_,rfl,WO.boxs ⟨.s,.s,.s,.s,trivial⟩⟩,⟨rfl,fun _ h=>by cases h⟩⟩⟩ ⟨.s,(.ptr _ _ 0 rfl),(.ptr _ _ 1 rfl),.s,.s,.s,.s,trivial⟩))
        have hj2:=bif_t hj1
        clear hj1
        obtain ⟨t109,et109,hj3⟩:=letk_elim hj2; clear hj2
        conv=>whnf
        refine Nm.mk ⟨t109,et109,?_⟩
        exact BackS.by ⟨_,_,hj3,rfl⟩ (Sees.of (Weak.objs (keep:=[0,1]) (frz:=[]) (m:=0) rfl (by decide) rfl rfl ⟨⟨_,rfl,WO.boxs ⟨.s,.s,trivial⟩⟩,⟨⟨_,rfl,WO.boxs ⟨.s,.s,.s,.s,trivial⟩⟩,⟨rfl,fun _ h=>by cases h⟩⟩⟩ ⟨.s,(.ptr _ _ 0 rfl),(.ptr _ _ 1 rfl),.s,.s,.s,.s,trivial⟩))
      clear hj0
      rintro s ⟨a12_3_4,t110,hj0,rfl⟩
      unfold Flt.shape.sum.j5 at hj0
      rcases t110 with _ | _
      · have hj1:=bif_f hj0
        clear hj0
        exact BackS.by ⟨_,_,_,_,_,_,hj1,rfl⟩ (Sees.of (Weak.objs (keep:=[0,1]) (frz:=[]) (m:=0) rfl (by decide) rfl rfl ⟨⟨_,rfl,WO.boxs ⟨.s,.s,trivial⟩⟩,⟨⟨_,rfl,WO.boxs ⟨.s,.s,.s,.s,trivial⟩⟩,⟨rfl,fun _ h=>by cases h⟩⟩⟩ ⟨.s,(.ptr _ _ 0 rfl),(.ptr _ _ 1 rfl),.s,.s,.s,trivial⟩))
      have hj1:=bif_t hj0
      clear hj0
      obtain ⟨t113,et113,hj2⟩:=bind_elim hj1; clear hj1
      conv=>whnf
      refine Gate.go ?_
      conv=>whnf
      refine CallN.by (v:=.lit (.int .i64 t113)) (Flt.shape.none_ok et113) rfl rfl ?_
      have ehj2_0:=Option.some.inj hj2
      subst ehj2_0
      conv=>whnf
      exact Returns.pure (r:=.tup [.lit (.int .i64 t113),.lit (.int .i64 0)]) rfl rfl rfl rfl ⟨rfl,rfl⟩
    clear hj0
    rintro s ⟨s4_0_2,s4_1_2,a12_0_2,a12_1_2,a12_2_2,a12_3_3,hj0,rfl⟩
    unfold Flt.shape.sum.j4 at hj0
    conv=>whnf
    refine Nm.mk ⟨[.lit (.int .u64 hi17),.lit (.int .u64 a12_1_2),.lit (.int .i64 a12_2_2),.lit (.bool a12_3_3)],rfl,?_⟩
    conv=>whnf
    refine Nm.mk ⟨[.lit (.int .u64 hi17),.lit (.int .u64 lo15),.lit (.int .i64 a12_2_2),.lit (.bool a12_3_3)],rfl,?_⟩
    obtain ⟨⟨t122_0,t122_1⟩,et122,hj1⟩:=bind_elim hj0; clear hj0
    conv=>whnf
    refine Gate.go ?_
    conv=>whnf
    refine CallN.by (v:=.tup [.lit (.int .i64 t122_0),.lit (.int .i64 t122_1)]) (Flt.shape.round_ok et122) rfl rfl ?_
    have ehj1_0:=Option.some.inj hj1
    subst ehj1_0
    conv=>whnf
    exact Returns.pure (r:=.tup [.lit (.int .i64 t122_0),.lit (.int .i64 t122_1)]) rfl rfl rfl rfl ⟨rfl,rfl⟩
  have hj2:=bif_t hj1
  clear hj1
  obtain ⟨⟨t56_0,t56_1⟩,et56,hj3⟩:=bind_elim hj2; clear hj2
  conv=>whnf
  refine Gate.go ?_
  conv=>whnf
  refine CallN.by (v:=.tup [.lit (.int .u64 t56_0),.lit (.int .u64 t56_1)]) (Bits.Add64_ok et56) rfl rfl ?_
  conv=>whnf
  refine Nm.mk ⟨[.lit (.int .u64 a12_0),.lit (.int .u64 t56_0),.lit (.int .i64 a12_2),.lit (.bool a12_3)],rfl,?_⟩
  obtain ⟨t63,et63,hj4⟩:=letk_elim hj3; clear hj3
  conv=>whnf
  refine Nm.mk ⟨t63,et63,?_⟩
  conv=>whnf
  refine Nm.mk ⟨[.lit (.int .u64 t63),.lit (.int .u64 t56_0),.lit (.int .i64 a12_2),.lit (.bool a12_3)],rfl,?_⟩
  obtain ⟨⟨t70_0,t70_1⟩,et70,hj5⟩:=bind_elim hj4; clear hj4
  conv=>whnf
  refine Gate.go ?_
  conv=>whnf
  refine CallN.by (v:=.tup [.lit (.int .i64 t70_0),.lit (.int .i64 t70_1)]) (Flt.shape.round_ok et70) rfl rfl ?_
  have ehj5_0:=Option.some.inj hj5
  subst ehj5_0
  conv=>whnf
  exact Returns.pure (r:=.tup [.lit (.int .i64 t70_0),.lit (.int .i64 t70_1)]) rfl rfl rfl rfl ⟨rfl,rfl⟩
end Go.Q
