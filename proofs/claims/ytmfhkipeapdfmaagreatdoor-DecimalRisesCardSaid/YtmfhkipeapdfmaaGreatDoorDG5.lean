import Derived.Test.YtmfhkipeapdfmaaGreatDoorDG4
import Derived.Test.YtmfhkipeapdfmaaGreatDoorFX
import Derived.Test.YtmfhkipeapdfmaaGreatDoorFY
import Derived.Test.YtmfhkipeapdfmaaGreatDoorProg
namespace Go.Q
open Go Go.Proofs
set_option maxRecDepth 10000
set_option maxHeartbeats 2000000
noncomputable def Law2.DecimalRises.j2 (c8:ByteArray) (k9:Int) (d12:ByteArray) (l13:Int):Option Bool :=
  letk (decide (k9 < l13)) fun t101 =>
  bif t101 then
    Option.bind (Law2.Awake) fun t113_1 =>
    some t113_1
  else
    letk (k9 == l13) fun t105 =>
    bif t105 then
      letk (Op.bytesLess c8.toList d12.toList || c8.toList == d12.toList) fun t109 =>
      bif t109 then
        Option.bind (Law2.Awake) fun t113 =>
        some t113
      else
        some false
    else
      some false
noncomputable def Law2.DecimalRises.j1 (t25_1:ByteArray) (t25_2:Int) (t37_1:ByteArray) (t37_2:Int) (t63_0:Int):Option Bool :=
  letk (t63_0 == (0:Int)) fun t81 =>
  bif t81 then
    letk (t25_1.toList == t37_1.toList) fun t84 =>
    bif t84 then
      letk (t25_2 == t37_2) fun t88 =>
      bif t88 then
        Option.bind (Law2.Awake) fun t91 =>
        some t91
      else
        some false
    else
      some false
  else
    letk (t63_0 == (1:Int)) fun t94 =>
    bif t94 then
      Law2.DecimalRises.j2 t37_1 t37_2 t25_1 t25_2
    else
      Law2.DecimalRises.j2 t25_1 t25_2 t37_1 t37_2
noncomputable def Law2.DecimalRises.j0 (b1:Int) (n2:Int) (t25_1:ByteArray) (t25_2:Int) (t37_1:ByteArray) (t37_2:Int) (x3_0:Int) (x3_1:Int) (x3_2:Int):Option Bool :=
  Option.bind (Ref1.Compare x3_0 x3_2 b1) fun (t63_0,t63_1) =>
  letk (t63_1 != (0:Int)) fun t67 =>
  bif t67 then
    some false
  else
    letk ((t25_1.size:Int)) fun t70 =>
    letk (t70 != n2) fun t72 =>
    bif t72 then
      some false
    else
      letk ((t37_1.size:Int)) fun t76 =>
      letk (t76 != n2) fun t78 =>
      bif t78 then
        some false
      else
        Law2.DecimalRises.j1 t25_1 t25_2 t37_1 t37_2 t63_0
noncomputable def Law2.DecimalRises (x0:quadratlaw02.Float) (b1:Int) (n2:Int):Option Bool :=
  Option.bind (Dec.Digits x0.Kind x0.Mode x0.Bits n2) fun (t25_0,t25_1,t25_2,t25_3) =>
  Option.bind (Dec.Digits x0.Kind x0.Mode b1 n2) fun (t37_0,t37_1,t37_2,t37_3) =>
  letk (t25_3 != (0:Int)) fun t43 =>
  bif t43 then
    Option.bind (Law2.Awake) fun t56_3 =>
    some t56_3
  else
    letk (t37_3 != (0:Int)) fun t46 =>
    bif t46 then
      Option.bind (Law2.Awake) fun t56_2 =>
      some t56_2
    else
      letk (t25_0 != (0:Int)) fun t50 =>
      bif t50 then
        Option.bind (Law2.Awake) fun t56_1 =>
        some t56_1
      else
        letk (t37_0 != (0:Int)) fun t54 =>
        bif t54 then
          Option.bind (Law2.Awake) fun t56 =>
          some t56
        else
          Law2.DecimalRises.j0 b1 n2 t25_1 t25_2 t37_1 t37_2 x0.Kind x0.Mode x0.Bits
theorem Law2.DecimalRises_ok {x0:quadratlaw02.Float} {b1:Int} {n2:Int} {r:Bool} (h0:Law2.DecimalRises x0 b1 n2 = some r):Gives Tryz.prog 7 [quadratlaw02.Float.enc x0,.lit (.int .i64 b1),.lit (.int .i64 n2)] (.lit (.bool r)):=by
  unfold Law2.DecimalRises at h0
  refine ACalls.of_swp Tryz.func7 rfl (by decide) rfl (st0:=⟨115,[(0,quadratlaw02.Float.enc x0),(1,.lit (.int .i64 b1)),(2,.lit (.int .i64 n2))],[]⟩) rfl (bwp_ok (C:=[(0,5),(0,8),(0,12)]) ?_)
  conv=>whnf
  refine Nm.mk ⟨[.lit (.int .i64 x0.Kind),.lit (.int .i64 x0.Mode),.lit (.int .i64 x0.Bits)],rfl,?_⟩
  obtain ⟨⟨t25_0,t25_1,t25_2,t25_3⟩,et25,h1⟩:=bind_elim h0; clear h0
  conv=>whnf
  refine Gate.go ?_
  conv=>whnf
  refine CallN.by (v:=.tup [.lit (.int .i64 t25_0),.lit (.string t25_1),.lit (.int .i64 t25_2),.lit (.int .i64 t25_3)]) (Dec.Digits_ok et25) rfl rfl ?_
  obtain ⟨⟨t37_0,t37_1,t37_2,t37_3⟩,et37,h2⟩:=bind_elim h1; clear h1
  conv=>whnf
  refine Gate.go ?_
  conv=>whnf
  refine CallN.by (v:=.tup [.lit (.int .i64 t37_0),.lit (.string t37_1),.lit (.int .i64 t37_2),.lit (.int .i64 t37_3)]) (Dec.Digits_ok et37) rfl rfl ?_
  conv=>whnf
  refine CutN.of (fun s=>∃ (x3_0:Int) (x3_1:Int) (x3_2:Int),Law2.DecimalRises.j0 b1 n2 t25_1 t25_2 t37_1 t37_2 x3_0 x3_1 x3_2 = some r ∧ s = (⟨115,[(1,.lit (.int .i64 b1)),(2,.lit (.int .i64 n2)),(3,.ptr 0 0),(8,.lit (.string t25_1)),(9,.lit (.int .i64 t25_2)),(12,.lit (.string t37_1)),(13,.lit (.int .i64 t37_2))],[.box [.lit (.int .i64 x3_0),.lit (.int .i64 x3_1),.lit (.int .i64 x3_2)]]⟩:St)) ?_ ?_
  · obtain ⟨t43,et43,h3⟩:=letk_elim h2; clear h2
    conv=>whnf
    refine Nm.mk ⟨t43,et43,?_⟩
    rcases t43 with _ | _
    · have h4:=bif_f h3
      clear h3
      obtain ⟨t46,et46,h5⟩:=letk_elim h4; clear h4
      conv=>whnf
      refine Nm.mk ⟨t46,et46,?_⟩
      rcases t46 with _ | _
      · have h6:=bif_f h5
        clear h5
        obtain ⟨t50,et50,h7⟩:=letk_elim h6; clear h6
        conv=>whnf
        refine Nm.mk ⟨t50,et50,?_⟩
        rcases t50 with _ | _
        · have h8:=bif_f h7
          clear h7
          obtain ⟨t54,et54,h9⟩:=letk_elim h8; clear h8
          conv=>whnf
          refine Nm.mk ⟨t54,et54,?_⟩
          rcases t54 with _ | _
          · have h10:=bif_f h9
            clear h9
            exact BackS.by ⟨_,_,_,h10,rfl⟩ (Sees.of (Weak.objs (keep:=[0]) (frz:=[]) (m:=0) rfl (by decide) rfl rfl ⟨⟨_,rfl,WO.boxs ⟨.s,.s,.s,trivial⟩⟩,⟨rfl,fun _ h=>by cases h⟩⟩ ⟨.s,.s,(.ptr _ _ 0 rfl),.s,.s,.s,.s,trivial⟩))
          have h10:=bif_t h9
          clear h9
          obtain ⟨t56,et56,h11⟩:=bind_elim h10; clear h10
          conv=>whnf
          refine Gate.go ?_
          conv=>whnf
          refine CallN.by (v:=.lit (.bool t56)) (Law2.Awake_ok et56) rfl rfl ?_
          have eh11_0:=Option.some.inj h11
          subst eh11_0
          conv=>whnf
          exact Returns.pure (r:=.lit (.bool t56)) rfl rfl rfl rfl ⟨rfl,rfl⟩
        have h8:=bif_t h7
        clear h7
        obtain ⟨t56_1,et56_1,h9⟩:=bind_elim h8; clear h8
        conv=>whnf
        refine Gate.go ?_
        conv=>whnf
        refine CallN.by (v:=.lit (.bool t56_1)) (Law2.Awake_ok et56_1) rfl rfl ?_
        have eh9_0:=Option.some.inj h9
        subst eh9_0
        conv=>whnf
        exact Returns.pure (r:=.lit (.bool t56_1)) rfl rfl rfl rfl ⟨rfl,rfl⟩
      have h6:=bif_t h5
      clear h5
      obtain ⟨t56_2,et56_2,h7⟩:=bind_elim h6; clear h6
      conv=>whnf
      refine Gate.go ?_
      conv=>whnf
      refine CallN.by (v:=.lit (.bool t56_2)) (Law2.Awake_ok et56_2) rfl rfl ?_
      have eh7_0:=Option.some.inj h7
      subst eh7_0
      conv=>whnf
      exact Returns.pure (r:=.lit (.bool t56_2)) rfl rfl rfl rfl ⟨rfl,rfl⟩
    have h4:=bif_t h3
    clear h3
    obtain ⟨t56_3,et56_3,h5⟩:=bind_elim h4; clear h4
    conv=>whnf
    refine Gate.go ?_
    conv=>whnf
    refine CallN.by (v:=.lit (.bool t56_3)) (Law2.Awake_ok et56_3) rfl rfl ?_
    have eh5_0:=Option.some.inj h5
    subst eh5_0
    conv=>whnf
    exact Returns.pure (r:=.lit (.bool t56_3)) rfl rfl rfl rfl ⟨rfl,rfl⟩
  clear h2
  rintro s ⟨x3_0,x3_1,x3_2,hj0,rfl⟩
  unfold Law2.DecimalRises.j0 at hj0
  obtain ⟨⟨t63_0,t63_1⟩,et63,hj1⟩:=bind_elim hj0; clear hj0
  conv=>whnf
  refine Gate.go ?_
  conv=>whnf
  refine CallN.by (v:=.tup [.lit (.int .i64 t63_0),.lit (.int .i64 t63_1)]) (Ref1.Compare_ok et63) rfl rfl ?_
  conv=>whnf
  refine CutN.of (fun s=>Law2.DecimalRises.j1 t25_1 t25_2 t37_1 t37_2 t63_0 = some r ∧ s = (⟨115,[(8,.lit (.string t25_1)),(9,.lit (.int .i64 t25_2)),(12,.lit (.string t37_1)),(13,.lit (.int .i64 t37_2)),(15,.lit (.int .i64 t63_0))],[]⟩:St)) ?_ ?_
  · obtain ⟨t67,et67,hj2⟩:=letk_elim hj1; clear hj1
    conv=>whnf
    refine Nm.mk ⟨t67,et67,?_⟩
    rcases t67 with _ | _
    · have hj3:=bif_f hj2
      clear hj2
      obtain ⟨t70,et70,hj4⟩:=letk_elim hj3; clear hj3
      conv=>whnf
      refine Nm.mk ⟨t70,et70,?_⟩
      obtain ⟨t72,et72,hj5⟩:=letk_elim hj4; clear hj4
      conv=>whnf
      refine Nm.mk ⟨t72,et72,?_⟩
      rcases t72 with _ | _
      · have hj6:=bif_f hj5
        clear hj5
        obtain ⟨t76,et76,hj7⟩:=letk_elim hj6; clear hj6
        conv=>whnf
        refine Nm.mk ⟨t76,et76,?_⟩
        obtain ⟨t78,et78,hj8⟩:=letk_elim hj7; clear hj7
        conv=>whnf
        refine Nm.mk ⟨t78,et78,?_⟩
        rcases t78 with _ | _
        · have hj9:=bif_f hj8
          clear hj8
          exact BackS.by ⟨hj9,rfl⟩ (Sees.e ⟨.s,.s,.s,.s,.s,trivial⟩)
        have hj9:=bif_t hj8
        clear hj8
        have ehj9_0:=Option.some.inj hj9
        subst ehj9_0
        conv=>whnf
        exact Returns.pure (r:=.lit (.bool false)) rfl rfl rfl rfl ⟨rfl,rfl⟩
      have hj6:=bif_t hj5
      clear hj5
      have ehj6_0:=Option.some.inj hj6
      subst ehj6_0
      conv=>whnf
      exact Returns.pure (r:=.lit (.bool false)) rfl rfl rfl rfl ⟨rfl,rfl⟩
    have hj3:=bif_t hj2
    clear hj2
    have ehj3_0:=Option.some.inj hj3
    subst ehj3_0
    conv=>whnf
    exact Returns.pure (r:=.lit (.bool false)) rfl rfl rfl rfl ⟨rfl,rfl⟩
  clear hj1
  rintro s ⟨hj0,rfl⟩
  unfold Law2.DecimalRises.j1 at hj0
  obtain ⟨t81,et81,hj1⟩:=letk_elim hj0; clear hj0
  conv=>whnf
  refine Nm.mk ⟨t81,et81,?_⟩
  rcases t81 with _ | _
  · have hj2:=bif_f hj1
    clear hj1
    conv=>whnf
    refine CutN.of (fun s=>∃ (c8:ByteArray) (k9:Int) (d12:ByteArray) (l13:Int),Law2.DecimalRises.j2 c8 k9 d12 l13 = some r ∧ s = (⟨115,[(8,.lit (.string c8)),(9,.lit (.int .i64 k9)),(12,.lit (.string d12)),(13,.lit (.int .i64 l13))],[]⟩:St)) ?_ ?_
    · obtain ⟨t94,et94,hj3⟩:=letk_elim hj2; clear hj2
      conv=>whnf
      refine Nm.mk ⟨t94,et94,?_⟩
      rcases t94 with _ | _
      · have hj4:=bif_f hj3
        clear hj3
        exact BackS.by ⟨_,_,_,_,hj4,rfl⟩ (Sees.e ⟨.s,.s,.s,.s,trivial⟩)
      have hj4:=bif_t hj3
      clear hj3
      exact BackS.by ⟨_,_,_,_,hj4,rfl⟩ (Sees.e ⟨.s,.s,.s,.s,trivial⟩)
    clear hj2
    rintro s ⟨c8,k9,d12,l13,hj0,rfl⟩
    unfold Law2.DecimalRises.j2 at hj0
    obtain ⟨t101,et101,hj1⟩:=letk_elim hj0; clear hj0
    conv=>whnf
    refine Nm.mk ⟨t101,et101,?_⟩
    rcases t101 with _ | _
    · have hj2:=bif_f hj1
      clear hj1
      obtain ⟨t105,et105,hj3⟩:=letk_elim hj2; clear hj2
      conv=>whnf
      refine Nm.mk ⟨t105,et105,?_⟩
      rcases t105 with _ | _
      · have hj4:=bif_f hj3
        clear hj3
        have ehj4_0:=Option.some.inj hj4
        subst ehj4_0
        conv=>whnf
        exact Returns.pure (r:=.lit (.bool false)) rfl rfl rfl rfl ⟨rfl,rfl⟩
      have hj4:=bif_t hj3
      clear hj3
      obtain ⟨t109,et109,hj5⟩:=letk_elim hj4; clear hj4
      conv=>whnf
      refine Nm.mk ⟨t109,et109,?_⟩
      rcases t109 with _ | _
      · have hj6:=bif_f hj5
        clear hj5
        have ehj6_0:=Option.some.inj hj6
        subst ehj6_0
        conv=>whnf
        exact Returns.pure (r:=.lit (.bool false)) rfl rfl rfl rfl ⟨rfl,rfl⟩
      have hj6:=bif_t hj5
      clear hj5
      obtain ⟨t113,et113,hj7⟩:=bind_elim hj6; clear hj6
      conv=>whnf
      refine Gate.go ?_
      conv=>whnf
      refine CallN.by (v:=.lit (.bool t113)) (Law2.Awake_ok et113) rfl rfl ?_
      have ehj7_0:=Option.some.inj hj7
      subst ehj7_0
      conv=>whnf
      exact Returns.pure (r:=.lit (.bool t113)) rfl rfl rfl rfl ⟨rfl,rfl⟩
    have hj2:=bif_t hj1
    clear hj1
    obtain ⟨t113_1,et113_1,hj3⟩:=bind_elim hj2; clear hj2
    conv=>whnf
    refine Gate.go ?_
    conv=>whnf
    refine CallN.by (v:=.lit (.bool t113_1)) (Law2.Awake_ok et113_1) rfl rfl ?_
    have ehj3_0:=Option.some.inj hj3
    subst ehj3_0
    conv=>whnf
    exact Returns.pure (r:=.lit (.bool t113_1)) rfl rfl rfl rfl ⟨rfl,rfl⟩
  have hj2:=bif_t hj1
  clear hj1
  obtain ⟨t84,et84,hj3⟩:=letk_elim hj2; clear hj2
  conv=>whnf
  refine Nm.mk ⟨t84,et84,?_⟩
  rcases t84 with _ | _
  · have hj4:=bif_f hj3
    clear hj3
    have ehj4_0:=Option.some.inj hj4
    subst ehj4_0
    conv=>whnf
    exact Returns.pure (r:=.lit (.bool false)) rfl rfl rfl rfl ⟨rfl,rfl⟩
  have hj4:=bif_t hj3
  clear hj3
  obtain ⟨t88,et88,hj5⟩:=letk_elim hj4; clear hj4
  conv=>whnf
  refine Nm.mk ⟨t88,et88,?_⟩
  rcases t88 with _ | _
  · have hj6:=bif_f hj5
    clear hj5
    have ehj6_0:=Option.some.inj hj6
    subst ehj6_0
    conv=>whnf
    exact Returns.pure (r:=.lit (.bool false)) rfl rfl rfl rfl ⟨rfl,rfl⟩
  have hj6:=bif_t hj5
  clear hj5
  obtain ⟨t91,et91,hj7⟩:=bind_elim hj6; clear hj6
  conv=>whnf
  refine Gate.go ?_
  conv=>whnf
  refine CallN.by (v:=.lit (.bool t91)) (Law2.Awake_ok et91) rfl rfl ?_
  have ehj7_0:=Option.some.inj hj7
  subst ehj7_0
  conv=>whnf
  exact Returns.pure (r:=.lit (.bool t91)) rfl rfl rfl rfl ⟨rfl,rfl⟩
end Go.Q
