import Derived.Test.YtognkiddigibnaaGreatDoorLG2
import Derived.Test.YtognkiddigibnaaGreatDoorFX
import Derived.Test.YtognkiddigibnaaGreatDoorFY
import Derived.Test.YtognkiddigibnaaGreatDoorProg
namespace Go.Q
open Go Go.Proofs
set_option maxRecDepth 10000
set_option maxHeartbeats 2000000
noncomputable def Ref15.Count.s0 (r4_0:ByteArray) (r4_1:Int) (r4_2:Bool) (r4_3:Int) (r4_4:ByteArray) (r4_5:Bool) (n5:Int):Option ((ByteArray × Int × Bool × Int × ByteArray × Bool × Int) ⊕ (Int × Int)) :=
  Option.bind (Ref15.reader.next_ r4_0 r4_1 r4_2 r4_3 r4_4 r4_5) fun (o_0,o_1,o_2,o_3,o_4,o_5,t13) =>
  letk (t13.toList == (⟨#[118,97,108,117,101]⟩:ByteArray).toList) fun t14 =>
  bif t14 then
    bif o_5 then
      some (.inr (0,3))
    else
      letk (IntKind.i64.wrap (n5 + o_3)) fun t24 =>
      some (.inl (o_0,o_1,o_2,o_3,o_4,false,t24))
  else
    some (.inr (n5,0))
noncomputable def Ref15.Count.l0 (r4_0:ByteArray) (r4_1:Int) (r4_2:Bool) (r4_3:Int) (r4_4:ByteArray) (r4_5:Bool) (n5:Int):Option (Int × Int):=loopO (fun v:ByteArray × Int × Bool × Int × ByteArray × Bool × Int=>Ref15.Count.s0 v.1 v.2.1 v.2.2.1 v.2.2.2.1 v.2.2.2.2.1 v.2.2.2.2.2.1 v.2.2.2.2.2.2) (r4_0,r4_1,r4_2,r4_3,r4_4,r4_5,n5)
noncomputable def Ref15.Count (text0:ByteArray):Option (Int × Int) :=
  Option.bind (Ref15.IsText text0) fun t7 =>
  letk (!t7) fun t8 =>
  bif t8 then
    some (0,2)
  else
    Ref15.Count.l0 text0 0 false 0 (⟨#[]⟩) false 0
theorem Ref15.Count_ok {text0:ByteArray} {r:Int × Int} (h0:Ref15.Count text0 = some r):Gives Tryz.prog 20 [.lit (.string text0)] (.tup [.lit (.int .i64 r.1),.lit (.int .i64 r.2)]):=by
  unfold Ref15.Count at h0
  refine ACalls.of_swp Tryz.func20 rfl (by decide) rfl (st0:=⟨26,[(0,.lit (.string text0))],[]⟩) rfl (bwp_ok (C:=[]) ?_)
  obtain ⟨t7,et7,h1⟩:=bind_elim h0; clear h0
  conv=>whnf
  refine Gate.go ?_
  conv=>whnf
  refine CallN.by (v:=.lit (.bool t7)) (Ref15.IsText_ok et7) rfl rfl ?_
  obtain ⟨t8,et8,h2⟩:=letk_elim h1; clear h1
  conv=>whnf
  refine Nm.mk ⟨t8,et8,?_⟩
  rcases t8 with _ | _
  · have h3:=bif_f h2
    clear h2
    conv=>whnf
    refine Gate.go ?_
    conv=>whnf
    refine Nm.mk ⟨[.lit (.string text0),.lit (.int .i64 0),.lit (.bool false),.lit (.int .i64 0),.lit (.string (⟨#[]⟩)),.lit (.bool false)],rfl,?_⟩
    conv=>whnf
    refine Nm.mk ⟨[.lit (.string text0),.lit (.int .i64 0),.lit (.bool false),.lit (.int .i64 0),.lit (.string (⟨#[]⟩)),.lit (.bool false)],rfl,?_⟩
    conv=>whnf
    unfold Ref15.Count.l0 at h3
    refine LoopB.of (σ:=ByteArray × Int × Bool × Int × ByteArray × Bool × Int) (ρ:=Int × Int) (fun v:ByteArray × Int × Bool × Int × ByteArray × Bool × Int=>Ref15.Count.s0 v.1 v.2.1 v.2.2.1 v.2.2.2.1 v.2.2.2.2.1 v.2.2.2.2.2.1 v.2.2.2.2.2.2) (fun v=>(⟨26,[(4,.ptr 0 0),(5,.lit (.int .i64 v.2.2.2.2.2.2))],[.box [.lit (.string v.1),.lit (.int .i64 v.2.1),.lit (.bool v.2.2.1),.lit (.int .i64 v.2.2.2.1),.lit (.string v.2.2.2.2.1),.lit (.bool v.2.2.2.2.2.1)]]⟩:St)) (text0,0,false,0,⟨#[]⟩,false,0) h3 (BackS.by rfl (Sees.of (Weak.objs (keep:=[0]) (frz:=[]) (m:=0) rfl (by decide) rfl rfl ⟨⟨_,rfl,WO.boxs ⟨.s,.s,.s,.s,.s,.s,trivial⟩⟩,⟨rfl,fun _ h=>by cases h⟩⟩ ⟨(.ptr _ _ 0 rfl),.s,trivial⟩))) ?_
    clear h3
    rintro K1 ⟨r4_0,r4_1,r4_2,r4_3,r4_4,r4_5,n5⟩ x1 hs0_0 hl1 hr1
    replace hs0_0:Ref15.Count.s0 r4_0 r4_1 r4_2 r4_3 r4_4 r4_5 n5 = some x1:=hs0_0
    unfold Ref15.Count.s0 at hs0_0
    change bwp _ _ _ _ _ (⟨26,[(4,.ptr 0 0),(5,.lit (.int .i64 n5))],[.box [.lit (.string r4_0),.lit (.int .i64 r4_1),.lit (.bool r4_2),.lit (.int .i64 r4_3),.lit (.string r4_4),.lit (.bool r4_5)]]⟩:St)
    obtain ⟨⟨o_0,o_1,o_2,o_3,o_4,o_5,t13⟩,ee_t13,hs0_1⟩:=bind_elim hs0_0; clear hs0_0
    conv=>whnf
    refine Gate.weak (Sees.of (Weak.objs (k:=26) (keep:=[0]) (frz:=[]) (m:=0) (ts:=[(4,.ptr 0 0),(5,.lit (.int .i64 n5)),(12,.ptr 0 0)]) (hs:=[.box [.lit (.string r4_0),.lit (.int .i64 r4_1),.lit (.bool r4_2),.lit (.int .i64 r4_3),.lit (.string r4_4),.lit (.bool r4_5)]]) rfl (by decide) rfl rfl ⟨⟨_,rfl,WO.boxs ⟨.s,.s,.s,.s,.s,.s,trivial⟩⟩,⟨rfl,fun _ h=>by cases h⟩⟩ ⟨(.ptr _ _ 0 rfl),.s,(.ptr _ _ 0 rfl),trivial⟩)) ?_
    conv=>whnf
    refine CallN.hand (k:=1) (v:=.lit (.string t13)) (hs':=[.box [.lit (.string o_0),.lit (.int .i64 o_1),.lit (.bool o_2),.lit (.int .i64 o_3),.lit (.string o_4),.lit (.bool o_5)]]) (ts':=[(4,.ptr 0 0),(5,.lit (.int .i64 n5)),(12,.ptr 0 0)]) (Ref15.reader.next__ok ee_t13) rfl rfl ?_
    obtain ⟨t14,et14,hs0_2⟩:=letk_elim hs0_1; clear hs0_1
    conv=>whnf
    refine Nm.mk ⟨t14,et14,?_⟩
    rcases t14 with _ | _
    · have hs0_3:=bif_f hs0_2
      clear hs0_2
      have ehs0_3u_0:=hr1 _ (Option.some.inj hs0_3).symm
      have hs0_3u:=congrArg some ehs0_3u_0
      have ehs0_3u_0:=Option.some.inj hs0_3u
      subst ehs0_3u_0
      conv=>whnf
      exact Returns.pure (r:=.tup [.lit (.int .i64 n5),.lit (.int .i64 0)]) rfl rfl rfl rfl ⟨rfl,rfl⟩
    have hs0_3:=bif_t hs0_2
    clear hs0_2
    rcases o_5 with _ | _
    · have hs0_4:=bif_f hs0_3
      clear hs0_3
      obtain ⟨t24,et24,hs0_5⟩:=letk_elim hs0_4; clear hs0_4
      conv=>whnf
      refine Nm.mk ⟨t24,et24,?_⟩
      exact BackS.by ⟨_,hl1 _ (Option.some.inj hs0_5).symm,rfl⟩ (Sees.of (Weak.objs (keep:=[0]) (frz:=[]) (m:=0) rfl (by decide) rfl rfl ⟨⟨_,rfl,WO.boxs ⟨.s,.s,.s,.s,.s,.s,trivial⟩⟩,⟨rfl,fun _ h=>by cases h⟩⟩ ⟨(.ptr _ _ 0 rfl),.s,trivial⟩))
    have hs0_4:=bif_t hs0_3
    clear hs0_3
    have ehs0_4_0:=hr1 _ (Option.some.inj hs0_4).symm
    subst ehs0_4_0
    conv=>whnf
    exact Returns.pure (r:=.tup [.lit (.int .i64 0),.lit (.int .i64 3)]) rfl rfl rfl rfl ⟨rfl,rfl⟩
  have h3:=bif_t h2
  clear h2
  have eh3_0:=Option.some.inj h3
  subst eh3_0
  conv=>whnf
  exact Returns.pure (r:=.tup [.lit (.int .i64 0),.lit (.int .i64 2)]) rfl rfl rfl rfl ⟨rfl,rfl⟩
noncomputable def Law15.ListingCounts (text0:ByteArray):Option Bool :=
  letk ((text0.size:Int)) fun t8 =>
  letk (decide (t8 > (9000:Int))) fun t9 =>
  bif t9 then
    Option.bind (Law15.Awake) fun t10 =>
    some t10
  else
    Option.bind (Lst.Count text0) fun (t13_0,t13_1) =>
    Option.bind (Ref15.Count text0) fun (t18_0,t18_1) =>
    letk (t13_0 == t18_0) fun t23 =>
    bif t23 then
      letk (t13_1 == t18_1) fun t27 =>
      bif t27 then
        Option.bind (Law15.Awake) fun t30 =>
        some t30
      else
        some false
    else
      some false
theorem Law15.ListingCounts_ok {text0:ByteArray} {r:Bool} (h0:Law15.ListingCounts text0 = some r):Gives Tryz.prog 6 [.lit (.string text0)] (.lit (.bool r)):=by
  unfold Law15.ListingCounts at h0
  refine ACalls.of_swp Tryz.func6 rfl (by decide) rfl (st0:=⟨32,[(0,.lit (.string text0))],[]⟩) rfl (bwp_ok (C:=[]) ?_)
  obtain ⟨t8,et8,h1⟩:=letk_elim h0; clear h0
  conv=>whnf
  refine Nm.mk ⟨t8,et8,?_⟩
  obtain ⟨t9,et9,h2⟩:=letk_elim h1; clear h1
  conv=>whnf
  refine Nm.mk ⟨t9,et9,?_⟩
  rcases t9 with _ | _
  · have h3:=bif_f h2
    clear h2
    obtain ⟨⟨t13_0,t13_1⟩,et13,h4⟩:=bind_elim h3; clear h3
    conv=>whnf
    refine Gate.go ?_
    conv=>whnf
    refine CallN.by (v:=.tup [.lit (.int .i64 t13_0),.lit (.int .i64 t13_1)]) (Lst.Count_ok et13) rfl rfl ?_
    obtain ⟨⟨t18_0,t18_1⟩,et18,h5⟩:=bind_elim h4; clear h4
    conv=>whnf
    refine Gate.go ?_
    conv=>whnf
    refine CallN.by (v:=.tup [.lit (.int .i64 t18_0),.lit (.int .i64 t18_1)]) (Ref15.Count_ok et18) rfl rfl ?_
    obtain ⟨t23,et23,h6⟩:=letk_elim h5; clear h5
    conv=>whnf
    refine Nm.mk ⟨t23,et23,?_⟩
    rcases t23 with _ | _
    · have h7:=bif_f h6
      clear h6
      have eh7_0:=Option.some.inj h7
      subst eh7_0
      conv=>whnf
      exact Returns.pure (r:=.lit (.bool false)) rfl rfl rfl rfl ⟨rfl,rfl⟩
    have h7:=bif_t h6
    clear h6
    obtain ⟨t27,et27,h8⟩:=letk_elim h7; clear h7
    conv=>whnf
    refine Nm.mk ⟨t27,et27,?_⟩
    rcases t27 with _ | _
    · have h9:=bif_f h8
      clear h8
      have eh9_0:=Option.some.inj h9
      subst eh9_0
      conv=>whnf
      exact Returns.pure (r:=.lit (.bool false)) rfl rfl rfl rfl ⟨rfl,rfl⟩
    have h9:=bif_t h8
    clear h8
    obtain ⟨t30,et30,h10⟩:=bind_elim h9; clear h9
    conv=>whnf
    refine Gate.go ?_
    conv=>whnf
    refine CallN.by (v:=.lit (.bool t30)) (Law15.Awake_ok et30) rfl rfl ?_
    have eh10_0:=Option.some.inj h10
    subst eh10_0
    conv=>whnf
    exact Returns.pure (r:=.lit (.bool t30)) rfl rfl rfl rfl ⟨rfl,rfl⟩
  have h3:=bif_t h2
  clear h2
  obtain ⟨t10,et10,h4⟩:=bind_elim h3; clear h3
  conv=>whnf
  refine Gate.go ?_
  conv=>whnf
  refine CallN.by (v:=.lit (.bool t10)) (Law15.Awake_ok et10) rfl rfl ?_
  have eh4_0:=Option.some.inj h4
  subst eh4_0
  conv=>whnf
  exact Returns.pure (r:=.lit (.bool t10)) rfl rfl rfl rfl ⟨rfl,rfl⟩
end Go.Q
