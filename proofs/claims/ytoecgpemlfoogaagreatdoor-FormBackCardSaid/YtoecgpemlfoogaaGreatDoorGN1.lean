import Derived.Test.YtoecgpemlfoogaaGreatDoorNGE
import Derived.Test.YtoecgpemlfoogaaGreatDoorFX
import Derived.Test.YtoecgpemlfoogaaGreatDoorProg
namespace Go.Q
open Go Go.Proofs
set_option maxRecDepth 10000
set_option maxHeartbeats 2000000
noncomputable def Slite.HasSuffix (s0 suffix1:ByteArray):Option Bool :=
  letk ((s0.size:Int)) fun t6 =>
  letk ((suffix1.size:Int)) fun t8 =>
  letk (decide (t6 ≥ t8)) fun t9 =>
  bif t9 then
    letk ((s0.size:Int)) fun t13 =>
    letk ((suffix1.size:Int)) fun t15 =>
    letk (IntKind.i64.wrap (t13 - t15)) fun t16 =>
    chk (0 ≤ t16 ∧ t16 ≤ (s0.size:Int)) <|
    letk (s0.extract t16.toNat s0.size) fun t17 =>
    letk (t17.toList == suffix1.toList) fun t19 =>
    some t19
  else
    some false
theorem Slite.HasSuffix_ok {s0 suffix1:ByteArray} {r:Bool} (h0:Slite.HasSuffix s0 suffix1 = some r):Gives Tryz.prog 94 [.lit (.string s0),.lit (.string suffix1)] (.lit (.bool r)):=by
  unfold Slite.HasSuffix at h0
  refine ACalls.of_swp Tryz.func94 rfl (by decide) rfl (st0:=⟨21,[(0,.lit (.string s0)),(1,.lit (.string suffix1))],[]⟩) rfl (bwp_ok (C:=[]) ?_)
  obtain ⟨t6,et6,h1⟩:=letk_elim h0
  conv=>whnf
  refine Nm.mk ⟨t6,et6,?_⟩
  obtain ⟨t8,et8,h2⟩:=letk_elim h1
  conv=>whnf
  refine Nm.mk ⟨t8,et8,?_⟩
  obtain ⟨t9,et9,h3⟩:=letk_elim h2
  conv=>whnf
  refine Nm.mk ⟨t9,et9,?_⟩
  rcases t9 with _ | _
  · have h4:=bif_f h3
    have eh4_0:=Option.some.inj h4
    subst eh4_0
    conv=>whnf
    exact Returns.pure (r:=.lit (.bool false)) rfl rfl rfl rfl ⟨rfl,rfl⟩
  · have h4:=bif_t h3
    obtain ⟨t13,et13,h5⟩:=letk_elim h4
    conv=>whnf
    refine Nm.mk ⟨t13,et13,?_⟩
    obtain ⟨t15,et15,h6⟩:=letk_elim h5
    conv=>whnf
    refine Nm.mk ⟨t15,et15,?_⟩
    obtain ⟨t16,et16,h7⟩:=letk_elim h6
    conv=>whnf
    refine Nm.mk ⟨t16,et16,?_⟩
    obtain ⟨ch8,h8⟩:=chk_elim h7
    obtain ⟨t17,et17,h9⟩:=letk_elim h8
    conv=>whnf
    refine Side.mk ch8 ?_
    conv=>whnf
    refine Nm.mk ⟨t17,et17,?_⟩
    obtain ⟨t19,et19,h10⟩:=letk_elim h9
    conv=>whnf
    refine Nm.mk ⟨t19,et19,?_⟩
    have eh10_0:=Option.some.inj h10
    subst eh10_0
    conv=>whnf
    exact Returns.pure (r:=.lit (.bool t19)) rfl rfl rfl rfl ⟨rfl,rfl⟩
noncomputable def Slite.TrimSuffix (s0 suffix1:ByteArray):Option ByteArray :=
  Option.bind (Slite.HasSuffix s0 suffix1) fun t7 =>
  bif t7 then
    letk ((s0.size:Int)) fun t10 =>
    letk ((suffix1.size:Int)) fun t12 =>
    letk (IntKind.i64.wrap (t10 - t12)) fun t13 =>
    chk (0 ≤ t13 ∧ t13 ≤ (s0.size:Int)) <|
    letk (s0.extract 0 t13.toNat) fun t14 =>
    some t14
  else
    some s0
theorem Slite.TrimSuffix_ok {s0 suffix1 r:ByteArray} (h0:Slite.TrimSuffix s0 suffix1 = some r):Gives Tryz.prog 80 [.lit (.string s0),.lit (.string suffix1)] (.lit (.string r)):=by
  unfold Slite.TrimSuffix at h0
  refine ACalls.of_swp Tryz.func80 rfl (by decide) rfl (st0:=⟨16,[(0,.lit (.string s0)),(1,.lit (.string suffix1))],[]⟩) rfl (bwp_ok (C:=[]) ?_)
  obtain ⟨t7,et7,h1⟩:=bind_elim h0
  conv=>whnf
  refine Gate.go ?_
  conv=>whnf
  refine CallN.by (v:=.lit (.bool t7)) (Slite.HasSuffix_ok et7) rfl rfl ?_
  rcases t7 with _ | _
  · have h2:=bif_f h1
    have eh2_0:=Option.some.inj h2
    subst eh2_0
    conv=>whnf
    exact Returns.pure (r:=.lit (.string s0)) rfl rfl rfl rfl ⟨rfl,rfl⟩
  · have h2:=bif_t h1
    obtain ⟨t10,et10,h3⟩:=letk_elim h2
    conv=>whnf
    refine Nm.mk ⟨t10,et10,?_⟩
    obtain ⟨t12,et12,h4⟩:=letk_elim h3
    conv=>whnf
    refine Nm.mk ⟨t12,et12,?_⟩
    obtain ⟨t13,et13,h5⟩:=letk_elim h4
    conv=>whnf
    refine Nm.mk ⟨t13,et13,?_⟩
    obtain ⟨ch6,h6⟩:=chk_elim h5
    obtain ⟨t14,et14,h7⟩:=letk_elim h6
    conv=>whnf
    refine Side.mk ch6 ?_
    conv=>whnf
    refine Nm.mk ⟨t14,et14,?_⟩
    have eh7_0:=Option.some.inj h7
    subst eh7_0
    conv=>whnf
    exact Returns.pure (r:=.lit (.string t14)) rfl rfl rfl rfl ⟨rfl,rfl⟩
noncomputable def Strs.TrimSuffix (s0 suffix1:ByteArray):Option ByteArray :=
  Option.bind (Slite.TrimSuffix s0 suffix1) fun t7 =>
  some t7
theorem Strs.TrimSuffix_ok {s0 suffix1 r:ByteArray} (h0:Strs.TrimSuffix s0 suffix1 = some r):Gives Tryz.prog 55 [.lit (.string s0),.lit (.string suffix1)] (.lit (.string r)):=by
  unfold Strs.TrimSuffix at h0
  refine ACalls.of_swp Tryz.func55 rfl (by decide) rfl (st0:=⟨8,[(0,.lit (.string s0)),(1,.lit (.string suffix1))],[]⟩) rfl (bwp_ok (C:=[]) ?_)
  obtain ⟨t7,et7,h1⟩:=bind_elim h0
  conv=>whnf
  refine Gate.go ?_
  conv=>whnf
  refine CallN.by (v:=.lit (.string t7)) (Slite.TrimSuffix_ok et7) rfl rfl ?_
  have eh1_0:=Option.some.inj h1
  subst eh1_0
  conv=>whnf
  exact Returns.pure (r:=.lit (.string t7)) rfl rfl rfl rfl ⟨rfl,rfl⟩
noncomputable def Src.lines (text0:ByteArray):Option ((List ByteArray)) :=
  letk (text0.toList == (⟨#[]⟩:ByteArray).toList) fun t4 =>
  bif t4 then
    some ([])
  else
    Option.bind (Strs.TrimSuffix text0 ⟨#[10]⟩) fun t6 =>
    Option.bind (Strs.Split t6 ⟨#[10]⟩) fun t7 =>
    some t7
theorem Src.lines_ok {text0:ByteArray} {r:(List ByteArray)} (h0:Src.lines text0 = some r):Gives Tryz.prog 21 [.lit (.string text0)] (.vs 1 (r.map (eS))):=by
  unfold Src.lines at h0
  refine ACalls.of_swp Tryz.func21 rfl (by decide) rfl (st0:=⟨8,[(0,.lit (.string text0))],[]⟩) rfl (bwp_ok (C:=[]) ?_)
  obtain ⟨t4,et4,h1⟩:=letk_elim h0
  conv=>whnf
  refine Nm.mk ⟨t4,et4,?_⟩
  rcases t4 with _ | _
  · have h2:=bif_f h1
    obtain ⟨t6,et6,h3⟩:=bind_elim h2
    conv=>whnf
    refine Gate.go ?_
    conv=>whnf
    refine CallN.by (v:=.lit (.string t6)) (Strs.TrimSuffix_ok et6) rfl rfl ?_
    obtain ⟨t7,et7,h4⟩:=bind_elim h3
    conv=>whnf
    refine Gate.go ?_
    conv=>whnf
    refine CallN.by (v:=.vs 1 (t7.map (eS))) (Strs.Split_ok et7) rfl rfl ?_
    have eh4_0:=Option.some.inj h4
    subst eh4_0
    conv=>whnf
    exact Returns.pure (r:=.vs 1 (t7.map (eS))) rfl rfl rfl rfl ⟨rfl,rfl⟩
  · have h2:=bif_t h1
    have eh2_0:=Option.some.inj h2
    subst eh2_0
    conv=>whnf
    exact Returns.frozen (r:=.vs 1 (([]).map (eS))) [] rfl rfl (.nilsVs _) ⟨rfl,rfl⟩
noncomputable def Src.isText.s0 (t6:List Int) (t7 t8:Int):Option (Int ⊕ Bool) :=
  letk (decide (t8 < t7)) fun t9 =>
  bif t9 then
    chk (0 ≤ t8 ∧ t8 < (t6.length:Int)) <|
    letk (0 + t8.toNat) fun t10 =>
    Option.bind (t6[t10]?) fun t11 =>
    letk (decide (t11 < (32:Int))) fun t13 =>
    bif t13 then
      some (.inr false)
    else
      letk (decide (t11 > (126:Int))) fun t16 =>
      bif t16 then
        some (.inr false)
      else
        letk (IntKind.i64.wrap (t8 + (1:Int))) fun t18 =>
        some (.inl t18)
  else
    some (.inr true)
noncomputable def Src.isText.l0 (t6:List Int) (t7 t8:Int):Option Bool:=loopO (fun v:Int=>Src.isText.s0 t6 t7 v) t8
theorem Src.isText.l0_eq (t6:List Int) (t7 t8:Int):Src.isText.l0 t6 t7 t8 = (Src.isText.s0 t6 t7 t8).bind (Sum.elim (fun v=>Src.isText.l0 t6 t7 v) some):=loopO_eq _ _
noncomputable def Src.isText (s0:ByteArray):Option Bool :=
  letk (bytesI s0) fun t6 =>
  letk ((t6.length:Int)) fun t7 =>
  Src.isText.l0 t6 t7 0
theorem Src.isText_ok {s0:ByteArray} {r:Bool} (h0:Src.isText s0 = some r):Gives Tryz.prog 22 [.lit (.string s0)] (.lit (.bool r)):=by
  unfold Src.isText at h0
  refine ACalls.of_swp Tryz.func22 rfl (by decide) rfl (st0:=⟨19,[(0,.lit (.string s0))],[]⟩) rfl (bwp_ok (C:=[]) ?_)
  obtain ⟨t6,et6,h1⟩:=letk_elim h0
  conv=>whnf
  refine Nm.mk ⟨t6.map (eI .u8),by rw [et6]; exact bytesI_map _,?_⟩
  obtain ⟨t7,et7,h2⟩:=letk_elim h1
  conv=>whnf
  refine Nm.mk ⟨t7,by rw [et7,List.length_map],?_⟩
  conv=>whnf
  unfold Src.isText.l0 at h2
  refine LoopB.of (σ:=Int) (ρ:=Bool) (fun v:Int=>Src.isText.s0 t6 t7 v) (fun v=>(⟨19,[(6,.ref 0 0 ((t6.map (eI .u8)).length)),(7,J t7),(8,J v)],[.arr 1 (t6.map (eI .u8))]⟩:St)) 0 h2 (BackS.of (Sees.of (Weak.objs (keep:=[0]) (frz:=[]) (m:=0) (ts:=[(6,.ref 0 0 ((t6.map (eI .u8)).length)),(7,J t7),(8,J 0)]) (hs:=[.arr 1 (t6.map (eI .u8))]) rfl (by decide) rfl rfl ⟨⟨_,rfl,.arr _ _⟩,⟨rfl,fun _ h=>by cases h⟩⟩ ⟨(.ref _ _ _ 0 rfl),(.same (J t7) rfl),(.same (J 0) rfl),trivial⟩)) rfl) ?_
  rintro K1 t8 x1 hs0_0 hl1 hr1
  replace hs0_0:Src.isText.s0 t6 t7 t8 = some x1:=hs0_0
  unfold Src.isText.s0 at hs0_0
  change bwp _ _ _ _ _ (⟨19,[(6,.ref 0 0 ((t6.map (eI .u8)).length)),(7,J t7),(8,J t8)],[.arr 1 (t6.map (eI .u8))]⟩:St)
  obtain ⟨t9,et9,hs0_1⟩:=letk_elim hs0_0
  conv=>whnf
  refine Nm.mk ⟨t9,et9,?_⟩
  rcases t9 with _ | _
  · have hs0_2:=bif_f hs0_1
    have ehs0_2u_0:=hr1 _ (Option.some.inj hs0_2).symm
    have hs0_2u:=congrArg some ehs0_2u_0
    have ehs0_2u_0:=Option.some.inj hs0_2u
    subst ehs0_2u_0
    conv=>whnf
    exact Returns.pure (r:=.lit (.bool true)) rfl rfl rfl rfl ⟨rfl,rfl⟩
  · have hs0_2:=bif_t hs0_1
    obtain ⟨chs0_3,hs0_3⟩:=chk_elim hs0_2
    obtain ⟨t10,et10,hs0_4⟩:=letk_elim hs0_3
    conv=>whnf
    refine Side.mk (by simpa only [List.length_map] using chs0_3) ?_
    conv=>whnf
    refine Nm.mk ⟨t10,et10,?_⟩
    obtain ⟨_,et11,hs0_5⟩:=bind_elim hs0_4
    conv=>whnf
    refine At.by et11 ?_
    obtain ⟨t13,et13,hs0_6⟩:=letk_elim hs0_5
    conv=>whnf
    refine Nm.mk ⟨t13,et13,?_⟩
    rcases t13 with _ | _
    · have hs0_7:=bif_f hs0_6
      obtain ⟨t16,et16,hs0_8⟩:=letk_elim hs0_7
      conv=>whnf
      refine Nm.mk ⟨t16,et16,?_⟩
      rcases t16 with _ | _
      · have hs0_9:=bif_f hs0_8
        obtain ⟨t18,et18,hs0_10⟩:=letk_elim hs0_9
        conv=>whnf
        refine Nm.mk ⟨t18,et18,?_⟩
        exact BackS.of (Sees.of (Weak.objs (keep:=[0]) (frz:=[]) (m:=0) (ts:=[(6,.ref 0 0 ((t6.map (eI .u8)).length)),(7,J t7),(8,J t18)]) (hs:=[.arr 1 (t6.map (eI .u8))]) rfl (by decide) rfl rfl ⟨⟨_,rfl,.arr _ _⟩,⟨rfl,fun _ h=>by cases h⟩⟩ ⟨(.ref _ _ _ 0 rfl),(.same (J t7) rfl),(.same (J t18) rfl),trivial⟩)) ⟨_,hl1 _ (Option.some.inj hs0_10).symm,rfl⟩
      · have hs0_9:=bif_t hs0_8
        have ehs0_9_0:=hr1 _ (Option.some.inj hs0_9).symm
        subst ehs0_9_0
        conv=>whnf
        exact Returns.pure (r:=.lit (.bool false)) rfl rfl rfl rfl ⟨rfl,rfl⟩
    · have hs0_7:=bif_t hs0_6
      have ehs0_7_0:=hr1 _ (Option.some.inj hs0_7).symm
      subst ehs0_7_0
      conv=>whnf
      exact Returns.pure (r:=.lit (.bool false)) rfl rfl rfl rfl ⟨rfl,rfl⟩
noncomputable def Src.reader.fail.j0 (r0_0:List api.Line) (r0_1 r0_3 r0_4:Int) (r0_5:ByteArray) (r0_6 at1:Int) (r0_2_1 t16:Bool):Option ((List api.Line) × Int × Bool × Int × Int × ByteArray × Int) :=
  bif t16 then
    some (r0_0,at1,r0_2_1,r0_3,r0_4,r0_5,r0_6)
  else
    some (r0_0,r0_1,r0_2_1,r0_3,r0_4,r0_5,r0_6)
noncomputable def Src.reader.fail (r0_0:List api.Line) (r0_1:Int) (r0_2:Bool) (r0_3 r0_4:Int) (r0_5:ByteArray) (r0_6 at1:Int):Option ((List api.Line) × Int × Bool × Int × Int × ByteArray × Int) :=
  letk (r0_1 == (0:Int)) fun t8 =>
  bif t8 then
    Src.reader.fail.j0 r0_0 r0_1 r0_3 r0_4 r0_5 r0_6 at1 r0_2 true
  else
    letk (decide (at1 < r0_1)) fun t15 =>
    Src.reader.fail.j0 r0_0 r0_1 r0_3 r0_4 r0_5 r0_6 at1 r0_2 t15
theorem Src.reader.fail_ok {r0_0:List api.Line} {r0_1:Int} {r0_2:Bool} {r0_3 r0_4:Int} {r0_5:ByteArray} {r0_6 at1:Int} {r:(List api.Line) × Int × Bool × Int × Int × ByteArray × Int} (h0:Src.reader.fail r0_0 r0_1 r0_2 r0_3 r0_4 r0_5 r0_6 at1 = some r):GivesK Tryz.prog 23 [.ptr 0 0,J at1] [.box [.ref 1 0 ((r0_0.map (api.Line.enc)).length),J r0_1,.lit (.bool r0_2),J r0_3,J r0_4,.lit (.string r0_5),.lit (.int .u8 r0_6)],.arr 3 (r0_0.map (api.Line.enc))] 1 (.tup []) [.box [.ref 1 0 ((r.1.map (api.Line.enc)).length),J r.2.1,.lit (.bool r.2.2.1),J r.2.2.2.1,J r.2.2.2.2.1,.lit (.string r.2.2.2.2.2.1),.lit (.int .u8 r.2.2.2.2.2.2)],.arr 3 (r.1.map (api.Line.enc))]:=by
  unfold Src.reader.fail at h0
  refine ACallsK.of_swp Tryz.func23 rfl (by decide) rfl (st0:=⟨21,[(0,.ptr 0 0),(1,J at1)],[.box [.ref 1 0 ((r0_0.map (api.Line.enc)).length),J r0_1,.lit (.bool r0_2),J r0_3,J r0_4,.lit (.string r0_5),.lit (.int .u8 r0_6)],.arr 3 (r0_0.map (api.Line.enc))]⟩) rfl rfl (bwp_ok (C:=[(26,3)]) ?_)
  conv=>whnf
  refine CutN.of (fun s=>∃ (r0_2_1 t16:Bool),Src.reader.fail.j0 r0_0 r0_1 r0_3 r0_4 r0_5 r0_6 at1 r0_2_1 t16 = some r ∧ s = (⟨21,[(0,.ptr 0 0),(1,J at1),(16,.lit (.bool t16))],[.box [.ref 1 0 ((r0_0.map (api.Line.enc)).length),J r0_1,.lit (.bool r0_2_1),J r0_3,J r0_4,.lit (.string r0_5),.lit (.int .u8 r0_6)],.arr 3 (r0_0.map (api.Line.enc))]⟩:St)) ?_ ?_
  · obtain ⟨t8,et8,h1⟩:=letk_elim h0
    conv=>whnf
    refine Nm.mk ⟨t8,et8,?_⟩
    rcases t8 with _ | _
    · have h2:=bif_f h1
      obtain ⟨t15,et15,h3⟩:=letk_elim h2
      conv=>whnf
      refine Nm.mk ⟨t15,et15,?_⟩
      exact BackS.of (Sees.of (Weak.objs (keep:=[0,1]) (frz:=[]) (m:=0) (ts:=[(0,.ptr 0 0),(1,J at1),(16,.lit (.bool t15))]) (hs:=[.box [.ref 1 0 ((r0_0.map (api.Line.enc)).length),J r0_1,.lit (.bool r0_2),J r0_3,J r0_4,.lit (.string r0_5),.lit (.int .u8 r0_6)],.arr 3 (r0_0.map (api.Line.enc))]) rfl (by decide) rfl rfl ⟨⟨_,rfl,WO.boxs ⟨(.ref _ _ _ 1 rfl),(.same (J r0_1) rfl),(.same (.lit (.bool r0_2)) rfl),(.same (J r0_3) rfl),(.same (J r0_4) rfl),(.same (.lit (.string r0_5)) rfl),(.same (.lit (.int .u8 r0_6)) rfl),trivial⟩⟩,⟨⟨_,rfl,.arr _ _⟩,⟨rfl,fun _ h=>by cases h⟩⟩⟩ ⟨(.ptr _ _ 0 rfl),(.same (J at1) rfl),(.same (.lit (.bool t15)) rfl),trivial⟩)) ⟨_,_,h3,rfl⟩
    · have h2:=bif_t h1
      exact BackS.of (Sees.of (Weak.objs (keep:=[0,1]) (frz:=[]) (m:=0) (ts:=[(0,.ptr 0 0),(1,J at1),(16,.lit (.bool true))]) (hs:=[.box [.ref 1 0 ((r0_0.map (api.Line.enc)).length),J r0_1,.lit (.bool r0_2),J r0_3,J r0_4,.lit (.string r0_5),.lit (.int .u8 r0_6)],.arr 3 (r0_0.map (api.Line.enc))]) rfl (by decide) rfl rfl ⟨⟨_,rfl,WO.boxs ⟨(.ref _ _ _ 1 rfl),(.same (J r0_1) rfl),(.same (.lit (.bool r0_2)) rfl),(.same (J r0_3) rfl),(.same (J r0_4) rfl),(.same (.lit (.string r0_5)) rfl),(.same (.lit (.int .u8 r0_6)) rfl),trivial⟩⟩,⟨⟨_,rfl,.arr _ _⟩,⟨rfl,fun _ h=>by cases h⟩⟩⟩ ⟨(.ptr _ _ 0 rfl),(.same (J at1) rfl),(.same (.lit (.bool true)) rfl),trivial⟩)) ⟨_,_,h2,rfl⟩
  · clear h0
    rintro s ⟨r0_2_1,t16,hj0,rfl⟩
    unfold Src.reader.fail.j0 at hj0
    rcases t16 with _ | _
    · have hj1:=bif_f hj0
      have ehj1_0:=Option.some.inj hj1
      subst ehj1_0
      conv=>whnf
      exact Returns.hand (v:=.tup []) (keep:=[0,1]) (frz:=[]) (m:=0) (h':=[.box [.ref 1 0 ((r0_0.map (api.Line.enc)).length),J r0_1,.lit (.bool r0_2_1),J r0_3,J r0_4,.lit (.string r0_5),.lit (.int .u8 r0_6)],.arr 3 (r0_0.map (api.Line.enc))]) rfl rfl (WH.of (by decide) rfl rfl ⟨⟨_,rfl,WO.boxs ⟨(.ref _ _ _ 1 rfl),(.same (J r0_1) rfl),(.same (.lit (.bool r0_2_1)) rfl),(.same (J r0_3) rfl),(.same (J r0_4) rfl),(.same (.lit (.string r0_5)) rfl),(.same (.lit (.int .u8 r0_6)) rfl),trivial⟩⟩,⟨⟨_,rfl,.arr _ _⟩,⟨rfl,fun _ h=>by cases h⟩⟩⟩) (WV.tups trivial) ⟨rfl,rfl⟩
    · have hj1:=bif_t hj0
      conv=>whnf
      refine Nm.mk ⟨[.ref 1 0 ((r0_0.map (api.Line.enc)).length),J at1,.lit (.bool r0_2_1),J r0_3,J r0_4,.lit (.string r0_5),.lit (.int .u8 r0_6)],rfl,?_⟩
      have ehj1_0:=Option.some.inj hj1
      subst ehj1_0
      conv=>whnf
      exact Returns.hand (v:=.tup []) (keep:=[0,1]) (frz:=[]) (m:=0) (h':=[.box [.ref 1 0 ((r0_0.map (api.Line.enc)).length),J at1,.lit (.bool r0_2_1),J r0_3,J r0_4,.lit (.string r0_5),.lit (.int .u8 r0_6)],.arr 3 (r0_0.map (api.Line.enc))]) rfl rfl (WH.of (by decide) rfl rfl ⟨⟨_,rfl,WO.boxs ⟨(.ref _ _ _ 1 rfl),(.same (J at1) rfl),(.same (.lit (.bool r0_2_1)) rfl),(.same (J r0_3) rfl),(.same (J r0_4) rfl),(.same (.lit (.string r0_5)) rfl),(.same (.lit (.int .u8 r0_6)) rfl),trivial⟩⟩,⟨⟨_,rfl,.arr _ _⟩,⟨rfl,fun _ h=>by cases h⟩⟩⟩) (WV.tups trivial) ⟨rfl,rfl⟩
noncomputable def Slite.IndexByte (s0:ByteArray) (c1:Int):Option Int :=
  Option.bind (Balg.IndexByteString s0 c1) fun t7 =>
  some t7
theorem Slite.IndexByte_ok {s0:ByteArray} {c1 r:Int} (h0:Slite.IndexByte s0 c1 = some r):Gives Tryz.prog 81 [.lit (.string s0),.lit (.int .u8 c1)] (J r):=by
  unfold Slite.IndexByte at h0
  refine ACalls.of_swp Tryz.func81 rfl (by decide) rfl (st0:=⟨8,[(0,.lit (.string s0)),(1,.lit (.int .u8 c1))],[]⟩) rfl (bwp_ok (C:=[]) ?_)
  obtain ⟨t7,et7,h1⟩:=bind_elim h0
  conv=>whnf
  refine Gate.go ?_
  conv=>whnf
  refine CallN.by (v:=J t7) (Balg.IndexByteString_ok et7) rfl rfl ?_
  have eh1_0:=Option.some.inj h1
  subst eh1_0
  conv=>whnf
  exact Returns.pure (r:=J t7) rfl rfl rfl rfl ⟨rfl,rfl⟩
noncomputable def Strs.IndexByte (s0:ByteArray) (c1:Int):Option Int :=
  Option.bind (Slite.IndexByte s0 c1) fun t7 =>
  some t7
theorem Strs.IndexByte_ok {s0:ByteArray} {c1 r:Int} (h0:Strs.IndexByte s0 c1 = some r):Gives Tryz.prog 56 [.lit (.string s0),.lit (.int .u8 c1)] (J r):=by
  unfold Strs.IndexByte at h0
  refine ACalls.of_swp Tryz.func56 rfl (by decide) rfl (st0:=⟨8,[(0,.lit (.string s0)),(1,.lit (.int .u8 c1))],[]⟩) rfl (bwp_ok (C:=[]) ?_)
  obtain ⟨t7,et7,h1⟩:=bind_elim h0
  conv=>whnf
  refine Gate.go ?_
  conv=>whnf
  refine CallN.by (v:=J t7) (Slite.IndexByte_ok et7) rfl rfl ?_
  have eh1_0:=Option.some.inj h1
  subst eh1_0
  conv=>whnf
  exact Returns.pure (r:=J t7) rfl rfl rfl rfl ⟨rfl,rfl⟩
noncomputable def Src.Comment (line0:ByteArray) (old1:Bool):Option Bool :=
  Option.bind (Strs.TrimLeft line0 ⟨#[32]⟩) fun t7 =>
  bif old1 then
    letk (t7.toList == (⟨#[]⟩:ByteArray).toList) fun t10 =>
    bif t10 then
      some true
    else
      chk (0 ≤ (0:Int) ∧ (0:Int) < (line0.size:Int)) <|
      letk (bt line0 (0:Int)) fun t13 =>
      Option.bind (Strs.IndexByte ⟨#[67,99,42,33]⟩ t13) fun t14 =>
      letk (decide (t14 ≥ (0:Int))) fun t15 =>
      some t15
  else
    letk (t7.toList == (⟨#[]⟩:ByteArray).toList) fun t18 =>
    bif t18 then
      some true
    else
      chk (0 ≤ (0:Int) ∧ (0:Int) < (t7.size:Int)) <|
      letk (bt t7 (0:Int)) fun t21 =>
      letk (t21 == (33:Int)) fun t22 =>
      some t22
theorem Src.Comment_ok {line0:ByteArray} {old1 r:Bool} (h0:Src.Comment line0 old1 = some r):Gives Tryz.prog 24 [.lit (.string line0),.lit (.bool old1)] (.lit (.bool r)):=by
  unfold Src.Comment at h0
  refine ACalls.of_swp Tryz.func24 rfl (by decide) rfl (st0:=⟨24,[(0,.lit (.string line0)),(1,.lit (.bool old1))],[]⟩) rfl (bwp_ok (C:=[]) ?_)
  obtain ⟨t7,et7,h1⟩:=bind_elim h0
  conv=>whnf
  refine Gate.go ?_
  conv=>whnf
  refine CallN.by (v:=.lit (.string t7)) (Strs.TrimLeft_ok et7) rfl rfl ?_
  rcases old1 with _ | _
  · have h2:=bif_f h1
    obtain ⟨t18,et18,h3⟩:=letk_elim h2
    conv=>whnf
    refine Nm.mk ⟨t18,et18,?_⟩
    rcases t18 with _ | _
    · have h4:=bif_f h3
      obtain ⟨ch5,h5⟩:=chk_elim h4
      obtain ⟨t21,et21,h6⟩:=letk_elim h5
      conv=>whnf
      refine Side.mk ch5 ?_
      conv=>whnf
      refine Nm.mk ⟨t21,et21,?_⟩
      obtain ⟨t22,et22,h7⟩:=letk_elim h6
      conv=>whnf
      refine Nm.mk ⟨t22,et22,?_⟩
      have eh7_0:=Option.some.inj h7
      subst eh7_0
      conv=>whnf
      exact Returns.pure (r:=.lit (.bool t22)) rfl rfl rfl rfl ⟨rfl,rfl⟩
    · have h4:=bif_t h3
      have eh4_0:=Option.some.inj h4
      subst eh4_0
      conv=>whnf
      exact Returns.pure (r:=.lit (.bool true)) rfl rfl rfl rfl ⟨rfl,rfl⟩
  · have h2:=bif_t h1
    obtain ⟨t10,et10,h3⟩:=letk_elim h2
    conv=>whnf
    refine Nm.mk ⟨t10,et10,?_⟩
    rcases t10 with _ | _
    · have h4:=bif_f h3
      obtain ⟨ch5,h5⟩:=chk_elim h4
      obtain ⟨t13,et13,h6⟩:=letk_elim h5
      conv=>whnf
      refine Side.mk ch5 ?_
      conv=>whnf
      refine Nm.mk ⟨t13,et13,?_⟩
      obtain ⟨t14,et14,h7⟩:=bind_elim h6
      conv=>whnf
      refine Gate.go ?_
      conv=>whnf
      refine CallN.by (v:=J t14) (Strs.IndexByte_ok et14) rfl rfl ?_
      obtain ⟨t15,et15,h8⟩:=letk_elim h7
      conv=>whnf
      refine Nm.mk ⟨t15,et15,?_⟩
      have eh8_0:=Option.some.inj h8
      subst eh8_0
      conv=>whnf
      exact Returns.pure (r:=.lit (.bool t15)) rfl rfl rfl rfl ⟨rfl,rfl⟩
    · have h4:=bif_t h3
      have eh4_0:=Option.some.inj h4
      subst eh4_0
      conv=>whnf
      exact Returns.pure (r:=.lit (.bool true)) rfl rfl rfl rfl ⟨rfl,rfl⟩
noncomputable def Src.quote.next_.j0 (q0 c1:Int) (t5:Bool):Option Int :=
  bif t5 then
    some c1
  else
    letk (q0 == c1) fun t20 =>
    bif t20 then
      some 0
    else
      some q0
noncomputable def Src.quote.next_ (q0 c1:Int):Option Int :=
  letk (q0 == (0:Int)) fun t7 =>
  bif t7 then
    letk (c1 == (39:Int)) fun t10 =>
    bif t10 then
      Src.quote.next_.j0 q0 c1 true
    else
      letk (c1 == (34:Int)) fun t13 =>
      Src.quote.next_.j0 q0 c1 t13
  else
    Src.quote.next_.j0 q0 c1 false
theorem Src.quote.next__ok {q0 c1 r:Int} (h0:Src.quote.next_ q0 c1 = some r):Gives Tryz.prog 86 [.lit (.int .u8 q0),.lit (.int .u8 c1)] (.lit (.int .u8 r)):=by
  unfold Src.quote.next_ at h0
  refine ACalls.of_swp Tryz.func86 rfl (by decide) rfl (st0:=⟨22,[(0,.lit (.int .u8 q0)),(1,.lit (.int .u8 c1))],[]⟩) rfl (bwp_ok (C:=[(15,5)]) ?_)
  conv=>whnf
  refine CutN.of (fun s=>∃ (t5:Bool),Src.quote.next_.j0 q0 c1 t5 = some r ∧ s = (⟨22,[(0,.lit (.int .u8 q0)),(1,.lit (.int .u8 c1)),(5,.lit (.bool t5))],[]⟩:St)) ?_ ?_
  · obtain ⟨t7,et7,h1⟩:=letk_elim h0
    conv=>whnf
    refine Nm.mk ⟨t7,et7,?_⟩
    rcases t7 with _ | _
    · have h2:=bif_f h1
      exact BackS.of (Sees.of (Weak.objs (keep:=[]) (frz:=[]) (m:=0) (ts:=[(0,.lit (.int .u8 q0)),(1,.lit (.int .u8 c1)),(5,.lit (.bool false))]) (hs:=[]) rfl (by decide) rfl rfl ⟨rfl,fun _ h=>by cases h⟩ ⟨(.same (.lit (.int .u8 q0)) rfl),(.same (.lit (.int .u8 c1)) rfl),(.same (.lit (.bool false)) rfl),trivial⟩)) ⟨_,h2,rfl⟩
    · have h2:=bif_t h1
      obtain ⟨t10,et10,h3⟩:=letk_elim h2
      conv=>whnf
      refine Nm.mk ⟨t10,et10,?_⟩
      rcases t10 with _ | _
      · have h4:=bif_f h3
        obtain ⟨t13,et13,h5⟩:=letk_elim h4
        conv=>whnf
        refine Nm.mk ⟨t13,et13,?_⟩
        exact BackS.of (Sees.of (Weak.objs (keep:=[]) (frz:=[]) (m:=0) (ts:=[(0,.lit (.int .u8 q0)),(1,.lit (.int .u8 c1)),(5,.lit (.bool t13))]) (hs:=[]) rfl (by decide) rfl rfl ⟨rfl,fun _ h=>by cases h⟩ ⟨(.same (.lit (.int .u8 q0)) rfl),(.same (.lit (.int .u8 c1)) rfl),(.same (.lit (.bool t13)) rfl),trivial⟩)) ⟨_,h5,rfl⟩
      · have h4:=bif_t h3
        exact BackS.of (Sees.of (Weak.objs (keep:=[]) (frz:=[]) (m:=0) (ts:=[(0,.lit (.int .u8 q0)),(1,.lit (.int .u8 c1)),(5,.lit (.bool true))]) (hs:=[]) rfl (by decide) rfl rfl ⟨rfl,fun _ h=>by cases h⟩ ⟨(.same (.lit (.int .u8 q0)) rfl),(.same (.lit (.int .u8 c1)) rfl),(.same (.lit (.bool true)) rfl),trivial⟩)) ⟨_,h4,rfl⟩
  · clear h0
    rintro s ⟨t5,hj0,rfl⟩
    unfold Src.quote.next_.j0 at hj0
    rcases t5 with _ | _
    · have hj1:=bif_f hj0
      obtain ⟨t20,et20,hj2⟩:=letk_elim hj1
      conv=>whnf
      refine Nm.mk ⟨t20,et20,?_⟩
      rcases t20 with _ | _
      · have hj3:=bif_f hj2
        have ehj3_0:=Option.some.inj hj3
        subst ehj3_0
        conv=>whnf
        exact Returns.pure (r:=.lit (.int .u8 q0)) rfl rfl rfl rfl ⟨rfl,rfl⟩
      · have hj3:=bif_t hj2
        have ehj3_0:=Option.some.inj hj3
        subst ehj3_0
        conv=>whnf
        exact Returns.pure (r:=.lit (.int .u8 0)) rfl rfl rfl rfl ⟨rfl,rfl⟩
    · have hj1:=bif_t hj0
      have ehj1_0:=Option.some.inj hj1
      subst ehj1_0
      conv=>whnf
      exact Returns.pure (r:=.lit (.int .u8 c1)) rfl rfl rfl rfl ⟨rfl,rfl⟩
noncomputable def Src.find.s0 (bytes1:ByteArray) (t12 q2_1:Int) (t11_1:List Int) (t13:Int):Option ((Int × (List Int) × Int) ⊕ (Int × Int)) :=
  letk (decide (t13 < t12)) fun t14 =>
  bif t14 then
    chk (0 ≤ t13 ∧ t13 < (t11_1.length:Int)) <|
    letk (0 + t13.toNat) fun t16 =>
    Option.bind (t11_1[t16]?) fun t17 =>
    letk (q2_1 == (0:Int)) fun t19 =>
    bif t19 then
      Option.bind (Strs.IndexByte bytes1 t17) fun t23 =>
      letk (decide (t23 ≥ (0:Int))) fun t24 =>
      bif t24 then
        some (.inr (t13,q2_1))
      else
        Option.bind (Src.quote.next_ q2_1 t17) fun t30_1 =>
        letk (IntKind.i64.wrap (t13 + (1:Int))) fun t31_1 =>
        some (.inl (t30_1,t11_1,t31_1))
    else
      Option.bind (Src.quote.next_ q2_1 t17) fun t30 =>
      letk (IntKind.i64.wrap (t13 + (1:Int))) fun t31 =>
      some (.inl (t30,t11_1,t31))
  else
    some (.inr ((-1),q2_1))
noncomputable def Src.find.l0 (bytes1:ByteArray) (t12 q2_1:Int) (t11_1:List Int) (t13:Int):Option (Int × Int):=loopO (fun v:Int × (List Int) × Int=>Src.find.s0 bytes1 t12 v.1 v.2.1 v.2.2) (q2_1,t11_1,t13)
theorem Src.find.l0_eq (bytes1:ByteArray) (t12 q2_1:Int) (t11_1:List Int) (t13:Int):Src.find.l0 bytes1 t12 q2_1 t11_1 t13 = (Src.find.s0 bytes1 t12 q2_1 t11_1 t13).bind (Sum.elim (fun v=>Src.find.l0 bytes1 t12 v.1 v.2.1 v.2.2) some):=loopO_eq _ _
noncomputable def Src.find (s0 bytes1:ByteArray) (q2:Int):Option (Int × Int) :=
  letk (bytesI s0) fun t11 =>
  letk ((t11.length:Int)) fun t12 =>
  Src.find.l0 bytes1 t12 q2 t11 0
theorem Src.find_ok {s0 bytes1:ByteArray} {q2:Int} {r:Int × Int} (h0:Src.find s0 bytes1 q2 = some r):Gives Tryz.prog 59 [.lit (.string s0),.lit (.string bytes1),.lit (.int .u8 q2)] (.tup [J r.1,.lit (.int .u8 r.2)]):=by
  unfold Src.find at h0
  refine ACalls.of_swp Tryz.func59 rfl (by decide) rfl (st0:=⟨33,[(0,.lit (.string s0)),(1,.lit (.string bytes1)),(2,.lit (.int .u8 q2))],[]⟩) rfl (bwp_ok (C:=[]) ?_)
  obtain ⟨t11,et11,h1⟩:=letk_elim h0
  conv=>whnf
  refine Nm.mk ⟨t11.map (eI .u8),by rw [et11]; exact bytesI_map _,?_⟩
  obtain ⟨t12,et12,h2⟩:=letk_elim h1
  conv=>whnf
  refine Nm.mk ⟨t12,by rw [et12,List.length_map],?_⟩
  conv=>whnf
  unfold Src.find.l0 at h2
  refine LoopB.of (σ:=Int × (List Int) × Int) (ρ:=Int × Int) (fun v:Int × (List Int) × Int=>Src.find.s0 bytes1 t12 v.1 v.2.1 v.2.2) (fun v=>(⟨33,[(1,.lit (.string bytes1)),(2,.lit (.int .u8 v.1)),(11,.ref 0 0 ((v.2.1.map (eI .u8)).length)),(12,J t12),(13,J v.2.2)],[.arr 1 (v.2.1.map (eI .u8))]⟩:St)) (q2,t11,0) h2 (BackS.of (Sees.of (Weak.objs (keep:=[0]) (frz:=[]) (m:=0) (ts:=[(1,.lit (.string bytes1)),(2,.lit (.int .u8 q2)),(11,.ref 0 0 ((t11.map (eI .u8)).length)),(12,J t12),(13,J 0)]) (hs:=[.arr 1 (t11.map (eI .u8))]) rfl (by decide) rfl rfl ⟨⟨_,rfl,.arr _ _⟩,⟨rfl,fun _ h=>by cases h⟩⟩ ⟨(.same (.lit (.string bytes1)) rfl),(.same (.lit (.int .u8 q2)) rfl),(.ref _ _ _ 0 rfl),(.same (J t12) rfl),(.same (J 0) rfl),trivial⟩)) rfl) ?_
  rintro _ ⟨q2_1,t11_1,t13⟩ x1 hs0_0 hl1 hr1
  replace hs0_0:Src.find.s0 bytes1 t12 q2_1 t11_1 t13 = some x1:=hs0_0
  unfold Src.find.s0 at hs0_0
  change bwp _ _ _ _ _ (⟨33,[(1,.lit (.string bytes1)),(2,.lit (.int .u8 q2_1)),(11,.ref 0 0 ((t11_1.map (eI .u8)).length)),(12,J t12),(13,J t13)],[.arr 1 (t11_1.map (eI .u8))]⟩:St)
  obtain ⟨t14,et14,hs0_1⟩:=letk_elim hs0_0
  conv=>whnf
  refine Nm.mk ⟨t14,et14,?_⟩
  rcases t14 with _ | _
  · have hs0_2:=bif_f hs0_1
    have ehs0_2u_0:=hr1 _ (Option.some.inj hs0_2).symm
    have hs0_2u:=congrArg some ehs0_2u_0
    have ehs0_2u_0:=Option.some.inj hs0_2u
    subst ehs0_2u_0
    conv=>whnf
    exact Returns.pure (r:=.tup [J ((-1)),.lit (.int .u8 q2_1)]) rfl rfl rfl rfl ⟨rfl,rfl⟩
  · have hs0_2:=bif_t hs0_1
    obtain ⟨chs0_3,hs0_3⟩:=chk_elim hs0_2
    obtain ⟨t16,et16,hs0_4⟩:=letk_elim hs0_3
    conv=>whnf
    refine Side.mk (by simpa only [List.length_map] using chs0_3) ?_
    conv=>whnf
    refine Nm.mk ⟨t16,et16,?_⟩
    obtain ⟨_,et17,hs0_5⟩:=bind_elim hs0_4
    conv=>whnf
    refine At.by et17 ?_
    obtain ⟨t19,et19,hs0_6⟩:=letk_elim hs0_5
    conv=>whnf
    refine Nm.mk ⟨t19,et19,?_⟩
    rcases t19 with _ | _
    · have hs0_7:=bif_f hs0_6
      obtain ⟨t30,et30,hs0_8⟩:=bind_elim hs0_7
      conv=>whnf
      refine Gate.go ?_
      conv=>whnf
      refine CallN.by (v:=.lit (.int .u8 t30)) (Src.quote.next__ok et30) rfl rfl ?_
      obtain ⟨t31,et31,hs0_9⟩:=letk_elim hs0_8
      conv=>whnf
      refine Nm.mk ⟨t31,et31,?_⟩
      exact BackS.of (Sees.of (Weak.objs (keep:=[0]) (frz:=[]) (m:=0) (ts:=[(1,.lit (.string bytes1)),(2,.lit (.int .u8 t30)),(11,.ref 0 0 ((t11_1.map (eI .u8)).length)),(12,J t12),(13,J t31)]) (hs:=[.arr 1 (t11_1.map (eI .u8))]) rfl (by decide) rfl rfl ⟨⟨_,rfl,.arr _ _⟩,⟨rfl,fun _ h=>by cases h⟩⟩ ⟨(.same (.lit (.string bytes1)) rfl),(.same (.lit (.int .u8 t30)) rfl),(.ref _ _ _ 0 rfl),(.same (J t12) rfl),(.same (J t31) rfl),trivial⟩)) ⟨_,hl1 _ (Option.some.inj hs0_9).symm,rfl⟩
    · have hs0_7:=bif_t hs0_6
      obtain ⟨t23,et23,hs0_8⟩:=bind_elim hs0_7
      conv=>whnf
      refine Gate.go ?_
      conv=>whnf
      refine CallN.by (v:=J t23) (Strs.IndexByte_ok et23) rfl rfl ?_
      obtain ⟨t24,et24,hs0_9⟩:=letk_elim hs0_8
      conv=>whnf
      refine Nm.mk ⟨t24,et24,?_⟩
      rcases t24 with _ | _
      · have hs0_10:=bif_f hs0_9
        obtain ⟨t30_1,et30_1,hs0_11⟩:=bind_elim hs0_10
        conv=>whnf
        refine Gate.go ?_
        conv=>whnf
        refine CallN.by (v:=.lit (.int .u8 t30_1)) (Src.quote.next__ok et30_1) rfl rfl ?_
        obtain ⟨t31_1,et31_1,hs0_12⟩:=letk_elim hs0_11
        conv=>whnf
        refine Nm.mk ⟨t31_1,et31_1,?_⟩
        exact BackS.of (Sees.of (Weak.objs (keep:=[0]) (frz:=[]) (m:=0) (ts:=[(1,.lit (.string bytes1)),(2,.lit (.int .u8 t30_1)),(11,.ref 0 0 ((t11_1.map (eI .u8)).length)),(12,J t12),(13,J t31_1)]) (hs:=[.arr 1 (t11_1.map (eI .u8))]) rfl (by decide) rfl rfl ⟨⟨_,rfl,.arr _ _⟩,⟨rfl,fun _ h=>by cases h⟩⟩ ⟨(.same (.lit (.string bytes1)) rfl),(.same (.lit (.int .u8 t30_1)) rfl),(.ref _ _ _ 0 rfl),(.same (J t12) rfl),(.same (J t31_1) rfl),trivial⟩)) ⟨_,hl1 _ (Option.some.inj hs0_12).symm,rfl⟩
      · have hs0_10:=bif_t hs0_9
        have ehs0_10_0:=hr1 _ (Option.some.inj hs0_10).symm
        subst ehs0_10_0
        conv=>whnf
        exact Returns.pure (r:=.tup [J t13,.lit (.int .u8 q2_1)]) rfl rfl rfl rfl ⟨rfl,rfl⟩
noncomputable def Src.isDigit (c0:Int):Option Bool :=
  letk (decide (c0 ≥ (48:Int))) fun t4 =>
  bif t4 then
    letk (decide (c0 ≤ (57:Int))) fun t7 =>
    some t7
  else
    some false
theorem Src.isDigit_ok {c0:Int} {r:Bool} (h0:Src.isDigit c0 = some r):Gives Tryz.prog 93 [.lit (.int .u8 c0)] (.lit (.bool r)):=by
  unfold Src.isDigit at h0
  refine ACalls.of_swp Tryz.func93 rfl (by decide) rfl (st0:=⟨9,[(0,.lit (.int .u8 c0))],[]⟩) rfl (bwp_ok (C:=[]) ?_)
  obtain ⟨t4,et4,h1⟩:=letk_elim h0
  conv=>whnf
  refine Nm.mk ⟨t4,et4,?_⟩
  rcases t4 with _ | _
  · have h2:=bif_f h1
    have eh2_0:=Option.some.inj h2
    subst eh2_0
    conv=>whnf
    exact Returns.pure (r:=.lit (.bool false)) rfl rfl rfl rfl ⟨rfl,rfl⟩
  · have h2:=bif_t h1
    obtain ⟨t7,et7,h3⟩:=letk_elim h2
    conv=>whnf
    refine Nm.mk ⟨t7,et7,?_⟩
    have eh3_0:=Option.some.inj h3
    subst eh3_0
    conv=>whnf
    exact Returns.pure (r:=.lit (.bool t7)) rfl rfl rfl rfl ⟨rfl,rfl⟩
noncomputable def Src.numbered.j0 (s0:ByteArray) (n4:Int):Option (Int × Bool) :=
  letk (decide (n4 > (0:Int))) fun t19 =>
  bif t19 then
    letk ((s0.size:Int)) fun t23 =>
    letk (decide (n4 < t23)) fun t24 =>
    bif t24 then
      chk (0 ≤ n4 ∧ n4 < (s0.size:Int)) <|
      letk (bt s0 n4) fun t29 =>
      letk (t29 == (32:Int)) fun t30 =>
      some (n4,t30)
    else
      some (n4,false)
  else
    some (n4,false)
noncomputable def Src.numbered.s0 (s0:ByteArray) (n4_1:Int):Option (Int ⊕ (Int × Bool)) :=
  letk ((s0.size:Int)) fun t7 =>
  letk (decide (n4_1 < t7)) fun t8 =>
  bif t8 then
    chk (0 ≤ n4_1 ∧ n4_1 < (s0.size:Int)) <|
    letk (bt s0 n4_1) fun t12 =>
    Option.bind (Src.isDigit t12) fun t13 =>
    bif t13 then
      letk (IntKind.i64.wrap (n4_1 + (1:Int))) fun t16 =>
      some (.inl t16)
    else
      (Src.numbered.j0 s0 n4_1).map .inr
  else
    (Src.numbered.j0 s0 n4_1).map .inr
noncomputable def Src.numbered.l0 (s0:ByteArray) (n4_1:Int):Option (Int × Bool):=loopO (fun v:Int=>Src.numbered.s0 s0 v) n4_1
theorem Src.numbered.l0_eq (s0:ByteArray) (n4_1:Int):Src.numbered.l0 s0 n4_1 = (Src.numbered.s0 s0 n4_1).bind (Sum.elim (fun v=>Src.numbered.l0 s0 v) some):=loopO_eq _ _
noncomputable def Src.numbered (s0:ByteArray):Option (Int × Bool) :=
  Src.numbered.l0 s0 0
theorem Src.numbered_ok {s0:ByteArray} {r:Int × Bool} (h0:Src.numbered s0 = some r):Gives Tryz.prog 68 [.lit (.string s0)] (.tup [J r.1,.lit (.bool r.2)]):=by
  unfold Src.numbered at h0
  refine ACalls.of_swp Tryz.func68 rfl (by decide) rfl (st0:=⟨32,[(0,.lit (.string s0))],[]⟩) rfl (bwp_ok (C:=[(0,4)]) ?_)
  conv=>whnf
  refine CutN.of (fun s=>∃ (n4:Int),Src.numbered.j0 s0 n4 = some r ∧ s = (⟨32,[(0,.lit (.string s0)),(4,J n4)],[]⟩:St)) ?_ ?_
  · conv=>whnf
    unfold Src.numbered.l0 at h0
    refine LoopB.of (σ:=Int) (ρ:=Int × Bool) (fun v:Int=>Src.numbered.s0 s0 v) (fun v=>(⟨32,[(0,.lit (.string s0)),(4,J v)],[]⟩:St)) 0 h0 (BackS.of (Sees.of (Weak.objs (keep:=[]) (frz:=[]) (m:=0) (ts:=[(0,.lit (.string s0)),(4,J 0)]) (hs:=[]) rfl (by decide) rfl rfl ⟨rfl,fun _ h=>by cases h⟩ ⟨(.same (.lit (.string s0)) rfl),(.same (J 0) rfl),trivial⟩)) rfl) ?_
    rintro K1 n4_1 x1 hs0_0 hl1 hr1
    replace hs0_0:Src.numbered.s0 s0 n4_1 = some x1:=hs0_0
    unfold Src.numbered.s0 at hs0_0
    change bwp _ _ _ _ _ (⟨32,[(0,.lit (.string s0)),(4,J n4_1)],[]⟩:St)
    obtain ⟨t7,et7,hs0_1⟩:=letk_elim hs0_0
    conv=>whnf
    refine Nm.mk ⟨t7,et7,?_⟩
    obtain ⟨t8,et8,hs0_2⟩:=letk_elim hs0_1
    conv=>whnf
    refine Nm.mk ⟨t8,et8,?_⟩
    rcases t8 with _ | _
    · have hs0_3:=bif_f hs0_2
      obtain ⟨_,hs0_3u,ehs0_3_0⟩:=map_elim hs0_3
      have ehs0_3_0:=(hr1 _ ehs0_3_0.symm).symm
      subst ehs0_3_0
      exact BackS.of (Sees.of (Weak.objs (keep:=[]) (frz:=[]) (m:=0) (ts:=[(0,.lit (.string s0)),(4,J n4_1)]) (hs:=[]) rfl (by decide) rfl rfl ⟨rfl,fun _ h=>by cases h⟩ ⟨(.same (.lit (.string s0)) rfl),(.same (J n4_1) rfl),trivial⟩)) ⟨_,hs0_3u,rfl⟩
    · have hs0_3:=bif_t hs0_2
      obtain ⟨chs0_4,hs0_4⟩:=chk_elim hs0_3
      obtain ⟨t12,et12,hs0_5⟩:=letk_elim hs0_4
      conv=>whnf
      refine Side.mk chs0_4 ?_
      conv=>whnf
      refine Nm.mk ⟨t12,et12,?_⟩
      obtain ⟨t13,et13,hs0_6⟩:=bind_elim hs0_5
      conv=>whnf
      refine Gate.go ?_
      conv=>whnf
      refine CallN.by (v:=.lit (.bool t13)) (Src.isDigit_ok et13) rfl rfl ?_
      rcases t13 with _ | _
      · have hs0_7:=bif_f hs0_6
        obtain ⟨_,hs0_7u,ehs0_7_0⟩:=map_elim hs0_7
        have ehs0_7_0:=(hr1 _ ehs0_7_0.symm).symm
        subst ehs0_7_0
        exact BackS.of (Sees.of (Weak.objs (keep:=[]) (frz:=[]) (m:=0) (ts:=[(0,.lit (.string s0)),(4,J n4_1)]) (hs:=[]) rfl (by decide) rfl rfl ⟨rfl,fun _ h=>by cases h⟩ ⟨(.same (.lit (.string s0)) rfl),(.same (J n4_1) rfl),trivial⟩)) ⟨_,hs0_7u,rfl⟩
      · have hs0_7:=bif_t hs0_6
        obtain ⟨t16,et16,hs0_8⟩:=letk_elim hs0_7
        conv=>whnf
        refine Nm.mk ⟨t16,et16,?_⟩
        exact BackS.of (Sees.of (Weak.objs (keep:=[]) (frz:=[]) (m:=0) (ts:=[(0,.lit (.string s0)),(4,J t16)]) (hs:=[]) rfl (by decide) rfl rfl ⟨rfl,fun _ h=>by cases h⟩ ⟨(.same (.lit (.string s0)) rfl),(.same (J t16) rfl),trivial⟩)) ⟨_,hl1 _ (Option.some.inj hs0_8).symm,rfl⟩
  · clear h0
    rintro s ⟨n4,hj0,rfl⟩
    unfold Src.numbered.j0 at hj0
    conv=>whnf
    refine DrawB.of Tryz_mixed rfl ?_
    conv=>whnf
    refine DNodeB.of (J n4) ?_ ?_
    · conv=>whnf
      rfl
    · conv=>whnf
      refine DNodeB.of (J n4) ?_ ?_
      · conv=>whnf
        rfl
      · obtain ⟨t19,et19,hj1⟩:=letk_elim hj0
        conv=>whnf
        refine DNodeB.of (.lit (.bool t19)) ?_ ?_
        · conv=>whnf
          refine Nm.mk ⟨t19,et19,?_⟩
          conv=>whnf
          rfl
        · conv=>whnf
          refine DNodeB.of (.lit (.bool t19)) ?_ ?_
          · conv=>whnf
            rfl
          · rcases t19 with _ | _
            · have hj2:=bif_f hj1
              conv=>whnf
              refine DNodeB.of (.lit (.bool false)) ?_ ?_
              · conv=>whnf
                rfl
              · conv=>whnf
                refine DNodeB.of (.lit (.bool false)) ?_ ?_
                · conv=>whnf
                  rfl
                · conv=>whnf
                  refine DNodeB.of (.lit (.bool false)) ?_ ?_
                  · conv=>whnf
                    rfl
                  · conv=>whnf
                    refine DNodeB.of (J n4) ?_ ?_
                    · conv=>whnf
                      rfl
                    · conv=>whnf
                      refine DNodeB.of (.lit (.bool false)) ?_ ?_
                      · conv=>whnf
                        rfl
                      · have ehj2_0:=Option.some.inj hj2
                        subst ehj2_0
                        conv=>whnf
                        exact Returns.pure (r:=.tup [J n4,.lit (.bool false)]) rfl rfl rfl rfl ⟨rfl,rfl⟩
            · have hj2:=bif_t hj1
              conv=>whnf
              refine DNodeB.of (J n4) ?_ ?_
              · conv=>whnf
                rfl
              · conv=>whnf
                refine DNodeB.of (.lit (.string s0)) ?_ ?_
                · conv=>whnf
                  rfl
                · obtain ⟨t23,et23,hj3⟩:=letk_elim hj2
                  conv=>whnf
                  refine DNodeB.of (J t23) ?_ ?_
                  · conv=>whnf
                    refine Nm.mk ⟨t23,et23,?_⟩
                    conv=>whnf
                    rfl
                  · obtain ⟨t24,et24,hj4⟩:=letk_elim hj3
                    conv=>whnf
                    refine DNodeB.of (.lit (.bool t24)) ?_ ?_
                    · conv=>whnf
                      refine Nm.mk ⟨t24,et24,?_⟩
                      conv=>whnf
                      rfl
                    · conv=>whnf
                      refine DNodeB.of (.lit (.bool t24)) ?_ ?_
                      · conv=>whnf
                        rfl
                      · conv=>whnf
                        refine DNodeB.of (.lit (.bool t24)) ?_ ?_
                        · conv=>whnf
                          rfl
                        · rcases t24 with _ | _
                          · have hj5:=bif_f hj4
                            conv=>whnf
                            refine DNodeB.of (.lit (.bool false)) ?_ ?_
                            · conv=>whnf
                              rfl
                            · conv=>whnf
                              refine DNodeB.of (J n4) ?_ ?_
                              · conv=>whnf
                                rfl
                              · conv=>whnf
                                refine DNodeB.of (.lit (.bool false)) ?_ ?_
                                · conv=>whnf
                                  rfl
                                · have ehj5_0:=Option.some.inj hj5
                                  subst ehj5_0
                                  conv=>whnf
                                  exact Returns.pure (r:=.tup [J n4,.lit (.bool false)]) rfl rfl rfl rfl ⟨rfl,rfl⟩
                          · have hj5:=bif_t hj4
                            conv=>whnf
                            refine DNodeB.of (.lit (.string s0)) ?_ ?_
                            · conv=>whnf
                              rfl
                            · conv=>whnf
                              refine DNodeB.of (J n4) ?_ ?_
                              · conv=>whnf
                                rfl
                              · obtain ⟨chj6,hj6⟩:=chk_elim hj5
                                obtain ⟨t29,et29,hj7⟩:=letk_elim hj6
                                conv=>whnf
                                refine DNodeB.of (.lit (.int .u8 t29)) ?_ ?_
                                · conv=>whnf
                                  refine Side.mk chj6 ?_
                                  conv=>whnf
                                  refine Nm.mk ⟨t29,et29,?_⟩
                                  conv=>whnf
                                  rfl
                                · obtain ⟨t30,et30,hj8⟩:=letk_elim hj7
                                  conv=>whnf
                                  refine DNodeB.of (.lit (.bool t30)) ?_ ?_
                                  · conv=>whnf
                                    refine Nm.mk ⟨t30,et30,?_⟩
                                    conv=>whnf
                                    rfl
                                  · conv=>whnf
                                    refine DNodeB.of (.lit (.bool t30)) ?_ ?_
                                    · conv=>whnf
                                      rfl
                                    · conv=>whnf
                                      refine DNodeB.of (J n4) ?_ ?_
                                      · conv=>whnf
                                        rfl
                                      · conv=>whnf
                                        refine DNodeB.of (.lit (.bool t30)) ?_ ?_
                                        · conv=>whnf
                                          rfl
                                        · have ehj8_0:=Option.some.inj hj8
                                          subst ehj8_0
                                          conv=>whnf
                                          exact Returns.pure (r:=.tup [J n4,.lit (.bool t30)]) rfl rfl rfl rfl ⟨rfl,rfl⟩
noncomputable def Strs.HasSuffix (s0 suffix1:ByteArray):Option Bool :=
  Option.bind (Slite.HasSuffix s0 suffix1) fun t7 =>
  some t7
theorem Strs.HasSuffix_ok {s0 suffix1:ByteArray} {r:Bool} (h0:Strs.HasSuffix s0 suffix1 = some r):Gives Tryz.prog 69 [.lit (.string s0),.lit (.string suffix1)] (.lit (.bool r)):=by
  unfold Strs.HasSuffix at h0
  refine ACalls.of_swp Tryz.func69 rfl (by decide) rfl (st0:=⟨8,[(0,.lit (.string s0)),(1,.lit (.string suffix1))],[]⟩) rfl (bwp_ok (C:=[]) ?_)
  obtain ⟨t7,et7,h1⟩:=bind_elim h0
  conv=>whnf
  refine Gate.go ?_
  conv=>whnf
  refine CallN.by (v:=.lit (.bool t7)) (Slite.HasSuffix_ok et7) rfl rfl ?_
  have eh1_0:=Option.some.inj h1
  subst eh1_0
  conv=>whnf
  exact Returns.pure (r:=.lit (.bool t7)) rfl rfl rfl rfl ⟨rfl,rfl⟩
noncomputable def Src.isStatement (s0:ByteArray):Option Bool :=
  Option.bind (Src.find s0 ⟨#[59,33]⟩ 0) fun (t9_0,t9_1) =>
  Option.bind (Src.numbered s0) fun (_,t14_1) =>
  letk (!(s0.toList == (⟨#[]⟩:ByteArray).toList)) fun t18 =>
  bif t18 then
    Option.bind (Src.isText s0) fun t21 =>
    bif t21 then
      Option.bind (Strs.Trim s0 ⟨#[32]⟩) fun t25 =>
      letk (t25.toList == s0.toList) fun t27 =>
      bif t27 then
        letk (decide (t9_0 < (0:Int))) fun t31 =>
        bif t31 then
          letk (t9_1 == (0:Int)) fun t35 =>
          bif t35 then
            Option.bind (Strs.HasSuffix s0 ⟨#[38]⟩) fun t39 =>
            letk (!t39) fun t40 =>
            bif t40 then
              letk (!t14_1) fun t44 =>
              some t44
            else
              some false
          else
            some false
        else
          some false
      else
        some false
    else
      some false
  else
    some false
theorem Src.isStatement_ok {s0:ByteArray} {r:Bool} (h0:Src.isStatement s0 = some r):Gives Tryz.prog 44 [.lit (.string s0)] (.lit (.bool r)):=by
  unfold Src.isStatement at h0
  refine ACalls.of_swp Tryz.func44 rfl (by decide) rfl (st0:=⟨46,[(0,.lit (.string s0))],[]⟩) rfl (bwp_ok (C:=[]) ?_)
  obtain ⟨⟨t9_0,t9_1⟩,et9,h1⟩:=bind_elim h0
  conv=>whnf
  refine Gate.go ?_
  conv=>whnf
  refine CallN.by (v:=.tup [J t9_0,.lit (.int .u8 t9_1)]) (Src.find_ok et9) rfl rfl ?_
  obtain ⟨⟨t14_0,t14_1⟩,et14,h2⟩:=bind_elim h1
  conv=>whnf
  refine Gate.go ?_
  conv=>whnf
  refine CallN.by (v:=.tup [J t14_0,.lit (.bool t14_1)]) (Src.numbered_ok et14) rfl rfl ?_
  obtain ⟨t18,et18,h3⟩:=letk_elim h2
  conv=>whnf
  refine Nm.mk ⟨t18,et18,?_⟩
  rcases t18 with _ | _
  · have h4:=bif_f h3
    have eh4_0:=Option.some.inj h4
    subst eh4_0
    conv=>whnf
    exact Returns.pure (r:=.lit (.bool false)) rfl rfl rfl rfl ⟨rfl,rfl⟩
  · have h4:=bif_t h3
    obtain ⟨t21,et21,h5⟩:=bind_elim h4
    conv=>whnf
    refine Gate.go ?_
    conv=>whnf
    refine CallN.by (v:=.lit (.bool t21)) (Src.isText_ok et21) rfl rfl ?_
    rcases t21 with _ | _
    · have h6:=bif_f h5
      have eh6_0:=Option.some.inj h6
      subst eh6_0
      conv=>whnf
      exact Returns.pure (r:=.lit (.bool false)) rfl rfl rfl rfl ⟨rfl,rfl⟩
    · have h6:=bif_t h5
      obtain ⟨t25,et25,h7⟩:=bind_elim h6
      conv=>whnf
      refine Gate.go ?_
      conv=>whnf
      refine CallN.by (v:=.lit (.string t25)) (Strs.Trim_ok et25) rfl rfl ?_
      obtain ⟨t27,et27,h8⟩:=letk_elim h7
      conv=>whnf
      refine Nm.mk ⟨t27,et27,?_⟩
      rcases t27 with _ | _
      · have h9:=bif_f h8
        have eh9_0:=Option.some.inj h9
        subst eh9_0
        conv=>whnf
        exact Returns.pure (r:=.lit (.bool false)) rfl rfl rfl rfl ⟨rfl,rfl⟩
      · have h9:=bif_t h8
        obtain ⟨t31,et31,h10⟩:=letk_elim h9
        conv=>whnf
        refine Nm.mk ⟨t31,et31,?_⟩
        rcases t31 with _ | _
        · have h11:=bif_f h10
          have eh11_0:=Option.some.inj h11
          subst eh11_0
          conv=>whnf
          exact Returns.pure (r:=.lit (.bool false)) rfl rfl rfl rfl ⟨rfl,rfl⟩
        · have h11:=bif_t h10
          obtain ⟨t35,et35,h12⟩:=letk_elim h11
          conv=>whnf
          refine Nm.mk ⟨t35,et35,?_⟩
          rcases t35 with _ | _
          · have h13:=bif_f h12
            have eh13_0:=Option.some.inj h13
            subst eh13_0
            conv=>whnf
            exact Returns.pure (r:=.lit (.bool false)) rfl rfl rfl rfl ⟨rfl,rfl⟩
          · have h13:=bif_t h12
            obtain ⟨t39,et39,h14⟩:=bind_elim h13
            conv=>whnf
            refine Gate.go ?_
            conv=>whnf
            refine CallN.by (v:=.lit (.bool t39)) (Strs.HasSuffix_ok et39) rfl rfl ?_
            obtain ⟨t40,et40,h15⟩:=letk_elim h14
            conv=>whnf
            refine Nm.mk ⟨t40,et40,?_⟩
            rcases t40 with _ | _
            · have h16:=bif_f h15
              have eh16_0:=Option.some.inj h16
              subst eh16_0
              conv=>whnf
              exact Returns.pure (r:=.lit (.bool false)) rfl rfl rfl rfl ⟨rfl,rfl⟩
            · have h16:=bif_t h15
              obtain ⟨t44,et44,h17⟩:=letk_elim h16
              conv=>whnf
              refine Nm.mk ⟨t44,et44,?_⟩
              have eh17_0:=Option.some.inj h17
              subst eh17_0
              conv=>whnf
              exact Returns.pure (r:=.lit (.bool t44)) rfl rfl rfl rfl ⟨rfl,rfl⟩
end Go.Q
