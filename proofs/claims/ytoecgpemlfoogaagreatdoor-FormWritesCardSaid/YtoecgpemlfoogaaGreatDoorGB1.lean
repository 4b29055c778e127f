import Derived.Test.YtoecgpemlfoogaaGreatDoorBV
import Derived.Test.YtoecgpemlfoogaaGreatDoorFX
import Derived.Test.YtoecgpemlfoogaaGreatDoorFY
import Derived.Test.YtoecgpemlfoogaaGreatDoorProg
namespace Go.Q
open Go Go.Proofs
set_option maxRecDepth 10000
set_option maxHeartbeats 2000000
noncomputable def Law3.isLong.s0 (l0:List api.Line) (n3:Int) (i4:Int):Option ((Int × Int) ⊕ Bool) :=
  letk ((l0.length:Int)) fun t7 =>
  letk (decide (i4 < t7)) fun t8 =>
  bif t8 then
    chk (0 ≤ i4) <|
    Option.bind (l0[i4.toNat]?) fun t14 =>
    letk ((t14.Text.size:Int)) fun t17 =>
    letk (IntKind.i64.wrap (n3 + t17)) fun t18 =>
    letk (IntKind.i64.wrap (i4 + (1:Int))) fun t10 =>
    some (.inl (t18,t10))
  else
    ((
    letk ((l0.length:Int)) fun t20 =>
    letk (decide (t20 > (300:Int))) fun t21 =>
    bif t21 then
      some true
    else
      letk (decide (n3 > (9000:Int))) fun t24 =>
      some t24)).map .inr
noncomputable def Law3.isLong.l0 (l0:List api.Line) (n3:Int) (i4:Int):Option Bool:=loopO (fun v:Int × Int=>Law3.isLong.s0 l0 v.1 v.2) (n3,i4)
noncomputable def Law3.isLong (l0:List api.Line):Option Bool :=
  Law3.isLong.l0 l0 0 0
theorem Law3.isLong_ok {l0:List api.Line} {r:Bool} (h0:Law3.isLong l0 = some r):Gives Tryz.prog 12 [.vs 3 (l0.map (api.Line.enc))] (.lit (.bool r)):=by
  unfold Law3.isLong at h0
  refine ACalls.of_swp Tryz.func12 rfl (by decide) rfl (st0:=⟨26,[(0,.vs 3 (l0.map (api.Line.enc)))],[]⟩) rfl (bwp_ok (C:=[]) ?_)
  conv=>whnf
  unfold Law3.isLong.l0 at h0
  refine LoopB.of (σ:=Int × Int) (ρ:=Bool) (fun v:Int × Int=>Law3.isLong.s0 l0 v.1 v.2) (fun v=>(⟨26,[(0,.vs 3 (l0.map (api.Line.enc))),(3,.lit (.int .i64 v.1)),(4,.lit (.int .i64 v.2))],[]⟩:St)) (0,0) h0 (BackS.by rfl (Sees.e ⟨.s,.s,.s,trivial⟩)) ?_
  clear h0
  rintro K1 ⟨n3,i4⟩ x1 hs0_0 hl1 hr1
  replace hs0_0:Law3.isLong.s0 l0 n3 i4 = some x1:=hs0_0
  unfold Law3.isLong.s0 at hs0_0
  change bwp _ _ _ _ _ (⟨26,[(0,.vs 3 (l0.map (api.Line.enc))),(3,.lit (.int .i64 n3)),(4,.lit (.int .i64 i4))],[]⟩:St)
  obtain ⟨t7,et7,hs0_1⟩:=letk_elim hs0_0; clear hs0_0
  conv=>whnf
  refine Nm.mk ⟨t7,by rw [et7,List.length_map],?_⟩
  obtain ⟨t8,et8,hs0_2⟩:=letk_elim hs0_1; clear hs0_1
  conv=>whnf
  refine Nm.mk ⟨t8,et8,?_⟩
  rcases t8 with _ | _
  · have hs0_3:=bif_f hs0_2
    clear hs0_2
    obtain ⟨yhs0_3_0,hs0_3u,ehs0_3_0⟩:=map_elim hs0_3
    have ehs0_3_0:=(hr1 _ ehs0_3_0.symm).symm
    subst ehs0_3_0
    obtain ⟨t20,et20,hs0_3u0⟩:=letk_elim hs0_3u; clear hs0_3u
    conv=>whnf
    refine Nm.mk ⟨t20,by rw [et20,List.length_map],?_⟩
    obtain ⟨t21,et21,hs0_3u1⟩:=letk_elim hs0_3u0; clear hs0_3u0
    conv=>whnf
    refine Nm.mk ⟨t21,et21,?_⟩
    rcases t21 with _ | _
    · have hs0_3u2:=bif_f hs0_3u1
      clear hs0_3u1
      obtain ⟨t24,et24,hs0_3u3⟩:=letk_elim hs0_3u2; clear hs0_3u2
      conv=>whnf
      refine Nm.mk ⟨t24,et24,?_⟩
      have ehs0_3u3_0:=Option.some.inj hs0_3u3
      subst ehs0_3u3_0
      conv=>whnf
      exact Returns.pure (r:=.lit (.bool t24)) rfl rfl rfl rfl ⟨rfl,rfl⟩
    have hs0_3u2:=bif_t hs0_3u1
    clear hs0_3u1
    have ehs0_3u2_0:=Option.some.inj hs0_3u2
    subst ehs0_3u2_0
    conv=>whnf
    exact Returns.pure (r:=.lit (.bool true)) rfl rfl rfl rfl ⟨rfl,rfl⟩
  have hs0_3:=bif_t hs0_2
  clear hs0_2
  obtain ⟨chs0_4,hs0_4⟩:=chk_elim hs0_3; clear hs0_3
  obtain ⟨t14,et14,hs0_5⟩:=bind_elim hs0_4; clear hs0_4
  conv=>whnf
  refine Side.mk chs0_4 ?_
  conv=>whnf
  refine At.by et14 ?_
  obtain ⟨t17,et17,hs0_6⟩:=letk_elim hs0_5; clear hs0_5
  conv=>whnf
  refine Nm.mk ⟨t17,et17,?_⟩
  obtain ⟨t18,et18,hs0_7⟩:=letk_elim hs0_6; clear hs0_6
  conv=>whnf
  refine Nm.mk ⟨t18,et18,?_⟩
  obtain ⟨t10,et10,hs0_8⟩:=letk_elim hs0_7; clear hs0_7
  conv=>whnf
  refine Nm.mk ⟨t10,et10,?_⟩
  exact BackS.by ⟨_,hl1 _ (Option.some.inj hs0_8).symm,rfl⟩ (Sees.e ⟨.s,.s,.s,trivial⟩)
noncomputable def Src.WriteNew_1.s0 (s3_1:ByteArray) (out4:ByteArray):Option ((ByteArray × ByteArray) ⊕ ByteArray) :=
  letk ((s3_1.size:Int)) fun t17 =>
  letk (decide (t17 > (100:Int))) fun t18 =>
  bif t18 then
    chk (0 ≤ (100:Int) ∧ (100:Int) ≤ (s3_1.size:Int)) <|
    letk (s3_1.extract 0 ((100:Int).toNat)) fun t21 =>
    chk (((t21.size + (⟨#[38,10,38]⟩:ByteArray).size:Nat):Int) ≤ 9223372036854775807) <|
    letk (t21 ++ (⟨#[38,10,38]⟩:ByteArray)) fun t22 =>
    chk (((out4.size + t22.size:Nat):Int) ≤ 9223372036854775807) <|
    letk (out4 ++ t22) fun t23 =>
    chk (0 ≤ (100:Int) ∧ (100:Int) ≤ (s3_1.size:Int)) <|
    letk (s3_1.extract (100:Int).toNat s3_1.size) fun t25 =>
    some (.inl (t25,t23))
  else
    ((
    chk (((out4.size + s3_1.size:Nat):Int) ≤ 9223372036854775807) <|
    letk (out4 ++ s3_1) fun t28 =>
    chk (((t28.size + (⟨#[10]⟩:ByteArray).size:Nat):Int) ≤ 9223372036854775807) <|
    letk (t28 ++ (⟨#[10]⟩:ByteArray)) fun t29 =>
    some t29)).map .inr
noncomputable def Src.WriteNew_1.l0 (s3_1:ByteArray) (out4:ByteArray):Option ByteArray:=loopO (fun v:ByteArray × ByteArray=>Src.WriteNew_1.s0 v.1 v.2) (s3_1,out4)
noncomputable def Src.WriteNew_1.j0 (s3:ByteArray):Option ByteArray :=
  Src.WriteNew_1.l0 s3 (⟨#[]⟩)
noncomputable def Src.WriteNew_1 (x0:api.Line):Option ByteArray :=
  letk (decide (x0.Label > (0:Int))) fun t9 =>
  bif t9 then
    Option.bind (Strconv.Itoa x0.Label) fun t12 =>
    chk (((t12.size + (⟨#[32]⟩:ByteArray).size:Nat):Int) ≤ 9223372036854775807) <|
    letk (t12 ++ (⟨#[32]⟩:ByteArray)) fun t13 =>
    chk (((t13.size + x0.Text.size:Nat):Int) ≤ 9223372036854775807) <|
    letk (t13 ++ x0.Text) fun t15 =>
    Src.WriteNew_1.j0 t15
  else
    Src.WriteNew_1.j0 x0.Text
theorem Src.WriteNew_1_ok {x0:api.Line} {r:ByteArray} (h0:Src.WriteNew_1 x0 = some r):Gives Tryz.prog 39 [api.Line.enc x0] (.lit (.string r)):=by
  unfold Src.WriteNew_1 at h0
  refine ACalls.of_swp Tryz.func39 rfl (by decide) rfl (st0:=⟨30,[(0,api.Line.enc x0)],[]⟩) rfl (bwp_ok (C:=[(0,4)]) ?_)
  conv=>whnf
  refine Nm.mk ⟨[.lit (.int .i64 x0.Label),.lit (.string x0.Text),.lit (.int .i64 x0.At)],rfl,?_⟩
  conv=>whnf
  refine CutN.of (fun s=>∃ (s3:ByteArray),Src.WriteNew_1.j0 s3 = some r ∧ s = (⟨30,[(3,.lit (.string s3))],[]⟩:St)) ?_ ?_
  · obtain ⟨t9,et9,h1⟩:=letk_elim h0; clear h0
    conv=>whnf
    refine Nm.mk ⟨t9,et9,?_⟩
    rcases t9 with _ | _
    · have h2:=bif_f h1
      clear h1
      exact BackS.by ⟨_,h2,rfl⟩ (Sees.e ⟨.s,trivial⟩)
    have h2:=bif_t h1
    clear h1
    obtain ⟨t12,et12,h3⟩:=bind_elim h2; clear h2
    conv=>whnf
    refine Gate.go ?_
    conv=>whnf
    refine CallN.by (v:=.lit (.string t12)) (Strconv.Itoa_ok et12) rfl rfl ?_
    obtain ⟨ch4,h4⟩:=chk_elim h3; clear h3
    obtain ⟨t13,et13,h5⟩:=letk_elim h4; clear h4
    conv=>whnf
    refine Side.mk ch4 ?_
    conv=>whnf
    refine Nm.mk ⟨t13,et13,?_⟩
    obtain ⟨ch6,h6⟩:=chk_elim h5; clear h5
    obtain ⟨t15,et15,h7⟩:=letk_elim h6; clear h6
    conv=>whnf
    refine Side.mk ch6 ?_
    conv=>whnf
    refine Nm.mk ⟨t15,et15,?_⟩
    exact BackS.by ⟨_,h7,rfl⟩ (Sees.e ⟨.s,trivial⟩)
  clear h0
  rintro s ⟨s3,hj0,rfl⟩
  unfold Src.WriteNew_1.j0 at hj0
  conv=>whnf
  unfold Src.WriteNew_1.l0 at hj0
  refine LoopB.of (σ:=ByteArray × ByteArray) (ρ:=ByteArray) (fun v:ByteArray × ByteArray=>Src.WriteNew_1.s0 v.1 v.2) (fun v=>(⟨30,[(3,.lit (.string v.1)),(4,.lit (.string v.2))],[]⟩:St)) (s3,⟨#[]⟩) hj0 (BackS.by rfl (Sees.e ⟨.s,.s,trivial⟩)) ?_
  clear hj0
  rintro K1 ⟨s3_1,out4⟩ x1 hs0_0 hl1 hr1
  replace hs0_0:Src.WriteNew_1.s0 s3_1 out4 = some x1:=hs0_0
  unfold Src.WriteNew_1.s0 at hs0_0
  change bwp _ _ _ _ _ (⟨30,[(3,.lit (.string s3_1)),(4,.lit (.string out4))],[]⟩:St)
  obtain ⟨t17,et17,hs0_1⟩:=letk_elim hs0_0; clear hs0_0
  conv=>whnf
  refine Nm.mk ⟨t17,et17,?_⟩
  obtain ⟨t18,et18,hs0_2⟩:=letk_elim hs0_1; clear hs0_1
  conv=>whnf
  refine Nm.mk ⟨t18,et18,?_⟩
  rcases t18 with _ | _
  · have hs0_3:=bif_f hs0_2
    clear hs0_2
    obtain ⟨yhs0_3_0,hs0_3u,ehs0_3_0⟩:=map_elim hs0_3
    have ehs0_3_0:=(hr1 _ ehs0_3_0.symm).symm
    subst ehs0_3_0
    obtain ⟨chs0_3u0,hs0_3u0⟩:=chk_elim hs0_3u; clear hs0_3u
    obtain ⟨t28,et28,hs0_3u1⟩:=letk_elim hs0_3u0; clear hs0_3u0
    conv=>whnf
    refine Side.mk chs0_3u0 ?_
    conv=>whnf
    refine Nm.mk ⟨t28,et28,?_⟩
    obtain ⟨chs0_3u2,hs0_3u2⟩:=chk_elim hs0_3u1; clear hs0_3u1
    obtain ⟨t29,et29,hs0_3u3⟩:=letk_elim hs0_3u2; clear hs0_3u2
    conv=>whnf
    refine Side.mk chs0_3u2 ?_
    conv=>whnf
    refine Nm.mk ⟨t29,et29,?_⟩
    have ehs0_3u3_0:=Option.some.inj hs0_3u3
    subst ehs0_3u3_0
    conv=>whnf
    exact Returns.pure (r:=.lit (.string t29)) rfl rfl rfl rfl ⟨rfl,rfl⟩
  have hs0_3:=bif_t hs0_2
  clear hs0_2
  obtain ⟨chs0_4,hs0_4⟩:=chk_elim hs0_3; clear hs0_3
  obtain ⟨t21,et21,hs0_5⟩:=letk_elim hs0_4; clear hs0_4
  conv=>whnf
  refine Side.mk chs0_4 ?_
  conv=>whnf
  refine Nm.mk ⟨t21,et21,?_⟩
  obtain ⟨chs0_6,hs0_6⟩:=chk_elim hs0_5; clear hs0_5
  obtain ⟨t22,et22,hs0_7⟩:=letk_elim hs0_6; clear hs0_6
  conv=>whnf
  refine Side.mk chs0_6 ?_
  conv=>whnf
  refine Nm.mk ⟨t22,et22,?_⟩
  obtain ⟨chs0_8,hs0_8⟩:=chk_elim hs0_7; clear hs0_7
  obtain ⟨t23,et23,hs0_9⟩:=letk_elim hs0_8; clear hs0_8
  conv=>whnf
  refine Side.mk chs0_8 ?_
  conv=>whnf
  refine Nm.mk ⟨t23,et23,?_⟩
  obtain ⟨chs0_10,hs0_10⟩:=chk_elim hs0_9; clear hs0_9
  obtain ⟨t25,et25,hs0_11⟩:=letk_elim hs0_10; clear hs0_10
  conv=>whnf
  refine Side.mk chs0_10 ?_
  conv=>whnf
  refine Nm.mk ⟨t25,et25,?_⟩
  exact BackS.by ⟨_,hl1 _ (Option.some.inj hs0_11).symm,rfl⟩ (Sees.e ⟨.s,.s,trivial⟩)
noncomputable def Src.WriteNew (l0:List api.Line):Option (ByteArray × Int) :=
  Option.bind (Src.write l0 Src.WriteNew_1) fun (t5_0,t5_1) =>
  some (t5_0,t5_1)
theorem Src.WriteNew_ok {l0:List api.Line} {r:ByteArray × Int} (h0:Src.WriteNew l0 = some r):Gives Tryz.prog 13 [.vs 3 (l0.map (api.Line.enc))] (.tup [.lit (.string r.1),.lit (.int .i64 r.2)]):=by
  unfold Src.WriteNew at h0
  refine ACalls.of_swp Tryz.func13 rfl (by decide) rfl (st0:=⟨8,[(0,.vs 3 (l0.map (api.Line.enc)))],[]⟩) rfl (bwp_ok (C:=[]) ?_)
  obtain ⟨⟨t5_0,t5_1⟩,et5,h1⟩:=bind_elim h0; clear h0
  conv=>whnf
  refine Gate.go ?_
  conv=>whnf
  refine CallN.by (v:=.tup [.lit (.string t5_0),.lit (.int .i64 t5_1)]) (Src.write_ok (show List.all [] pureQ.pureQ0 = true from rfl) (fun _ r h=>Src.WriteNew_1_ok h) et5) rfl rfl ?_
  have eh1_0:=Option.some.inj h1
  subst eh1_0
  conv=>whnf
  exact Returns.pure (r:=.tup [.lit (.string t5_0),.lit (.int .i64 t5_1)]) rfl rfl rfl rfl ⟨rfl,rfl⟩
noncomputable def Ref3.Valid.s0 (l0:List api.Line) (i3:Int):Option (Int ⊕ Bool) :=
  letk ((l0.length:Int)) fun t6 =>
  letk (decide (i3 < t6)) fun t7 =>
  bif t7 then
    chk (0 ≤ i3) <|
    Option.bind (l0[i3.toNat]?) fun t12 =>
    letk (decide (t12.Label < (0:Int))) fun t15 =>
    bif t15 then
      some (.inr false)
    else
      chk (0 ≤ i3) <|
      Option.bind (l0[i3.toNat]?) fun t19 =>
      letk (decide (t19.Label > (99999:Int))) fun t22 =>
      bif t22 then
        some (.inr false)
      else
        chk (0 ≤ i3) <|
        Option.bind (l0[i3.toNat]?) fun t27 =>
        letk ((t27.Text.size:Int)) fun t30 =>
        letk (decide (t30 > (8000:Int))) fun t31 =>
        bif t31 then
          some (.inr false)
        else
          chk (0 ≤ i3) <|
          Option.bind (l0[i3.toNat]?) fun t36 =>
          Option.bind (Ref3.IsText t36.Text) fun t39 =>
          letk (!t39) fun t40 =>
          bif t40 then
            some (.inr false)
          else
            letk (IntKind.i64.wrap (i3 + (1:Int))) fun t9 =>
            some (.inl t9)
  else
    ((
    letk ((l0.length:Int)) fun t43 =>
    letk (decide (t43 ≤ (200:Int))) fun t44 =>
    some t44)).map .inr
noncomputable def Ref3.Valid.l0 (l0:List api.Line) (i3:Int):Option Bool:=loopO (fun v:Int=>Ref3.Valid.s0 l0 v) i3
noncomputable def Ref3.Valid (l0:List api.Line):Option Bool :=
  Ref3.Valid.l0 l0 0
theorem Ref3.Valid_ok {l0:List api.Line} {r:Bool} (h0:Ref3.Valid l0 = some r):Gives Tryz.prog 18 [.vs 3 (l0.map (api.Line.enc))] (.lit (.bool r)):=by
  unfold Ref3.Valid at h0
  refine ACalls.of_swp Tryz.func18 rfl (by decide) rfl (st0:=⟨45,[(0,.vs 3 (l0.map (api.Line.enc)))],[]⟩) rfl (bwp_ok (C:=[]) ?_)
  conv=>whnf
  unfold Ref3.Valid.l0 at h0
  refine LoopB.of (σ:=Int) (ρ:=Bool) (fun v:Int=>Ref3.Valid.s0 l0 v) (fun v=>(⟨45,[(0,.vs 3 (l0.map (api.Line.enc))),(3,.lit (.int .i64 v))],[]⟩:St)) 0 h0 (BackS.by rfl (Sees.e ⟨.s,.s,trivial⟩)) ?_
  clear h0
  rintro K1 i3 x1 hs0_0 hl1 hr1
  replace hs0_0:Ref3.Valid.s0 l0 i3 = some x1:=hs0_0
  unfold Ref3.Valid.s0 at hs0_0
  change bwp _ _ _ _ _ (⟨45,[(0,.vs 3 (l0.map (api.Line.enc))),(3,.lit (.int .i64 i3))],[]⟩:St)
  obtain ⟨t6,et6,hs0_1⟩:=letk_elim hs0_0; clear hs0_0
  conv=>whnf
  refine Nm.mk ⟨t6,by rw [et6,List.length_map],?_⟩
  obtain ⟨t7,et7,hs0_2⟩:=letk_elim hs0_1; clear hs0_1
  conv=>whnf
  refine Nm.mk ⟨t7,et7,?_⟩
  rcases t7 with _ | _
  · have hs0_3:=bif_f hs0_2
    clear hs0_2
    obtain ⟨yhs0_3_0,hs0_3u,ehs0_3_0⟩:=map_elim hs0_3
    have ehs0_3_0:=(hr1 _ ehs0_3_0.symm).symm
    subst ehs0_3_0
    obtain ⟨t43,et43,hs0_3u0⟩:=letk_elim hs0_3u; clear hs0_3u
    conv=>whnf
    refine Nm.mk ⟨t43,by rw [et43,List.length_map],?_⟩
    obtain ⟨t44,et44,hs0_3u1⟩:=letk_elim hs0_3u0; clear hs0_3u0
    conv=>whnf
    refine Nm.mk ⟨t44,et44,?_⟩
    have ehs0_3u1_0:=Option.some.inj hs0_3u1
    subst ehs0_3u1_0
    conv=>whnf
    exact Returns.pure (r:=.lit (.bool t44)) rfl rfl rfl rfl ⟨rfl,rfl⟩
  have hs0_3:=bif_t hs0_2
  clear hs0_2
  obtain ⟨chs0_4,hs0_4⟩:=chk_elim hs0_3; clear hs0_3
  obtain ⟨t12,et12,hs0_5⟩:=bind_elim hs0_4; clear hs0_4
  conv=>whnf
  refine Side.mk chs0_4 ?_
  conv=>whnf
  refine At.by et12 ?_
  obtain ⟨t15,et15,hs0_6⟩:=letk_elim hs0_5; clear hs0_5
  conv=>whnf
  refine Nm.mk ⟨t15,et15,?_⟩
  rcases t15 with _ | _
  · have hs0_7:=bif_f hs0_6
    clear hs0_6
    obtain ⟨chs0_8,hs0_8⟩:=chk_elim hs0_7; clear hs0_7
    obtain ⟨t19,et19,hs0_9⟩:=bind_elim hs0_8; clear hs0_8
    conv=>whnf
    refine Side.mk chs0_8 ?_
    conv=>whnf
    refine At.by et19 ?_
    obtain ⟨t22,et22,hs0_10⟩:=letk_elim hs0_9; clear hs0_9
    conv=>whnf
    refine Nm.mk ⟨t22,et22,?_⟩
    rcases t22 with _ | _
    · have hs0_11:=bif_f hs0_10
      clear hs0_10
      obtain ⟨chs0_12,hs0_12⟩:=chk_elim hs0_11; clear hs0_11
      obtain ⟨t27,et27,hs0_13⟩:=bind_elim hs0_12; clear hs0_12
      conv=>whnf
      refine Side.mk chs0_12 ?_
      conv=>whnf
      refine At.by et27 ?_
      obtain ⟨t30,et30,hs0_14⟩:=letk_elim hs0_13; clear hs0_13
      conv=>whnf
      refine Nm.mk ⟨t30,et30,?_⟩
      obtain ⟨t31,et31,hs0_15⟩:=letk_elim hs0_14; clear hs0_14
      conv=>whnf
      refine Nm.mk ⟨t31,et31,?_⟩
      rcases t31 with _ | _
      · have hs0_16:=bif_f hs0_15
        clear hs0_15
        obtain ⟨chs0_17,hs0_17⟩:=chk_elim hs0_16; clear hs0_16
        obtain ⟨t36,et36,hs0_18⟩:=bind_elim hs0_17; clear hs0_17
        conv=>whnf
        refine Side.mk chs0_17 ?_
        conv=>whnf
        refine At.by et36 ?_
        obtain ⟨t39,et39,hs0_19⟩:=bind_elim hs0_18; clear hs0_18
        conv=>whnf
        refine Gate.go ?_
        conv=>whnf
        refine CallN.by (v:=.lit (.bool t39)) (Ref3.IsText_ok et39) rfl rfl ?_
        obtain ⟨t40,et40,hs0_20⟩:=letk_elim hs0_19; clear hs0_19
        conv=>whnf
        refine Nm.mk ⟨t40,et40,?_⟩
        rcases t40 with _ | _
        · have hs0_21:=bif_f hs0_20
          clear hs0_20
          obtain ⟨t9,et9,hs0_22⟩:=letk_elim hs0_21; clear hs0_21
          conv=>whnf
          refine Nm.mk ⟨t9,et9,?_⟩
          exact BackS.by ⟨_,hl1 _ (Option.some.inj hs0_22).symm,rfl⟩ (Sees.e ⟨.s,.s,trivial⟩)
        have hs0_21:=bif_t hs0_20
        clear hs0_20
        have ehs0_21_0:=hr1 _ (Option.some.inj hs0_21).symm
        subst ehs0_21_0
        conv=>whnf
        exact Returns.pure (r:=.lit (.bool false)) rfl rfl rfl rfl ⟨rfl,rfl⟩
      have hs0_16:=bif_t hs0_15
      clear hs0_15
      have ehs0_16_0:=hr1 _ (Option.some.inj hs0_16).symm
      subst ehs0_16_0
      conv=>whnf
      exact Returns.pure (r:=.lit (.bool false)) rfl rfl rfl rfl ⟨rfl,rfl⟩
    have hs0_11:=bif_t hs0_10
    clear hs0_10
    have ehs0_11_0:=hr1 _ (Option.some.inj hs0_11).symm
    subst ehs0_11_0
    conv=>whnf
    exact Returns.pure (r:=.lit (.bool false)) rfl rfl rfl rfl ⟨rfl,rfl⟩
  have hs0_7:=bif_t hs0_6
  clear hs0_6
  have ehs0_7_0:=hr1 _ (Option.some.inj hs0_7).symm
  subst ehs0_7_0
  conv=>whnf
  exact Returns.pure (r:=.lit (.bool false)) rfl rfl rfl rfl ⟨rfl,rfl⟩
structure Rec41 where
  f41:Int → Option ByteArray
structure Rec41.Ok (R:Rec41):Prop where
  f41_ok:∀ {n0:Int} {r:ByteArray},R.f41 n0 = some r → Gives Tryz.prog 41 [.lit (.int .i64 n0)] (.lit (.string r))
noncomputable def Ref3.Label.F (R:Rec41) (n0:Int):Option ByteArray :=
  letk (n0 == (0:Int)) fun t4 =>
  bif t4 then
    some ⟨#[]⟩
  else
    chk ((10:Int) ≠ 0) <|
    letk (IntKind.i64.wrap (n0.tdiv (10:Int))) fun t6 =>
    Option.bind (R.f41 t6) fun t7 =>
    chk ((10:Int) ≠ 0) <|
    letk (n0.tmod (10:Int)) fun t9 =>
    letk (IntKind.i64.wrap ((48:Int) + t9)) fun t10 =>
    letk (IntKind.i32.wrap t10) fun t11 =>
    letk (Utf8.encode t11) fun t12 =>
    chk (((t7.size + t12.size:Nat):Int) ≤ 9223372036854775807) <|
    letk (t7 ++ t12) fun t13 =>
    some t13
theorem Ref3.Label.F_ok {R:Rec41} {n0:Int} {r:ByteArray} (hR:Rec41.Ok R) (h0:Ref3.Label.F R n0 = some r):Gives Tryz.prog 41 [.lit (.int .i64 n0)] (.lit (.string r)):=by
  unfold Ref3.Label.F at h0
  refine ACalls.of_swp Tryz.func41 rfl (by decide) rfl (st0:=⟨14,[(0,.lit (.int .i64 n0))],[]⟩) rfl (bwp_ok (C:=[]) ?_)
  obtain ⟨t4,et4,h1⟩:=letk_elim h0; clear h0
  conv=>whnf
  refine Nm.mk ⟨t4,et4,?_⟩
  rcases t4 with _ | _
  · have h2:=bif_f h1
    clear h1
    obtain ⟨ch3,h3⟩:=chk_elim h2; clear h2
    obtain ⟨t6,et6,h4⟩:=letk_elim h3; clear h3
    conv=>whnf
    refine Side.mk ch3 ?_
    conv=>whnf
    refine Nm.mk ⟨t6,et6,?_⟩
    obtain ⟨t7,et7,h5⟩:=bind_elim h4; clear h4
    conv=>whnf
    refine Gate.go ?_
    conv=>whnf
    refine CallN.by (v:=.lit (.string t7)) (hR.f41_ok et7) rfl rfl ?_
    obtain ⟨ch6,h6⟩:=chk_elim h5; clear h5
    obtain ⟨t9,et9,h7⟩:=letk_elim h6; clear h6
    conv=>whnf
    refine Side.mk ch6 ?_
    conv=>whnf
    refine Nm.mk ⟨t9,et9,?_⟩
    obtain ⟨t10,et10,h8⟩:=letk_elim h7; clear h7
    conv=>whnf
    refine Nm.mk ⟨t10,et10,?_⟩
    obtain ⟨t11,et11,h9⟩:=letk_elim h8; clear h8
    conv=>whnf
    refine Nm.mk ⟨t11,et11,?_⟩
    obtain ⟨t12,et12,h10⟩:=letk_elim h9; clear h9
    conv=>whnf
    refine HardN.convIS rfl rfl rfl rfl rfl et12 ?_
    obtain ⟨ch11,h11⟩:=chk_elim h10; clear h10
    obtain ⟨t13,et13,h12⟩:=letk_elim h11; clear h11
    conv=>whnf
    refine Side.mk ch11 ?_
    conv=>whnf
    refine Nm.mk ⟨t13,et13,?_⟩
    have eh12_0:=Option.some.inj h12
    subst eh12_0
    conv=>whnf
    exact Returns.pure (r:=.lit (.string t13)) rfl rfl rfl rfl ⟨rfl,rfl⟩
  have h2:=bif_t h1
  clear h1
  have eh2_0:=Option.some.inj h2
  subst eh2_0
  conv=>whnf
  exact Returns.pure (r:=.lit (.string (⟨#[]⟩))) rfl rfl rfl rfl ⟨rfl,rfl⟩
noncomputable def Rec41.at_:Nat → Rec41
  | 0=>⟨fun _=>none⟩
  | k + 1=>⟨Ref3.Label.F (Rec41.at_ k)⟩
theorem Rec41.at_ok:∀ k,Rec41.Ok (Rec41.at_ k)
  | 0=>⟨fun h=>by cases h⟩
  | k + 1=>⟨fun h=>Ref3.Label.F_ok (Rec41.at_ok k) h⟩
noncomputable def Ref3.Label (n0:Int):Option ByteArray:=(Rec41.at_ 100000000).f41 n0
theorem Ref3.Label_ok {n0:Int} {r:ByteArray} (h0:Ref3.Label n0 = some r):Gives Tryz.prog 41 [.lit (.int .i64 n0)] (.lit (.string r)):=(Rec41.at_ok _).f41_ok h0
noncomputable def Ref3.WriteNew.s1 (l0:List api.Line) (i5:Int) (out4_1:ByteArray) (s6_1:ByteArray):Option ((ByteArray × ByteArray) ⊕ ((ByteArray × Int) ⊕ (ByteArray × Int))) :=
  letk ((s6_1.size:Int)) fun t37 =>
  letk (decide (t37 > (100:Int))) fun t38 =>
  bif t38 then
    chk (0 ≤ (100:Int) ∧ (100:Int) ≤ (s6_1.size:Int)) <|
    letk (s6_1.extract 0 ((100:Int).toNat)) fun t41 =>
    chk (((t41.size + (⟨#[38,10,38]⟩:ByteArray).size:Nat):Int) ≤ 9223372036854775807) <|
    letk (t41 ++ (⟨#[38,10,38]⟩:ByteArray)) fun t42 =>
    chk (((out4_1.size + t42.size:Nat):Int) ≤ 9223372036854775807) <|
    letk (out4_1 ++ t42) fun t43 =>
    chk (0 ≤ (100:Int) ∧ (100:Int) ≤ (s6_1.size:Int)) <|
    letk (s6_1.extract (100:Int).toNat s6_1.size) fun t45 =>
    some (.inl (t43,t45))
  else
    ((
    chk (((s6_1.size + (⟨#[10]⟩:ByteArray).size:Nat):Int) ≤ 9223372036854775807) <|
    letk (s6_1 ++ (⟨#[10]⟩:ByteArray)) fun t48 =>
    chk (((out4_1.size + t48.size:Nat):Int) ≤ 9223372036854775807) <|
    letk (out4_1 ++ t48) fun t49 =>
    letk (IntKind.i64.wrap (i5 + (1:Int))) fun t15 =>
    some (.inl (t49,t15)))).map .inr
noncomputable def Ref3.WriteNew.l1 (l0:List api.Line) (i5:Int) (out4_1:ByteArray) (s6_1:ByteArray):Option ((ByteArray × Int) ⊕ (ByteArray × Int)):=loopO (fun v:ByteArray × ByteArray=>Ref3.WriteNew.s1 l0 i5 v.1 v.2) (out4_1,s6_1)
noncomputable def Ref3.WriteNew.j0 (l0:List api.Line) (out4:ByteArray) (i5:Int) (s6:ByteArray):Option ((ByteArray × Int) ⊕ (ByteArray × Int)) :=
  Ref3.WriteNew.l1 l0 i5 out4 s6
noncomputable def Ref3.WriteNew.s0 (l0:List api.Line) (out4:ByteArray) (i5:Int):Option ((ByteArray × Int) ⊕ (ByteArray × Int)) :=
  letk ((l0.length:Int)) fun t12 =>
  letk (decide (i5 < t12)) fun t13 =>
  bif t13 then
    chk (0 ≤ i5) <|
    Option.bind (l0[i5.toNat]?) fun t18 =>
    chk (0 ≤ i5) <|
    Option.bind (l0[i5.toNat]?) fun t23 =>
    letk (decide (t23.Label > (0:Int))) fun t26 =>
    bif t26 then
      chk (0 ≤ i5) <|
      Option.bind (l0[i5.toNat]?) fun t29 =>
      Option.bind (Ref3.Label t29.Label) fun t32 =>
      chk (((t32.size + (⟨#[32]⟩:ByteArray).size:Nat):Int) ≤ 9223372036854775807) <|
      letk (t32 ++ (⟨#[32]⟩:ByteArray)) fun t33 =>
      chk (((t33.size + t18.Text.size:Nat):Int) ≤ 9223372036854775807) <|
      letk (t33 ++ t18.Text) fun t35 =>
      Ref3.WriteNew.j0 l0 out4 i5 t35
    else
      Ref3.WriteNew.j0 l0 out4 i5 t18.Text
  else
    ((
    letk ((out4.size:Int)) fun t51 =>
    letk (decide (t51 > (8000:Int))) fun t52 =>
    bif t52 then
      some (⟨#[]⟩,4)
    else
      some (out4,0))).map .inr
noncomputable def Ref3.WriteNew.l0 (l0:List api.Line) (out4:ByteArray) (i5:Int):Option (ByteArray × Int):=loopO (fun v:ByteArray × Int=>Ref3.WriteNew.s0 l0 v.1 v.2) (out4,i5)
noncomputable def Ref3.WriteNew (l0:List api.Line):Option (ByteArray × Int) :=
  Option.bind (Ref3.Valid l0) fun t8 =>
  letk (!t8) fun t9 =>
  bif t9 then
    some (⟨#[]⟩,2)
  else
    Ref3.WriteNew.l0 l0 (⟨#[]⟩) 0
theorem Ref3.WriteNew_ok {l0:List api.Line} {r:ByteArray × Int} (h0:Ref3.WriteNew l0 = some r):Gives Tryz.prog 14 [.vs 3 (l0.map (api.Line.enc))] (.tup [.lit (.string r.1),.lit (.int .i64 r.2)]):=by
  unfold Ref3.WriteNew at h0
  refine ACalls.of_swp Tryz.func14 rfl (by decide) rfl (st0:=⟨54,[(0,.vs 3 (l0.map (api.Line.enc)))],[]⟩) rfl (bwp_ok (C:=[(1,2)]) ?_)
  obtain ⟨t8,et8,h1⟩:=bind_elim h0; clear h0
  conv=>whnf
  refine Gate.go ?_
  conv=>whnf
  refine CallN.by (v:=.lit (.bool t8)) (Ref3.Valid_ok et8) rfl rfl ?_
  obtain ⟨t9,et9,h2⟩:=letk_elim h1; clear h1
  conv=>whnf
  refine Nm.mk ⟨t9,et9,?_⟩
  rcases t9 with _ | _
  · have h3:=bif_f h2
    clear h2
    conv=>whnf
    unfold Ref3.WriteNew.l0 at h3
    refine LoopB.of (σ:=ByteArray × Int) (ρ:=ByteArray × Int) (fun v:ByteArray × Int=>Ref3.WriteNew.s0 l0 v.1 v.2) (fun v=>(⟨54,[(0,.vs 3 (l0.map (api.Line.enc))),(4,.lit (.string v.1)),(5,.lit (.int .i64 v.2))],[]⟩:St)) (⟨#[]⟩,0) h3 (BackS.by rfl (Sees.e ⟨.s,.s,.s,trivial⟩)) ?_
    clear h3
    rintro K1 ⟨out4,i5⟩ x1 hs0_0 hl1 hr1
    replace hs0_0:Ref3.WriteNew.s0 l0 out4 i5 = some x1:=hs0_0
    unfold Ref3.WriteNew.s0 at hs0_0
    change bwp _ _ _ _ _ (⟨54,[(0,.vs 3 (l0.map (api.Line.enc))),(4,.lit (.string out4)),(5,.lit (.int .i64 i5))],[]⟩:St)
    obtain ⟨t12,et12,hs0_1⟩:=letk_elim hs0_0; clear hs0_0
    conv=>whnf
    refine Nm.mk ⟨t12,by rw [et12,List.length_map],?_⟩
    obtain ⟨t13,et13,hs0_2⟩:=letk_elim hs0_1; clear hs0_1
    conv=>whnf
    refine Nm.mk ⟨t13,et13,?_⟩
    rcases t13 with _ | _
    · have hs0_3:=bif_f hs0_2
      clear hs0_2
      obtain ⟨yhs0_3_0,hs0_3u,ehs0_3_0⟩:=map_elim hs0_3
      have ehs0_3_0:=(hr1 _ ehs0_3_0.symm).symm
      subst ehs0_3_0
      obtain ⟨t51,et51,hs0_3u0⟩:=letk_elim hs0_3u; clear hs0_3u
      conv=>whnf
      refine Nm.mk ⟨t51,et51,?_⟩
      obtain ⟨t52,et52,hs0_3u1⟩:=letk_elim hs0_3u0; clear hs0_3u0
      conv=>whnf
      refine Nm.mk ⟨t52,et52,?_⟩
      rcases t52 with _ | _
      · have hs0_3u2:=bif_f hs0_3u1
        clear hs0_3u1
        have ehs0_3u2_0:=Option.some.inj hs0_3u2
        subst ehs0_3u2_0
        conv=>whnf
        exact Returns.pure (r:=.tup [.lit (.string out4),.lit (.int .i64 0)]) rfl rfl rfl rfl ⟨rfl,rfl⟩
      have hs0_3u2:=bif_t hs0_3u1
      clear hs0_3u1
      have ehs0_3u2_0:=Option.some.inj hs0_3u2
      subst ehs0_3u2_0
      conv=>whnf
      exact Returns.pure (r:=.tup [.lit (.string (⟨#[]⟩)),.lit (.int .i64 4)]) rfl rfl rfl rfl ⟨rfl,rfl⟩
    have hs0_3:=bif_t hs0_2
    clear hs0_2
    obtain ⟨chs0_4,hs0_4⟩:=chk_elim hs0_3; clear hs0_3
    obtain ⟨t18,et18,hs0_5⟩:=bind_elim hs0_4; clear hs0_4
    conv=>whnf
    refine Side.mk chs0_4 ?_
    conv=>whnf
    refine At.by et18 ?_
    conv=>whnf
    refine CutN.of (fun s=>∃ (s6:ByteArray),Ref3.WriteNew.j0 l0 out4 i5 s6 = some x1 ∧ s = (⟨54,[(0,.vs 3 (l0.map (api.Line.enc))),(4,.lit (.string out4)),(5,.lit (.int .i64 i5)),(6,.lit (.string s6))],[]⟩:St)) ?_ ?_
    · obtain ⟨chs0_6,hs0_6⟩:=chk_elim hs0_5; clear hs0_5
      obtain ⟨t23,et23,hs0_7⟩:=bind_elim hs0_6; clear hs0_6
      conv=>whnf
      refine Side.mk chs0_6 ?_
      conv=>whnf
      refine At.by et23 ?_
      obtain ⟨t26,et26,hs0_8⟩:=letk_elim hs0_7; clear hs0_7
      conv=>whnf
      refine Nm.mk ⟨t26,et26,?_⟩
      rcases t26 with _ | _
      · have hs0_9:=bif_f hs0_8
        clear hs0_8
        exact BackS.by ⟨_,hs0_9,rfl⟩ (Sees.e ⟨.s,.s,.s,.s,trivial⟩)
      have hs0_9:=bif_t hs0_8
      clear hs0_8
      obtain ⟨chs0_10,hs0_10⟩:=chk_elim hs0_9; clear hs0_9
      obtain ⟨t29,et29,hs0_11⟩:=bind_elim hs0_10; clear hs0_10
      conv=>whnf
      refine Side.mk chs0_10 ?_
      conv=>whnf
      refine At.by et29 ?_
      obtain ⟨t32,et32,hs0_12⟩:=bind_elim hs0_11; clear hs0_11
      conv=>whnf
      refine Gate.go ?_
      conv=>whnf
      refine CallN.by (v:=.lit (.string t32)) (Ref3.Label_ok et32) rfl rfl ?_
      obtain ⟨chs0_13,hs0_13⟩:=chk_elim hs0_12; clear hs0_12
      obtain ⟨t33,et33,hs0_14⟩:=letk_elim hs0_13; clear hs0_13
      conv=>whnf
      refine Side.mk chs0_13 ?_
      conv=>whnf
      refine Nm.mk ⟨t33,et33,?_⟩
      obtain ⟨chs0_15,hs0_15⟩:=chk_elim hs0_14; clear hs0_14
      obtain ⟨t35,et35,hs0_16⟩:=letk_elim hs0_15; clear hs0_15
      conv=>whnf
      refine Side.mk chs0_15 ?_
      conv=>whnf
      refine Nm.mk ⟨t35,et35,?_⟩
      exact BackS.by ⟨_,hs0_16,rfl⟩ (Sees.e ⟨.s,.s,.s,.s,trivial⟩)
    clear hs0_5
    rintro s ⟨s6,hj0,rfl⟩
    unfold Ref3.WriteNew.j0 at hj0
    conv=>whnf
    unfold Ref3.WriteNew.l1 at hj0
    refine LoopB.of (σ:=ByteArray × ByteArray) (ρ:=(ByteArray × Int) ⊕ (ByteArray × Int)) (fun v:ByteArray × ByteArray=>Ref3.WriteNew.s1 l0 i5 v.1 v.2) (fun v=>(⟨54,[(0,.vs 3 (l0.map (api.Line.enc))),(4,.lit (.string v.1)),(5,.lit (.int .i64 i5)),(6,.lit (.string v.2))],[]⟩:St)) (out4,s6) hj0 (BackS.by rfl (Sees.e ⟨.s,.s,.s,.s,trivial⟩)) ?_
    clear hj0
    rintro K2 ⟨out4_1,s6_1⟩ x2 hs1_0 hl2 hr2
    replace hs1_0:Ref3.WriteNew.s1 l0 i5 out4_1 s6_1 = some x2:=hs1_0
    unfold Ref3.WriteNew.s1 at hs1_0
    change bwp _ _ _ _ _ (⟨54,[(0,.vs 3 (l0.map (api.Line.enc))),(4,.lit (.string out4_1)),(5,.lit (.int .i64 i5)),(6,.lit (.string s6_1))],[]⟩:St)
    obtain ⟨t37,et37,hs1_1⟩:=letk_elim hs1_0; clear hs1_0
    conv=>whnf
    refine Nm.mk ⟨t37,et37,?_⟩
    obtain ⟨t38,et38,hs1_2⟩:=letk_elim hs1_1; clear hs1_1
    conv=>whnf
    refine Nm.mk ⟨t38,et38,?_⟩
    rcases t38 with _ | _
    · have hs1_3:=bif_f hs1_2
      clear hs1_2
      obtain ⟨yhs1_3_0,hs1_3u,ehs1_3_0⟩:=map_elim hs1_3
      have ehs1_3_0:=(hr2 _ ehs1_3_0.symm).symm
      subst ehs1_3_0
      obtain ⟨chs1_3u0,hs1_3u0⟩:=chk_elim hs1_3u; clear hs1_3u
      obtain ⟨t48,et48,hs1_3u1⟩:=letk_elim hs1_3u0; clear hs1_3u0
      conv=>whnf
      refine Side.mk chs1_3u0 ?_
      conv=>whnf
      refine Nm.mk ⟨t48,et48,?_⟩
      obtain ⟨chs1_3u2,hs1_3u2⟩:=chk_elim hs1_3u1; clear hs1_3u1
      obtain ⟨t49,et49,hs1_3u3⟩:=letk_elim hs1_3u2; clear hs1_3u2
      conv=>whnf
      refine Side.mk chs1_3u2 ?_
      conv=>whnf
      refine Nm.mk ⟨t49,et49,?_⟩
      obtain ⟨t15,et15,hs1_3u4⟩:=letk_elim hs1_3u3; clear hs1_3u3
      conv=>whnf
      refine Nm.mk ⟨t15,et15,?_⟩
      exact BackS.by ⟨_,hl1 _ (Option.some.inj hs1_3u4).symm,rfl⟩ (Sees.e ⟨.s,.s,.s,trivial⟩)
    have hs1_3:=bif_t hs1_2
    clear hs1_2
    obtain ⟨chs1_4,hs1_4⟩:=chk_elim hs1_3; clear hs1_3
    obtain ⟨t41,et41,hs1_5⟩:=letk_elim hs1_4; clear hs1_4
    conv=>whnf
    refine Side.mk chs1_4 ?_
    conv=>whnf
    refine Nm.mk ⟨t41,et41,?_⟩
    obtain ⟨chs1_6,hs1_6⟩:=chk_elim hs1_5; clear hs1_5
    obtain ⟨t42,et42,hs1_7⟩:=letk_elim hs1_6; clear hs1_6
    conv=>whnf
    refine Side.mk chs1_6 ?_
    conv=>whnf
    refine Nm.mk ⟨t42,et42,?_⟩
    obtain ⟨chs1_8,hs1_8⟩:=chk_elim hs1_7; clear hs1_7
    obtain ⟨t43,et43,hs1_9⟩:=letk_elim hs1_8; clear hs1_8
    conv=>whnf
    refine Side.mk chs1_8 ?_
    conv=>whnf
    refine Nm.mk ⟨t43,et43,?_⟩
    obtain ⟨chs1_10,hs1_10⟩:=chk_elim hs1_9; clear hs1_9
    obtain ⟨t45,et45,hs1_11⟩:=letk_elim hs1_10; clear hs1_10
    conv=>whnf
    refine Side.mk chs1_10 ?_
    conv=>whnf
    refine Nm.mk ⟨t45,et45,?_⟩
    exact BackS.by ⟨_,hl2 _ (Option.some.inj hs1_11).symm,rfl⟩ (Sees.e ⟨.s,.s,.s,.s,trivial⟩)
  have h3:=bif_t h2
  clear h2
  have eh3_0:=Option.some.inj h3
  subst eh3_0
  conv=>whnf
  exact Returns.pure (r:=.tup [.lit (.string (⟨#[]⟩)),.lit (.int .i64 2)]) rfl rfl rfl rfl ⟨rfl,rfl⟩
noncomputable def Src.WriteOld_1.s0 (out4:ByteArray) (s5:ByteArray):Option ((ByteArray × ByteArray) ⊕ ByteArray) :=
  letk ((s5.size:Int)) fun t21 =>
  letk (decide (t21 > (66:Int))) fun t22 =>
  bif t22 then
    chk (0 ≤ (66:Int) ∧ (66:Int) ≤ (s5.size:Int)) <|
    letk (s5.extract 0 ((66:Int).toNat)) fun t25 =>
    chk (((t25.size + (⟨#[10,32,32,32,32,32,38]⟩:ByteArray).size:Nat):Int) ≤ 9223372036854775807) <|
    letk (t25 ++ (⟨#[10,32,32,32,32,32,38]⟩:ByteArray)) fun t26 =>
    chk (((out4.size + t26.size:Nat):Int) ≤ 9223372036854775807) <|
    letk (out4 ++ t26) fun t27 =>
    chk (0 ≤ (66:Int) ∧ (66:Int) ≤ (s5.size:Int)) <|
    letk (s5.extract (66:Int).toNat s5.size) fun t29 =>
    some (.inl (t27,t29))
  else
    ((
    chk (((out4.size + s5.size:Nat):Int) ≤ 9223372036854775807) <|
    letk (out4 ++ s5) fun t32 =>
    chk (((t32.size + (⟨#[10]⟩:ByteArray).size:Nat):Int) ≤ 9223372036854775807) <|
    letk (t32 ++ (⟨#[10]⟩:ByteArray)) fun t33 =>
    some t33)).map .inr
noncomputable def Src.WriteOld_1.l0 (out4:ByteArray) (s5:ByteArray):Option ByteArray:=loopO (fun v:ByteArray × ByteArray=>Src.WriteOld_1.s0 v.1 v.2) (out4,s5)
noncomputable def Src.WriteOld_1.j0 (x1_0:Int) (x1_1:ByteArray) (x1_2:Int) (label3:ByteArray):Option ByteArray :=
  letk ((label3.size:Int)) fun t14 =>
  letk (IntKind.i64.wrap ((6:Int) - t14)) fun t15 =>
  Option.bind (Strs.Repeat ⟨#[32]⟩ t15) fun t16 =>
  chk (((label3.size + t16.size:Nat):Int) ≤ 9223372036854775807) <|
  letk (label3 ++ t16) fun t17 =>
  Src.WriteOld_1.l0 t17 x1_1
noncomputable def Src.WriteOld_1 (x0:api.Line):Option ByteArray :=
  letk (decide (x0.Label > (0:Int))) fun t8 =>
  bif t8 then
    Option.bind (Strconv.Itoa x0.Label) fun t11 =>
    Src.WriteOld_1.j0 x0.Label x0.Text x0.At t11
  else
    Src.WriteOld_1.j0 x0.Label x0.Text x0.At (⟨#[]⟩)
theorem Src.WriteOld_1_ok {x0:api.Line} {r:ByteArray} (h0:Src.WriteOld_1 x0 = some r):Gives Tryz.prog 42 [api.Line.enc x0] (.lit (.string r)):=by
  unfold Src.WriteOld_1 at h0
  refine ACalls.of_swp Tryz.func42 rfl (by decide) rfl (st0:=⟨34,[(0,api.Line.enc x0)],[]⟩) rfl (bwp_ok (C:=[(0,4)]) ?_)
  conv=>whnf
  refine Nm.mk ⟨[.lit (.int .i64 x0.Label),.lit (.string x0.Text),.lit (.int .i64 x0.At)],rfl,?_⟩
  conv=>whnf
  refine CutN.of (fun s=>∃ (x1_0:Int) (x1_1:ByteArray) (x1_2:Int) (label3:ByteArray),Src.WriteOld_1.j0 x1_0 x1_1 x1_2 label3 = some r ∧ s = (⟨34,[(1,.ptr 0 0),(3,.lit (.string label3))],[.box [.lit (.int .i64 x1_0),.lit (.string x1_1),.lit (.int .i64 x1_2)]]⟩:St)) ?_ ?_
  · obtain ⟨t8,et8,h1⟩:=letk_elim h0; clear h0
    conv=>whnf
    refine Nm.mk ⟨t8,et8,?_⟩
    rcases t8 with _ | _
    · have h2:=bif_f h1
      clear h1
      exact BackS.by ⟨_,_,_,_,h2,rfl⟩ (Sees.of (Weak.objs (keep:=[0]) (frz:=[]) (m:=0) rfl (by decide) rfl rfl ⟨⟨_,rfl,WO.boxs ⟨.s,.s,.s,trivial⟩⟩,⟨rfl,fun _ h=>by cases h⟩⟩ ⟨(.ptr _ _ 0 rfl),.s,trivial⟩))
    have h2:=bif_t h1
    clear h1
    obtain ⟨t11,et11,h3⟩:=bind_elim h2; clear h2
    conv=>whnf
    refine Gate.go ?_
    conv=>whnf
    refine CallN.by (v:=.lit (.string t11)) (Strconv.Itoa_ok et11) rfl rfl ?_
    exact BackS.by ⟨_,_,_,_,h3,rfl⟩ (Sees.of (Weak.objs (keep:=[0]) (frz:=[]) (m:=0) rfl (by decide) rfl rfl ⟨⟨_,rfl,WO.boxs ⟨.s,.s,.s,trivial⟩⟩,⟨rfl,fun _ h=>by cases h⟩⟩ ⟨(.ptr _ _ 0 rfl),.s,trivial⟩))
  clear h0
  rintro s ⟨x1_0,x1_1,x1_2,label3,hj0,rfl⟩
  unfold Src.WriteOld_1.j0 at hj0
  obtain ⟨t14,et14,hj1⟩:=letk_elim hj0; clear hj0
  conv=>whnf
  refine Nm.mk ⟨t14,et14,?_⟩
  obtain ⟨t15,et15,hj2⟩:=letk_elim hj1; clear hj1
  conv=>whnf
  refine Nm.mk ⟨t15,et15,?_⟩
  obtain ⟨t16,et16,hj3⟩:=bind_elim hj2; clear hj2
  conv=>whnf
  refine Gate.go ?_
  conv=>whnf
  refine CallN.by (v:=.lit (.string t16)) (Strs.Repeat_ok et16) rfl rfl ?_
  obtain ⟨chj4,hj4⟩:=chk_elim hj3; clear hj3
  obtain ⟨t17,et17,hj5⟩:=letk_elim hj4; clear hj4
  conv=>whnf
  refine Side.mk chj4 ?_
  conv=>whnf
  refine Nm.mk ⟨t17,et17,?_⟩
  conv=>whnf
  unfold Src.WriteOld_1.l0 at hj5
  refine LoopB.of (σ:=ByteArray × ByteArray) (ρ:=ByteArray) (fun v:ByteArray × ByteArray=>Src.WriteOld_1.s0 v.1 v.2) (fun v=>(⟨34,[(4,.lit (.string v.1)),(5,.lit (.string v.2))],[]⟩:St)) (t17,x1_1) hj5 (BackS.by rfl (Sees.e ⟨.s,.s,trivial⟩)) ?_
  clear hj5
  rintro K1 ⟨out4,s5⟩ x1 hs0_0 hl1 hr1
  replace hs0_0:Src.WriteOld_1.s0 out4 s5 = some x1:=hs0_0
  unfold Src.WriteOld_1.s0 at hs0_0
  change bwp _ _ _ _ _ (⟨34,[(4,.lit (.string out4)),(5,.lit (.string s5))],[]⟩:St)
  obtain ⟨t21,et21,hs0_1⟩:=letk_elim hs0_0; clear hs0_0
  conv=>whnf
  refine Nm.mk ⟨t21,et21,?_⟩
  obtain ⟨t22,et22,hs0_2⟩:=letk_elim hs0_1; clear hs0_1
  conv=>whnf
  refine Nm.mk ⟨t22,et22,?_⟩
  rcases t22 with _ | _
  · have hs0_3:=bif_f hs0_2
    clear hs0_2
    obtain ⟨yhs0_3_0,hs0_3u,ehs0_3_0⟩:=map_elim hs0_3
    have ehs0_3_0:=(hr1 _ ehs0_3_0.symm).symm
    subst ehs0_3_0
    obtain ⟨chs0_3u0,hs0_3u0⟩:=chk_elim hs0_3u; clear hs0_3u
    obtain ⟨t32,et32,hs0_3u1⟩:=letk_elim hs0_3u0; clear hs0_3u0
    conv=>whnf
    refine Side.mk chs0_3u0 ?_
    conv=>whnf
    refine Nm.mk ⟨t32,et32,?_⟩
    obtain ⟨chs0_3u2,hs0_3u2⟩:=chk_elim hs0_3u1; clear hs0_3u1
    obtain ⟨t33,et33,hs0_3u3⟩:=letk_elim hs0_3u2; clear hs0_3u2
    conv=>whnf
    refine Side.mk chs0_3u2 ?_
    conv=>whnf
    refine Nm.mk ⟨t33,et33,?_⟩
    have ehs0_3u3_0:=Option.some.inj hs0_3u3
    subst ehs0_3u3_0
    conv=>whnf
    exact Returns.pure (r:=.lit (.string t33)) rfl rfl rfl rfl ⟨rfl,rfl⟩
  have hs0_3:=bif_t hs0_2
  clear hs0_2
  obtain ⟨chs0_4,hs0_4⟩:=chk_elim hs0_3; clear hs0_3
  obtain ⟨t25,et25,hs0_5⟩:=letk_elim hs0_4; clear hs0_4
  conv=>whnf
  refine Side.mk chs0_4 ?_
  conv=>whnf
  refine Nm.mk ⟨t25,et25,?_⟩
  obtain ⟨chs0_6,hs0_6⟩:=chk_elim hs0_5; clear hs0_5
  obtain ⟨t26,et26,hs0_7⟩:=letk_elim hs0_6; clear hs0_6
  conv=>whnf
  refine Side.mk chs0_6 ?_
  conv=>whnf
  refine Nm.mk ⟨t26,et26,?_⟩
  obtain ⟨chs0_8,hs0_8⟩:=chk_elim hs0_7; clear hs0_7
  obtain ⟨t27,et27,hs0_9⟩:=letk_elim hs0_8; clear hs0_8
  conv=>whnf
  refine Side.mk chs0_8 ?_
  conv=>whnf
  refine Nm.mk ⟨t27,et27,?_⟩
  obtain ⟨chs0_10,hs0_10⟩:=chk_elim hs0_9; clear hs0_9
  obtain ⟨t29,et29,hs0_11⟩:=letk_elim hs0_10; clear hs0_10
  conv=>whnf
  refine Side.mk chs0_10 ?_
  conv=>whnf
  refine Nm.mk ⟨t29,et29,?_⟩
  exact BackS.by ⟨_,hl1 _ (Option.some.inj hs0_11).symm,rfl⟩ (Sees.e ⟨.s,.s,trivial⟩)
noncomputable def Src.WriteOld (l0:List api.Line):Option (ByteArray × Int) :=
  Option.bind (Src.write l0 Src.WriteOld_1) fun (t5_0,t5_1) =>
  some (t5_0,t5_1)
theorem Src.WriteOld_ok {l0:List api.Line} {r:ByteArray × Int} (h0:Src.WriteOld l0 = some r):Gives Tryz.prog 15 [.vs 3 (l0.map (api.Line.enc))] (.tup [.lit (.string r.1),.lit (.int .i64 r.2)]):=by
  unfold Src.WriteOld at h0
  refine ACalls.of_swp Tryz.func15 rfl (by decide) rfl (st0:=⟨8,[(0,.vs 3 (l0.map (api.Line.enc)))],[]⟩) rfl (bwp_ok (C:=[]) ?_)
  obtain ⟨⟨t5_0,t5_1⟩,et5,h1⟩:=bind_elim h0; clear h0
  conv=>whnf
  refine Gate.go ?_
  conv=>whnf
  refine CallN.by (v:=.tup [.lit (.string t5_0),.lit (.int .i64 t5_1)]) (Src.write_ok (show List.all [] pureQ.pureQ0 = true from rfl) (fun _ r h=>Src.WriteOld_1_ok h) et5) rfl rfl ?_
  have eh1_0:=Option.some.inj h1
  subst eh1_0
  conv=>whnf
  exact Returns.pure (r:=.tup [.lit (.string t5_0),.lit (.int .i64 t5_1)]) rfl rfl rfl rfl ⟨rfl,rfl⟩
noncomputable def Ref3.WriteOld.s2 (l0:List api.Line) (i5:Int) (out4_1:ByteArray) (head6_1:ByteArray) (s7:ByteArray):Option ((ByteArray × ByteArray × ByteArray) ⊕ ((ByteArray × Int) ⊕ (ByteArray × Int))) :=
  letk ((s7.size:Int)) fun t34 =>
  letk (decide (t34 > (66:Int))) fun t35 =>
  bif t35 then
    chk (0 ≤ (66:Int) ∧ (66:Int) ≤ (s7.size:Int)) <|
    letk (s7.extract 0 ((66:Int).toNat)) fun t39 =>
    chk (((head6_1.size + t39.size:Nat):Int) ≤ 9223372036854775807) <|
    letk (head6_1 ++ t39) fun t40 =>
    chk (((t40.size + (⟨#[10]⟩:ByteArray).size:Nat):Int) ≤ 9223372036854775807) <|
    letk (t40 ++ (⟨#[10]⟩:ByteArray)) fun t41 =>
    chk (((out4_1.size + t41.size:Nat):Int) ≤ 9223372036854775807) <|
    letk (out4_1 ++ t41) fun t42 =>
    chk (0 ≤ (66:Int) ∧ (66:Int) ≤ (s7.size:Int)) <|
    letk (s7.extract (66:Int).toNat s7.size) fun t44 =>
    some (.inl (t42,⟨#[32,32,32,32,32,38]⟩,t44))
  else
    ((
    chk (((head6_1.size + s7.size:Nat):Int) ≤ 9223372036854775807) <|
    letk (head6_1 ++ s7) fun t48 =>
    chk (((t48.size + (⟨#[10]⟩:ByteArray).size:Nat):Int) ≤ 9223372036854775807) <|
    letk (t48 ++ (⟨#[10]⟩:ByteArray)) fun t49 =>
    chk (((out4_1.size + t49.size:Nat):Int) ≤ 9223372036854775807) <|
    letk (out4_1 ++ t49) fun t50 =>
    letk (IntKind.i64.wrap (i5 + (1:Int))) fun t16 =>
    some (.inl (t50,t16)))).map .inr
noncomputable def Ref3.WriteOld.l2 (l0:List api.Line) (i5:Int) (out4_1:ByteArray) (head6_1:ByteArray) (s7:ByteArray):Option ((ByteArray × Int) ⊕ (ByteArray × Int)):=loopO (fun v:ByteArray × ByteArray × ByteArray=>Ref3.WriteOld.s2 l0 i5 v.1 v.2.1 v.2.2) (out4_1,head6_1,s7)
noncomputable def Ref3.WriteOld.s1 (l0:List api.Line) (out4:ByteArray) (i5:Int) (head6:ByteArray):Option (ByteArray ⊕ ((ByteArray × Int) ⊕ (ByteArray × Int))) :=
  letk ((head6.size:Int)) fun t24 =>
  letk (decide (t24 < (6:Int))) fun t25 =>
  bif t25 then
    chk (((head6.size + (⟨#[32]⟩:ByteArray).size:Nat):Int) ≤ 9223372036854775807) <|
    letk (head6 ++ (⟨#[32]⟩:ByteArray)) fun t27 =>
    some (.inl t27)
  else
    ((
    chk (0 ≤ i5) <|
    Option.bind (l0[i5.toNat]?) fun t30 =>
    Ref3.WriteOld.l2 l0 i5 out4 head6 t30.Text)).map .inr
noncomputable def Ref3.WriteOld.l1 (l0:List api.Line) (out4:ByteArray) (i5:Int) (head6:ByteArray):Option ((ByteArray × Int) ⊕ (ByteArray × Int)):=loopO (fun v:ByteArray=>Ref3.WriteOld.s1 l0 out4 i5 v) head6
noncomputable def Ref3.WriteOld.s0 (l0:List api.Line) (out4:ByteArray) (i5:Int):Option ((ByteArray × Int) ⊕ (ByteArray × Int)) :=
  letk ((l0.length:Int)) fun t13 =>
  letk (decide (i5 < t13)) fun t14 =>
  bif t14 then
    chk (0 ≤ i5) <|
    Option.bind (l0[i5.toNat]?) fun t19 =>
    Option.bind (Ref3.Label t19.Label) fun t22 =>
    Ref3.WriteOld.l1 l0 out4 i5 t22
  else
    ((
    letk ((out4.size:Int)) fun t52 =>
    letk (decide (t52 > (8000:Int))) fun t53 =>
    bif t53 then
      some (⟨#[]⟩,4)
    else
      some (out4,0))).map .inr
noncomputable def Ref3.WriteOld.l0 (l0:List api.Line) (out4:ByteArray) (i5:Int):Option (ByteArray × Int):=loopO (fun v:ByteArray × Int=>Ref3.WriteOld.s0 l0 v.1 v.2) (out4,i5)
noncomputable def Ref3.WriteOld (l0:List api.Line):Option (ByteArray × Int) :=
  Option.bind (Ref3.Valid l0) fun t9 =>
  letk (!t9) fun t10 =>
  bif t10 then
    some (⟨#[]⟩,2)
  else
    Ref3.WriteOld.l0 l0 (⟨#[]⟩) 0
theorem Ref3.WriteOld_ok {l0:List api.Line} {r:ByteArray × Int} (h0:Ref3.WriteOld l0 = some r):Gives Tryz.prog 16 [.vs 3 (l0.map (api.Line.enc))] (.tup [.lit (.string r.1),.lit (.int .i64 r.2)]):=by
  unfold Ref3.WriteOld at h0
  refine ACalls.of_swp Tryz.func16 rfl (by decide) rfl (st0:=⟨55,[(0,.vs 3 (l0.map (api.Line.enc)))],[]⟩) rfl (bwp_ok (C:=[]) ?_)
  obtain ⟨t9,et9,h1⟩:=bind_elim h0; clear h0
  conv=>whnf
  refine Gate.go ?_
  conv=>whnf
  refine CallN.by (v:=.lit (.bool t9)) (Ref3.Valid_ok et9) rfl rfl ?_
  obtain ⟨t10,et10,h2⟩:=letk_elim h1; clear h1
  conv=>whnf
  refine Nm.mk ⟨t10,et10,?_⟩
  rcases t10 with _ | _
  · have h3:=bif_f h2
    clear h2
    conv=>whnf
    unfold Ref3.WriteOld.l0 at h3
    refine LoopB.of (σ:=ByteArray × Int) (ρ:=ByteArray × Int) (fun v:ByteArray × Int=>Ref3.WriteOld.s0 l0 v.1 v.2) (fun v=>(⟨55,[(0,.vs 3 (l0.map (api.Line.enc))),(4,.lit (.string v.1)),(5,.lit (.int .i64 v.2))],[]⟩:St)) (⟨#[]⟩,0) h3 (BackS.by rfl (Sees.e ⟨.s,.s,.s,trivial⟩)) ?_
    clear h3
    rintro K1 ⟨out4,i5⟩ x1 hs0_0 hl1 hr1
    replace hs0_0:Ref3.WriteOld.s0 l0 out4 i5 = some x1:=hs0_0
    unfold Ref3.WriteOld.s0 at hs0_0
    change bwp _ _ _ _ _ (⟨55,[(0,.vs 3 (l0.map (api.Line.enc))),(4,.lit (.string out4)),(5,.lit (.int .i64 i5))],[]⟩:St)
    obtain ⟨t13,et13,hs0_1⟩:=letk_elim hs0_0; clear hs0_0
    conv=>whnf
    refine Nm.mk ⟨t13,by rw [et13,List.length_map],?_⟩
    obtain ⟨t14,et14,hs0_2⟩:=letk_elim hs0_1; clear hs0_1
    conv=>whnf
    refine Nm.mk ⟨t14,et14,?_⟩
    rcases t14 with _ | _
    · have hs0_3:=bif_f hs0_2
      clear hs0_2
      obtain ⟨yhs0_3_0,hs0_3u,ehs0_3_0⟩:=map_elim hs0_3
      have ehs0_3_0:=(hr1 _ ehs0_3_0.symm).symm
      subst ehs0_3_0
      obtain ⟨t52,et52,hs0_3u0⟩:=letk_elim hs0_3u; clear hs0_3u
      conv=>whnf
      refine Nm.mk ⟨t52,et52,?_⟩
      obtain ⟨t53,et53,hs0_3u1⟩:=letk_elim hs0_3u0; clear hs0_3u0
      conv=>whnf
      refine Nm.mk ⟨t53,et53,?_⟩
      rcases t53 with _ | _
      · have hs0_3u2:=bif_f hs0_3u1
        clear hs0_3u1
        have ehs0_3u2_0:=Option.some.inj hs0_3u2
        subst ehs0_3u2_0
        conv=>whnf
        exact Returns.pure (r:=.tup [.lit (.string out4),.lit (.int .i64 0)]) rfl rfl rfl rfl ⟨rfl,rfl⟩
      have hs0_3u2:=bif_t hs0_3u1
      clear hs0_3u1
      have ehs0_3u2_0:=Option.some.inj hs0_3u2
      subst ehs0_3u2_0
      conv=>whnf
      exact Returns.pure (r:=.tup [.lit (.string (⟨#[]⟩)),.lit (.int .i64 4)]) rfl rfl rfl rfl ⟨rfl,rfl⟩
    have hs0_3:=bif_t hs0_2
    clear hs0_2
    obtain ⟨chs0_4,hs0_4⟩:=chk_elim hs0_3; clear hs0_3
    obtain ⟨t19,et19,hs0_5⟩:=bind_elim hs0_4; clear hs0_4
    conv=>whnf
    refine Side.mk chs0_4 ?_
    conv=>whnf
    refine At.by et19 ?_
    obtain ⟨t22,et22,hs0_6⟩:=bind_elim hs0_5; clear hs0_5
    conv=>whnf
    refine Gate.go ?_
    conv=>whnf
    refine CallN.by (v:=.lit (.string t22)) (Ref3.Label_ok et22) rfl rfl ?_
    conv=>whnf
    unfold Ref3.WriteOld.l1 at hs0_6
    refine LoopB.of (σ:=ByteArray) (ρ:=(ByteArray × Int) ⊕ (ByteArray × Int)) (fun v:ByteArray=>Ref3.WriteOld.s1 l0 out4 i5 v) (fun v=>(⟨55,[(0,.vs 3 (l0.map (api.Line.enc))),(4,.lit (.string out4)),(5,.lit (.int .i64 i5)),(6,.lit (.string v))],[]⟩:St)) t22 hs0_6 (BackS.by rfl (Sees.e ⟨.s,.s,.s,.s,trivial⟩)) ?_
    clear hs0_6
    rintro K2 head6 x2 hs1_0 hl2 hr2
    replace hs1_0:Ref3.WriteOld.s1 l0 out4 i5 head6 = some x2:=hs1_0
    unfold Ref3.WriteOld.s1 at hs1_0
    change bwp _ _ _ _ _ (⟨55,[(0,.vs 3 (l0.map (api.Line.enc))),(4,.lit (.string out4)),(5,.lit (.int .i64 i5)),(6,.lit (.string head6))],[]⟩:St)
    obtain ⟨t24,et24,hs1_1⟩:=letk_elim hs1_0; clear hs1_0
    conv=>whnf
    refine Nm.mk ⟨t24,et24,?_⟩
    obtain ⟨t25,et25,hs1_2⟩:=letk_elim hs1_1; clear hs1_1
    conv=>whnf
    refine Nm.mk ⟨t25,et25,?_⟩
    rcases t25 with _ | _
    · have hs1_3:=bif_f hs1_2
      clear hs1_2
      obtain ⟨yhs1_3_0,hs1_3u,ehs1_3_0⟩:=map_elim hs1_3
      have ehs1_3_0:=(hr2 _ ehs1_3_0.symm).symm
      subst ehs1_3_0
      obtain ⟨chs1_3u0,hs1_3u0⟩:=chk_elim hs1_3u; clear hs1_3u
      obtain ⟨t30,et30,hs1_3u1⟩:=bind_elim hs1_3u0; clear hs1_3u0
      conv=>whnf
      refine Side.mk chs1_3u0 ?_
      conv=>whnf
      refine At.by et30 ?_
      conv=>whnf
      unfold Ref3.WriteOld.l2 at hs1_3u1
      refine LoopB.of (σ:=ByteArray × ByteArray × ByteArray) (ρ:=(ByteArray × Int) ⊕ (ByteArray × Int)) (fun v:ByteArray × ByteArray × ByteArray=>Ref3.WriteOld.s2 l0 i5 v.1 v.2.1 v.2.2) (fun v=>(⟨55,[(0,.vs 3 (l0.map (api.Line.enc))),(4,.lit (.string v.1)),(5,.lit (.int .i64 i5)),(6,.lit (.string v.2.1)),(7,.lit (.string v.2.2))],[]⟩:St)) (out4,head6,t30.Text) hs1_3u1 (BackS.by rfl (Sees.e ⟨.s,.s,.s,.s,.s,trivial⟩)) ?_
      clear hs1_3u1
      rintro K2 ⟨out4_1,head6_1,s7⟩ x2 hs2_0 hl2 hr2
      replace hs2_0:Ref3.WriteOld.s2 l0 i5 out4_1 head6_1 s7 = some x2:=hs2_0
      unfold Ref3.WriteOld.s2 at hs2_0
      change bwp _ _ _ _ _ (⟨55,[(0,.vs 3 (l0.map (api.Line.enc))),(4,.lit (.string out4_1)),(5,.lit (.int .i64 i5)),(6,.lit (.string head6_1)),(7,.lit (.string s7))],[]⟩:St)
      obtain ⟨t34,et34,hs2_1⟩:=letk_elim hs2_0; clear hs2_0
      conv=>whnf
      refine Nm.mk ⟨t34,et34,?_⟩
      obtain ⟨t35,et35,hs2_2⟩:=letk_elim hs2_1; clear hs2_1
      conv=>whnf
      refine Nm.mk ⟨t35,et35,?_⟩
      rcases t35 with _ | _
      · have hs2_3:=bif_f hs2_2
        clear hs2_2
        obtain ⟨yhs2_3_0,hs2_3u,ehs2_3_0⟩:=map_elim hs2_3
        have ehs2_3_0:=(hr2 _ ehs2_3_0.symm).symm
        subst ehs2_3_0
        obtain ⟨chs2_3u0,hs2_3u0⟩:=chk_elim hs2_3u; clear hs2_3u
        obtain ⟨t48,et48,hs2_3u1⟩:=letk_elim hs2_3u0; clear hs2_3u0
        conv=>whnf
        refine Side.mk chs2_3u0 ?_
        conv=>whnf
        refine Nm.mk ⟨t48,et48,?_⟩
        obtain ⟨chs2_3u2,hs2_3u2⟩:=chk_elim hs2_3u1; clear hs2_3u1
        obtain ⟨t49,et49,hs2_3u3⟩:=letk_elim hs2_3u2; clear hs2_3u2
        conv=>whnf
        refine Side.mk chs2_3u2 ?_
        conv=>whnf
        refine Nm.mk ⟨t49,et49,?_⟩
        obtain ⟨chs2_3u4,hs2_3u4⟩:=chk_elim hs2_3u3; clear hs2_3u3
        obtain ⟨t50,et50,hs2_3u5⟩:=letk_elim hs2_3u4; clear hs2_3u4
        conv=>whnf
        refine Side.mk chs2_3u4 ?_
        conv=>whnf
        refine Nm.mk ⟨t50,et50,?_⟩
        obtain ⟨t16,et16,hs2_3u6⟩:=letk_elim hs2_3u5; clear hs2_3u5
        conv=>whnf
        refine Nm.mk ⟨t16,et16,?_⟩
        exact BackS.by ⟨_,hl1 _ (Option.some.inj hs2_3u6).symm,rfl⟩ (Sees.e ⟨.s,.s,.s,trivial⟩)
      have hs2_3:=bif_t hs2_2
      clear hs2_2
      obtain ⟨chs2_4,hs2_4⟩:=chk_elim hs2_3; clear hs2_3
      obtain ⟨t39,et39,hs2_5⟩:=letk_elim hs2_4; clear hs2_4
      conv=>whnf
      refine Side.mk chs2_4 ?_
      conv=>whnf
      refine Nm.mk ⟨t39,et39,?_⟩
      obtain ⟨chs2_6,hs2_6⟩:=chk_elim hs2_5; clear hs2_5
      obtain ⟨t40,et40,hs2_7⟩:=letk_elim hs2_6; clear hs2_6
      conv=>whnf
      refine Side.mk chs2_6 ?_
      conv=>whnf
      refine Nm.mk ⟨t40,et40,?_⟩
      obtain ⟨chs2_8,hs2_8⟩:=chk_elim hs2_7; clear hs2_7
      obtain ⟨t41,et41,hs2_9⟩:=letk_elim hs2_8; clear hs2_8
      conv=>whnf
      refine Side.mk chs2_8 ?_
      conv=>whnf
      refine Nm.mk ⟨t41,et41,?_⟩
      obtain ⟨chs2_10,hs2_10⟩:=chk_elim hs2_9; clear hs2_9
      obtain ⟨t42,et42,hs2_11⟩:=letk_elim hs2_10; clear hs2_10
      conv=>whnf
      refine Side.mk chs2_10 ?_
      conv=>whnf
      refine Nm.mk ⟨t42,et42,?_⟩
      obtain ⟨chs2_12,hs2_12⟩:=chk_elim hs2_11; clear hs2_11
      obtain ⟨t44,et44,hs2_13⟩:=letk_elim hs2_12; clear hs2_12
      conv=>whnf
      refine Side.mk chs2_12 ?_
      conv=>whnf
      refine Nm.mk ⟨t44,et44,?_⟩
      exact BackS.by ⟨_,hl2 _ (Option.some.inj hs2_13).symm,rfl⟩ (Sees.e ⟨.s,.s,.s,.s,.s,trivial⟩)
    have hs1_3:=bif_t hs1_2
    clear hs1_2
    obtain ⟨chs1_4,hs1_4⟩:=chk_elim hs1_3; clear hs1_3
    obtain ⟨t27,et27,hs1_5⟩:=letk_elim hs1_4; clear hs1_4
    conv=>whnf
    refine Side.mk chs1_4 ?_
    conv=>whnf
    refine Nm.mk ⟨t27,et27,?_⟩
    exact BackS.by ⟨_,hl2 _ (Option.some.inj hs1_5).symm,rfl⟩ (Sees.e ⟨.s,.s,.s,.s,trivial⟩)
  have h3:=bif_t h2
  clear h2
  have eh3_0:=Option.some.inj h3
  subst eh3_0
  conv=>whnf
  exact Returns.pure (r:=.tup [.lit (.string (⟨#[]⟩)),.lit (.int .i64 2)]) rfl rfl rfl rfl ⟨rfl,rfl⟩
noncomputable def Law3.FormWrites (l0:List api.Line):Option Bool :=
  Option.bind (Law3.isLong l0) fun t12 =>
  bif t12 then
    Option.bind (Law3.Awake) fun t13 =>
    some t13
  else
    Option.bind (Src.WriteNew l0) fun (t16_0,t16_1) =>
    Option.bind (Ref3.WriteNew l0) fun (t21_0,t21_1) =>
    Option.bind (Src.WriteOld l0) fun (t26_0,t26_1) =>
    Option.bind (Ref3.WriteOld l0) fun (t31_0,t31_1) =>
    Option.bind (Src.Valid l0) fun t35 =>
    Option.bind (Ref3.Valid l0) fun t37 =>
    letk (t35 == t37) fun t38 =>
    bif t38 then
      letk (t16_0.toList == t21_0.toList) fun t42 =>
      bif t42 then
        letk (t16_1 == t21_1) fun t47 =>
        bif t47 then
          letk (t26_0.toList == t31_0.toList) fun t52 =>
          bif t52 then
            letk (t26_1 == t31_1) fun t57 =>
            bif t57 then
              Option.bind (Law3.Awake) fun t60 =>
              some t60
            else
              some false
          else
            some false
        else
          some false
      else
        some false
    else
      some false
theorem Law3.FormWrites_ok {l0:List api.Line} {r:Bool} (h0:Law3.FormWrites l0 = some r):Gives Tryz.prog 4 [.vs 3 (l0.map (api.Line.enc))] (.lit (.bool r)):=by
  unfold Law3.FormWrites at h0
  refine ACalls.of_swp Tryz.func4 rfl (by decide) rfl (st0:=⟨62,[(0,.vs 3 (l0.map (api.Line.enc)))],[]⟩) rfl (bwp_ok (C:=[]) ?_)
  obtain ⟨t12,et12,h1⟩:=bind_elim h0; clear h0
  conv=>whnf
  refine Gate.go ?_
  conv=>whnf
  refine CallN.by (v:=.lit (.bool t12)) (Law3.isLong_ok et12) rfl rfl ?_
  rcases t12 with _ | _
  · have h2:=bif_f h1
    clear h1
    obtain ⟨⟨t16_0,t16_1⟩,et16,h3⟩:=bind_elim h2; clear h2
    conv=>whnf
    refine Gate.go ?_
    conv=>whnf
    refine CallN.by (v:=.tup [.lit (.string t16_0),.lit (.int .i64 t16_1)]) (Src.WriteNew_ok et16) rfl rfl ?_
    obtain ⟨⟨t21_0,t21_1⟩,et21,h4⟩:=bind_elim h3; clear h3
    conv=>whnf
    refine Gate.go ?_
    conv=>whnf
    refine CallN.by (v:=.tup [.lit (.string t21_0),.lit (.int .i64 t21_1)]) (Ref3.WriteNew_ok et21) rfl rfl ?_
    obtain ⟨⟨t26_0,t26_1⟩,et26,h5⟩:=bind_elim h4; clear h4
    conv=>whnf
    refine Gate.go ?_
    conv=>whnf
    refine CallN.by (v:=.tup [.lit (.string t26_0),.lit (.int .i64 t26_1)]) (Src.WriteOld_ok et26) rfl rfl ?_
    obtain ⟨⟨t31_0,t31_1⟩,et31,h6⟩:=bind_elim h5; clear h5
    conv=>whnf
    refine Gate.go ?_
    conv=>whnf
    refine CallN.by (v:=.tup [.lit (.string t31_0),.lit (.int .i64 t31_1)]) (Ref3.WriteOld_ok et31) rfl rfl ?_
    obtain ⟨t35,et35,h7⟩:=bind_elim h6; clear h6
    conv=>whnf
    refine Gate.go ?_
    conv=>whnf
    refine CallN.by (v:=.lit (.bool t35)) (Src.Valid_ok et35) rfl rfl ?_
    obtain ⟨t37,et37,h8⟩:=bind_elim h7; clear h7
    conv=>whnf
    refine Gate.go ?_
    conv=>whnf
    refine CallN.by (v:=.lit (.bool t37)) (Ref3.Valid_ok et37) rfl rfl ?_
    obtain ⟨t38,et38,h9⟩:=letk_elim h8; clear h8
    conv=>whnf
    refine Nm.mk ⟨t38,et38,?_⟩
    rcases t38 with _ | _
    · have h10:=bif_f h9
      clear h9
      have eh10_0:=Option.some.inj h10
      subst eh10_0
      conv=>whnf
      exact Returns.pure (r:=.lit (.bool false)) rfl rfl rfl rfl ⟨rfl,rfl⟩
    have h10:=bif_t h9
    clear h9
    obtain ⟨t42,et42,h11⟩:=letk_elim h10; clear h10
    conv=>whnf
    refine Nm.mk ⟨t42,et42,?_⟩
    rcases t42 with _ | _
    · have h12:=bif_f h11
      clear h11
      have eh12_0:=Option.some.inj h12
      subst eh12_0
      conv=>whnf
      exact Returns.pure (r:=.lit (.bool false)) rfl rfl rfl rfl ⟨rfl,rfl⟩
    have h12:=bif_t h11
    clear h11
    obtain ⟨t47,et47,h13⟩:=letk_elim h12; clear h12
    conv=>whnf
    refine Nm.mk ⟨t47,et47,?_⟩
    rcases t47 with _ | _
    · have h14:=bif_f h13
      clear h13
      have eh14_0:=Option.some.inj h14
      subst eh14_0
      conv=>whnf
      exact Returns.pure (r:=.lit (.bool false)) rfl rfl rfl rfl ⟨rfl,rfl⟩
    have h14:=bif_t h13
    clear h13
    obtain ⟨t52,et52,h15⟩:=letk_elim h14; clear h14
    conv=>whnf
    refine Nm.mk ⟨t52,et52,?_⟩
    rcases t52 with _ | _
    · have h16:=bif_f h15
      clear h15
      have eh16_0:=Option.some.inj h16
      subst eh16_0
      conv=>whnf
      exact Returns.pure (r:=.lit (.bool false)) rfl rfl rfl rfl ⟨rfl,rfl⟩
    have h16:=bif_t h15
    clear h15
    obtain ⟨t57,et57,h17⟩:=letk_elim h16; clear h16
    conv=>whnf
    refine Nm.mk ⟨t57,et57,?_⟩
    rcases t57 with _ | _
    · have h18:=bif_f h17
      clear h17
      have eh18_0:=Option.some.inj h18
      subst eh18_0
      conv=>whnf
      exact Returns.pure (r:=.lit (.bool false)) rfl rfl rfl rfl ⟨rfl,rfl⟩
    have h18:=bif_t h17
    clear h17
    obtain ⟨t60,et60,h19⟩:=bind_elim h18; clear h18
    conv=>whnf
    refine Gate.go ?_
    conv=>whnf
    refine CallN.by (v:=.lit (.bool t60)) (Law3.Awake_ok et60) rfl rfl ?_
    have eh19_0:=Option.some.inj h19
    subst eh19_0
    conv=>whnf
    exact Returns.pure (r:=.lit (.bool t60)) rfl rfl rfl rfl ⟨rfl,rfl⟩
  have h2:=bif_t h1
  clear h1
  obtain ⟨t13,et13,h3⟩:=bind_elim h2; clear h2
  conv=>whnf
  refine Gate.go ?_
  conv=>whnf
  refine CallN.by (v:=.lit (.bool t13)) (Law3.Awake_ok et13) rfl rfl ?_
  have eh3_0:=Option.some.inj h3
  subst eh3_0
  conv=>whnf
  exact Returns.pure (r:=.lit (.bool t13)) rfl rfl rfl rfl ⟨rfl,rfl⟩
end Go.Q
