import Derived.Test.YtoecgpemlfoogaaGreatDoorBV
import Derived.Test.YtoecgpemlfoogaaGreatDoorFX
import Derived.Test.YtoecgpemlfoogaaGreatDoorFY
import Derived.Test.YtoecgpemlfoogaaGreatDoorProg
namespace Go.Q
open Go Go.Proofs
set_option maxRecDepth 10000
set_option maxHeartbeats 2000000
noncomputable def Law3.isLong.s0 (l0:List api.Line) (n3:Int) (i4:Int):Option ((Int × Int) ⊕ Bool) :=
  letk ((l0.length:Int)) fun t7 =>
  letk (decide (i4 < t7)) fun t8 =>
  bif t8 then
    chk (0 ≤ i4) <|
    Option.bind (l0[i4.toNat]?) fun t14 =>
    letk ((t14.Text.size:Int)) fun t17 =>
    letk (IntKind.i64.wrap (n3 + t17)) fun t18 =>
    letk (IntKind.i64.wrap (i4 + (1:Int))) fun t10 =>
    some (.inl (t18,t10))
  else
    ((
    letk ((l0.length:Int)) fun t20 =>
    letk (decide (t20 > (300:Int))) fun t21 =>
    bif t21 then
      some true
    else
      letk (decide (n3 > (9000:Int))) fun t24 =>
      some t24)).map .inr
noncomputable def Law3.isLong.l0 (l0:List api.Line) (n3:Int) (i4:Int):Option Bool:=loopO (fun v:Int × Int=>Law3.isLong.s0 l0 v.1 v.2) (n3,i4)
noncomputable def Law3.isLong (l0:List api.Line):Option Bool :=
  Law3.isLong.l0 l0 0 0
theorem Law3.isLong_ok {l0:List api.Line} {r:Bool} (h0:Law3.isLong l0 = some r):Gives Tryz.prog 12 [.vs 3 (l0.map (api.Line.enc))] (.lit (.bool r)):=by
  unfold Law3.isLong at h0
  refine ACalls.of_swp Tryz.func12 rfl (by decide) rfl (st0:=⟨26,[(0,.vs 3 (l0.map (api.Line.enc)))],[]⟩) rfl (bwp_ok (C:=[]) ?_)
  conv=>whnf
  unfold Law3.isLong.l0 at h0
  refine LoopB.of (σ:=Int × Int) (ρ:=Bool) (fun v:Int × Int=>Law3.isLong.s0 l0 v.1 v.2) (fun v=>(⟨26,[(0,.vs 3 (l0.map (api.Line.enc))),(3,.lit (.int .i64 v.1)),(4,.lit (.int .i64 v.2))],[]⟩:St)) (0,0) h0 (BackS.by rfl (Sees.e ⟨.s,.s,.s,trivial⟩)) ?_
  clear h0
  rintro K1 ⟨n3,i4⟩ x1 hs0_0 hl1 hr1
  replace hs0_0:Law3.isLong.s0 l0 n3 i4 = some x1:=hs0_0
  unfold Law3.isLong.s0 at hs0_0
  change bwp _ _ _ _ _ (⟨26,[(0,.vs 3 (l0.map (api.Line.enc))),(3,.lit (.int .i64 n3)),(4,.lit (.int .i64 i4))],[]⟩:St)
  obtain ⟨t7,et7,hs0_1⟩:=letk_elim hs0_0; clear hs0_0
  conv=>whnf
  refine Nm.mk ⟨t7,by rw [et7,List.length_map],?_⟩
  obtain ⟨t8,et8,hs0_2⟩:=letk_elim hs0_1; clear hs0_1
  conv=>whnf
  refine Nm.mk ⟨t8,et8,?_⟩
  rcases t8 with _ | _
  · have hs0_3:=bif_f hs0_2
    clear hs0_2
    obtain ⟨yhs0_3_0,hs0_3u,ehs0_3_0⟩:=map_elim hs0_3
    have ehs0_3_0:=(hr1 _ ehs0_3_0.symm).symm
    subst ehs0_3_0
    obtain ⟨t20,et20,hs0_3u0⟩:=letk_elim hs0_3u; clear hs0_3u
    conv=>whnf
    refine Nm.mk ⟨t20,by rw [et20,List.length_map],?_⟩
    obtain ⟨t21,et21,hs0_3u1⟩:=letk_elim hs0_3u0; clear hs0_3u0
    conv=>whnf
    refine Nm.mk ⟨t21,et21,?_⟩
    rcases t21 with _ | _
    · have hs0_3u2:=bif_f hs0_3u1
      clear hs0_3u1
      obtain ⟨t24,et24,hs0_3u3⟩:=letk_elim hs0_3u2; clear hs0_3u2
      conv=>whnf
      refine Nm.mk ⟨t24,et24,?_⟩
      have ehs0_3u3_0:=Option.some.inj hs0_3u3
      subst ehs0_3u3_0
      conv=>whnf
      exact Returns.pure (r:=.lit (.bool t24)) rfl rfl rfl rfl ⟨rfl,rfl⟩
    have hs0_3u2:=bif_t hs0_3u1
    clear hs0_3u1
    have ehs0_3u2_0:=Option.some.inj hs0_3u2
    subst ehs0_3u2_0
    conv=>whnf
    exact Returns.pure (r:=.lit (.bool true)) rfl rfl rfl rfl ⟨rfl,rfl⟩
  have hs0_3:=bif_t hs0_2
  clear hs0_2
  obtain ⟨chs0_4,hs0_4⟩:=chk_elim hs0_3; clear hs0_3
  obtain ⟨t14,et14,hs0_5⟩:=bind_elim hs0_4; clear hs0_4
  conv=>whnf
  refine Side.mk chs0_4 ?_
  conv=>whnf
  refine At.by et14 ?_
  obtain ⟨t17,et17,hs0_6⟩:=letk_elim hs0_5; clear hs0_5
  conv=>whnf
  refine Nm.mk ⟨t17,et17,?_⟩
  obtain ⟨t18,et18,hs0_7⟩:=letk_elim hs0_6; clear hs0_6
  conv=>whnf
  refine Nm.mk ⟨t18,et18,?_⟩
  obtain ⟨t10,et10,hs0_8⟩:=letk_elim hs0_7; clear hs0_7
  conv=>whnf
  refine Nm.mk ⟨t10,et10,?_⟩
  exact BackS.by ⟨_,hl1 _ (Option.some.inj hs0_8).symm,rfl⟩ (Sees.e ⟨.s,.s,.s,trivial⟩)
noncomputable def Src.WriteNew_1.s0 (s3_1:ByteArray) (out4:ByteArray):Option ((ByteArray × ByteArray) ⊕ ByteArray) :=
  letk ((s3_1.size:Int)) fun t17 =>
  letk (decide (t17 > (100:Int))) fun t18 =>
  bif t18 then
    chk (0 ≤ (100:Int) ∧ (100:Int) ≤ (s3_1.size:Int)) <|
    letk (s3_1.extract 0 ((100:Int).toNat)) fun t21 =>
    chk (((t21.size + (⟨#[38,10,38]⟩:ByteArray).size:Nat):Int) ≤ 9223372036854775807) <|
    letk (t21 ++ (⟨#[38,10,38]⟩:ByteArray)) fun t22 =>
    chk (((out4.size + t22.size:Nat):Int) ≤ 9223372036854775807) <|
    letk (out4 ++ t22) fun t23 =>
    chk (0 ≤ (100:Int) ∧ (100:Int) ≤ (s3_1.size:Int)) <|
    letk (s3_1.extract (100:Int).toNat s3_1.size) fun t25 =>
    some (.inl (t25,t23))
  else
    ((
    chk (((out4.size + s3_1.size:Nat):Int) ≤ 9223372036854775807) <|
    letk (out4 ++ s3_1) fun t28 =>
    chk (((t28.size + (⟨#[10]⟩:ByteArray).size:Nat):Int) ≤ 9223372036854775807) <|
    letk (t28 ++ (⟨#[10]⟩:ByteArray)) fun t29 =>
    some t29)).map .inr
noncomputable def Src.WriteNew_1.l0 (s3_1:ByteArray) (out4:ByteArray):Option ByteArray:=loopO (fun v:ByteArray × ByteArray=>Src.WriteNew_1.s0 v.1 v.2) (s3_1,out4)
noncomputable def Src.WriteNew_1.j0 (s3:ByteArray):Option ByteArray :=
  Src.WriteNew_1.l0 s3 (⟨#[]⟩)
noncomputable def Src.WriteNew_1 (x0:api.Line):Option ByteArray :=
  letk (decide (x0.Label > (0:Int))) fun t9 =>
  bif t9 then
    Option.bind (Strconv.Itoa x0.Label) fun t12 =>
    chk (((t12.size + (⟨#[32]⟩:ByteArray).size:Nat):Int) ≤ 9223372036854775807) <|
    letk (t12 ++ (⟨#[32]⟩:ByteArray)) fun t13 =>
    chk (((t13.size + x0.Text.size:Nat):Int) ≤ 9223372036854775807) <|
    letk (t13 ++ x0.Text) fun t15 =>
    Src.WriteNew_1.j0 t15
  else
    Src.WriteNew_1.j0 x0.Text
theorem Src.WriteNew_1_ok {x0:api.Line} {r:ByteArray} (h0:Src.WriteNew_1 x0 = some r):Gives Tryz.prog 39 [api.Line.enc x0] (.lit (.string r)):=by
  unfold Src.WriteNew_1 at h0
  refine ACalls.of_swp Tryz.func39 rfl (by decide) rfl (st0:=⟨30,[(0,api.Line.enc x0)],[]⟩) rfl (bwp_ok (C:=[(0,4)]) ?_)
  conv=>whnf
  refine Nm.mk ⟨[.lit (.int .i64 x0.Label),.lit (.string x0.Text),.lit (.int .i64 x0.At)],rfl,?_⟩
  conv=>whnf
  refine CutN.of (fun s=>∃ (s3:ByteArray),Src.WriteNew_1.j0 s3 = some r ∧ s = (⟨30,[(3,.lit (.string s3))],[]⟩:St)) ?_ ?_
  · obtain ⟨t9,et9,h1⟩:=letk_elim h0; clear h0
    conv=>whnf
    refine Nm.mk ⟨t9,et9,?_⟩
    rcases t9 with _ | _
    · have h2:=bif_f h1
      clear h1
      exact BackS.by ⟨_,h2,rfl⟩ (Sees.e ⟨.s,trivial⟩)
    have h2:=bif_t h1
    clear h1
    obtain ⟨t12,et12,h3⟩:=bind_elim h2; clear h2
    conv=>whnf
    refine Gate.go ?_
    conv=>whnf
    refine CallN.by (v:=.lit (.string t12)) (Strconv.Itoa_ok et12) rfl rfl ?_
    obtain ⟨ch4,h4⟩:=chk_elim h3; clear h3
    obtain ⟨t13,et13,h5⟩:=letk_elim h4; clear h4
    conv=>whnf
    refine Side.mk ch4 ?_
    conv=>whnf
    refine Nm.mk ⟨t13,et13,?_⟩
    obtain ⟨ch6,h6⟩:=chk_elim h5; clear h5
    obtain ⟨t15,et15,h7⟩:=letk_elim h6; clear h6
    conv=>whnf
    refine Side.mk ch6 ?_
    conv=>whnf
    refine Nm.mk ⟨t15,et15,?_⟩
    exact BackS.by ⟨_,h7,rfl⟩ (Sees.e ⟨.s,trivial⟩)
  clear h0
  rintro s ⟨s3,hj0,rfl⟩
  unfold Src.WriteNew_1.j0 at hj0
  conv=>whnf
  unfold Src.WriteNew_1.l0 at hj0
  refine LoopB.of (σ:=ByteArray × ByteArray) (ρ:=ByteArray) (fun v:ByteArray × ByteArray=>Src.WriteNew_1.s0 v.1 v.2) (fun v=>(⟨30,[(3,.lit (.string v.1)),(4,.lit (.string v.2))],[]⟩:St)) (s3,⟨#[]⟩) hj0 (BackS.by rfl (Sees.e ⟨.s,.s,trivial⟩)) ?_
  clear hj0
  rintro K1 ⟨s3_1,out4⟩ x1 hs0_0 hl1 hr1
  replace hs0_0:Src.WriteNew_1.s0 s3_1 out4 = some x1:=hs0_0
  unfold Src.WriteNew_1.s0 at hs0_0
  change bwp _ _ _ _ _ (⟨30,[(3,.lit (.string s3_1)),(4,.lit (.string out4))],[]⟩:St)
  obtain ⟨t17,et17,hs0_1⟩:=letk_elim hs0_0; clear hs0_0
  conv=>whnf
  refine Nm.mk ⟨t17,et17,?_⟩
  obtain ⟨t18,et18,hs0_2⟩:=letk_elim hs0_1; clear hs0_1
  conv=>whnf
  refine Nm.mk ⟨t18,et18,?_⟩
  rcases t18 with _ | _
  · have hs0_3:=bif_f hs0_2
    clear hs0_2
    obtain ⟨yhs0_3_0,hs0_3u,ehs0_3_0⟩:=map_elim hs0_3
    have ehs0_3_0:=(hr1 _ ehs0_3_0.symm).symm
    subst ehs0_3_0
    obtain ⟨chs0_3u0,hs0_3u0⟩:=chk_elim hs0_3u; clear hs0_3u
    obtain ⟨t28,et28,hs0_3u1⟩:=letk_elim hs0_3u0; clear hs0_3u0
    conv=>whnf
    refine Side.mk chs0_3u0 ?_
    conv=>whnf
    refine Nm.mk ⟨t28,et28,?_⟩
    obtain ⟨chs0_3u2,hs0_3u2⟩:=chk_elim hs0_3u1; clear hs0_3u1
    obtain ⟨t29,et29,hs0_3u3⟩:=letk_elim hs0_3u2; clear hs0_3u2
    conv=>whnf
    refine Side.mk chs0_3u2 ?_
    conv=>whnf
    refine Nm.mk ⟨t29,et29,?_⟩
    have ehs0_3u3_0:=Option.some.inj hs0_3u3
    subst ehs0_3u3_0
    conv=>whnf
    exact Returns.pure (r:=.lit (.string t29)) rfl rfl rfl rfl ⟨rfl,rfl⟩
  have hs0_3:=bif_t hs0_2
  clear hs0_2
  obtain ⟨chs0_4,hs0_4⟩:=chk_elim hs0_3; clear hs0_3
  obtain ⟨t21,et21,hs0_5⟩:=letk_elim hs0_4; clear hs0_4
  conv=>whnf
  refine Side.mk chs0_4 ?_
  conv=>whnf
  refine Nm.mk ⟨t21,et21,?_⟩
  obtain ⟨chs0_6,hs0_6⟩:=chk_elim hs0_5; clear hs0_5
  obtain ⟨t22,et22,hs0_7⟩:=letk_elim hs0_6; clear hs0_6
  conv=>whnf
  refine Side.mk chs0_6 ?_
  conv=>whnf
  refine Nm.mk ⟨t22,et22,?_⟩
  obtain ⟨chs0_8,hs0_8⟩:=chk_elim hs0_7; clear hs0_7
  obtain ⟨t23,et23,hs0_9⟩:=letk_elim hs0_8; clear hs0_8
  conv=>whnf
  refine Side.mk chs0_8 ?_
  conv=>whnf
  refine Nm.mk ⟨t23,et23,?_⟩
  obtain ⟨chs0_10,hs0_10⟩:=chk_elim hs0_9; clear hs0_9
  obtain ⟨t25,et25,hs0_11⟩:=letk_elim hs0_10; clear hs0_10
  conv=>whnf
  refine Side.mk chs0_10 ?_
  conv=>whnf
  refine Nm.mk ⟨t25,et25,?_⟩
  exact BackS.by ⟨_,hl1 _ (Option.some.inj hs0_11).symm,rfl⟩ (Sees.e ⟨.s,.s,trivial⟩)
noncomputable def Src.WriteNew (l0:List api.Line):Option (ByteArray × Int) :=
  Option.bind (Src.write l0 Src.WriteNew_1) fun (t5_0,t5_1) =>
  some (t5_0,t5_1)
theorem Src.WriteNew_ok {l0:List api.Line} {r:ByteArray × Int} (h0:Src.WriteNew l0 = some r):Gives Tryz.prog 13 [.vs 3 (l0.map (api.Line.enc))] (.tup [.lit (.string r.1),.lit (.int .i64 r.2)]):=by
  unfold Src.WriteNew at h0
  refine ACalls.of_swp Tryz.func13 rfl (by decide) rfl (st0:=⟨8,[(0,.vs 3 (l0.map (api.Line.enc)))],[]⟩) rfl (bwp_ok (C:=[]) ?_)
  obtain ⟨⟨t5_0,t5_1⟩,et5,h1⟩:=bind_elim h0; clear h0
  conv=>whnf
  refine Gate.go ?_
  conv=>whnf
  refine CallN.by (v:=.tup [.lit (.string t5_0),.lit (.int .i64 t5_1)]) (Src.write_ok (show List.all [] pureQ.pureQ0 = true from rfl) (fun _ r h=>Src.WriteNew_1_ok h) et5) rfl rfl ?_
  have eh1_0:=Option.some.inj h1
  subst eh1_0
  conv=>whnf
  exact Returns.pure (r:=.tup [.lit (.string t5_0),.lit (.int .i64 t5_1)]) rfl rfl rfl rfl ⟨rfl,rfl⟩
structure Rec41 where
  f41:Int → Option ByteArray
structure Rec41.Ok (R:Rec41):Prop where
  f41_ok:∀ {n0:Int} {r:ByteArray},R.f41 n0 = some r → Gives Tryz.prog 41 [.lit (.int .i64 n0)] (.lit (.string r))
noncomputable def Src.WriteOld_1.s0 (out4:ByteArray) (s5:ByteArray):Option ((ByteArray × ByteArray) ⊕ ByteArray) :=
  letk ((s5.size:Int)) fun t21 =>
  letk (decide (t21 > (66:Int))) fun t22 =>
  bif t22 then
    chk (0 ≤ (66:Int) ∧ (66:Int) ≤ (s5.size:Int)) <|
    letk (s5.extract 0 ((66:Int).toNat)) fun t25 =>
    chk (((t25.size + (⟨#[10,32,32,32,32,32,38]⟩:ByteArray).size:Nat):Int) ≤ 9223372036854775807) <|
    letk (t25 ++ (⟨#[10,32,32,32,32,32,38]⟩:ByteArray)) fun t26 =>
    chk (((out4.size + t26.size:Nat):Int) ≤ 9223372036854775807) <|
    letk (out4 ++ t26) fun t27 =>
    chk (0 ≤ (66:Int) ∧ (66:Int) ≤ (s5.size:Int)) <|
    letk (s5.extract (66:Int).toNat s5.size) fun t29 =>
    some (.inl (t27,t29))
  else
    ((
    chk (((out4.size + s5.size:Nat):Int) ≤ 9223372036854775807) <|
    letk (out4 ++ s5) fun t32 =>
    chk (((t32.size + (⟨#[10]⟩:ByteArray).size:Nat):Int) ≤ 9223372036854775807) <|
    letk (t32 ++ (⟨#[10]⟩:ByteArray)) fun t33 =>
    some t33)).map .inr
noncomputable def Src.WriteOld_1.l0 (out4:ByteArray) (s5:ByteArray):Option ByteArray:=loopO (fun v:ByteArray × ByteArray=>Src.WriteOld_1.s0 v.1 v.2) (out4,s5)
noncomputable def Src.WriteOld_1.j0 (x1_0:Int) (x1_1:ByteArray) (x1_2:Int) (label3:ByteArray):Option ByteArray :=
  letk ((label3.size:Int)) fun t14 =>
  letk (IntKind.i64.wrap ((6:Int) - t14)) fun t15 =>
  Option.bind (Strs.Repeat ⟨#[32]⟩ t15) fun t16 =>
  chk (((label3.size + t16.size:Nat):Int) ≤ 9223372036854775807) <|
  letk (label3 ++ t16) fun t17 =>
  Src.WriteOld_1.l0 t17 x1_1
noncomputable def Src.WriteOld_1 (x0:api.Line):Option ByteArray :=
  letk (decide (x0.Label > (0:Int))) fun t8 =>
  bif t8 then
    Option.bind (Strconv.Itoa x0.Label) fun t11 =>
    Src.WriteOld_1.j0 x0.Label x0.Text x0.At t11
  else
    Src.WriteOld_1.j0 x0.Label x0.Text x0.At (⟨#[]⟩)
theorem Src.WriteOld_1_ok {x0:api.Line} {r:ByteArray} (h0:Src.WriteOld_1 x0 = some r):Gives Tryz.prog 42 [api.Line.enc x0] (.lit (.string r)):=by
  unfold Src.WriteOld_1 at h0
  refine ACalls.of_swp Tryz.func42 rfl (by decide) rfl (st0:=⟨34,[(0,api.Line.enc x0)],[]⟩) rfl (bwp_ok (C:=[(0,4)]) ?_)
  conv=>whnf
  refine Nm.mk ⟨[.lit (.int .i64 x0.Label),.lit (.string x0.Text),.lit (.int .i64 x0.At)],rfl,?_⟩
  conv=>whnf
  refine CutN.of (fun s=>∃ (x1_0:Int) (x1_1:ByteArray) (x1_2:Int) (label3:ByteArray),Src.WriteOld_1.j0 x1_0 x1_1 x1_2 label3 = some r ∧ s = (⟨34,[(1,.ptr 0 0),(3,.lit (.string label3))],[.box [.lit (.int .i64 x1_0),.lit (.string x1_1),.lit (.int .i64 x1_2)]]⟩:St)) ?_ ?_
  · obtain ⟨t8,et8,h1⟩:=letk_elim h0; clear h0
    conv=>whnf
    refine Nm.mk ⟨t8,et8,?_⟩
    rcases t8 with _ | _
    · have h2:=bif_f h1
      clear h1
      exact BackS.by ⟨_,_,_,_,h2,rfl⟩ (Sees.of (Weak.objs (keep:=[0]) (frz:=[]) (m:=0) rfl (by decide) rfl rfl ⟨⟨_,rfl,WO.boxs ⟨.s,.s,.s,trivial⟩⟩,⟨rfl,fun _ h=>by cases h⟩⟩ ⟨(.ptr _ _ 0 rfl),.s,trivial⟩))
    have h2:=bif_t h1
    clear h1
    obtain ⟨t11,et11,h3⟩:=bind_elim h2; clear h2
    conv=>whnf
    refine Gate.go ?_
    conv=>whnf
    refine CallN.by (v:=.lit (.string t11)) (Strconv.Itoa_ok et11) rfl rfl ?_
    exact BackS.by ⟨_,_,_,_,h3,rfl⟩ (Sees.of (Weak.objs (keep:=[0]) (frz:=[]) (m:=0) rfl (by decide) rfl rfl ⟨⟨_,rfl,WO.boxs ⟨.s,.s,.s,trivial⟩⟩,⟨rfl,fun _ h=>by cases h⟩⟩ ⟨(.ptr _ _ 0 rfl),.s,trivial⟩))
  clear h0
  rintro s ⟨x1_0,x1_1,x1_2,label3,hj0,rfl⟩
  unfold Src.WriteOld_1.j0 at hj0
  obtain ⟨t14,et14,hj1⟩:=letk_elim hj0; clear hj0
  conv=>whnf
  refine Nm.mk ⟨t14,et14,?_⟩
  obtain ⟨t15,et15,hj2⟩:=letk_elim hj1; clear hj1
  conv=>whnf
  refine Nm.mk ⟨t15,et15,?_⟩
  obtain ⟨t16,et16,hj3⟩:=bind_elim hj2; clear hj2
  conv=>whnf
  refine Gate.go ?_
  conv=>whnf
  refine CallN.by (v:=.lit (.string t16)) (Strs.Repeat_ok et16) rfl rfl ?_
  obtain ⟨chj4,hj4⟩:=chk_elim hj3; clear hj3
  obtain ⟨t17,et17,hj5⟩:=letk_elim hj4; clear hj4
  conv=>whnf
  refine Side.mk chj4 ?_
  conv=>whnf
  refine Nm.mk ⟨t17,et17,?_⟩
  conv=>whnf
  unfold Src.WriteOld_1.l0 at hj5
  refine LoopB.of (σ:=ByteArray × ByteArray) (ρ:=ByteArray) (fun v:ByteArray × ByteArray=>Src.WriteOld_1.s0 v.1 v.2) (fun v=>(⟨34,[(4,.lit (.string v.1)),(5,.lit (.string v.2))],[]⟩:St)) (t17,x1_1) hj5 (BackS.by rfl (Sees.e ⟨.s,.s,trivial⟩)) ?_
  clear hj5
  rintro K1 ⟨out4,s5⟩ x1 hs0_0 hl1 hr1
  replace hs0_0:Src.WriteOld_1.s0 out4 s5 = some x1:=hs0_0
  unfold Src.WriteOld_1.s0 at hs0_0
  change bwp _ _ _ _ _ (⟨34,[(4,.lit (.string out4)),(5,.lit (.string s5))],[]⟩:St)
  obtain ⟨t21,et21,hs0_1⟩:=letk_elim hs0_0; clear hs0_0
  conv=>whnf
  refine Nm.mk ⟨t21,et21,?_⟩
  obtain ⟨t22,et22,hs0_2⟩:=letk_elim hs0_1; clear hs0_1
  conv=>whnf
  refine Nm.mk ⟨t22,et22,?_⟩
  rcases t22 with _ | _
  · have hs0_3:=bif_f hs0_2
    clear hs0_2
    obtain ⟨yhs0_3_0,hs0_3u,ehs0_3_0⟩:=map_elim hs0_3
    have ehs0_3_0:=(hr1 _ ehs0_3_0.symm).symm
    subst ehs0_3_0
    obtain ⟨chs0_3u0,hs0_3u0⟩:=chk_elim hs0_3u; clear hs0_3u
    obtain ⟨t32,et32,hs0_3u1⟩:=letk_elim hs0_3u0; clear hs0_3u0
    conv=>whnf
    refine Side.mk chs0_3u0 ?_
    conv=>whnf
    refine Nm.mk ⟨t32,et32,?_⟩
    obtain ⟨chs0_3u2,hs0_3u2⟩:=chk_elim hs0_3u1; clear hs0_3u1
    obtain ⟨t33,et33,hs0_3u3⟩:=letk_elim hs0_3u2; clear hs0_3u2
    conv=>whnf
    refine Side.mk chs0_3u2 ?_
    conv=>whnf
    refine Nm.mk ⟨t33,et33,?_⟩
    have ehs0_3u3_0:=Option.some.inj hs0_3u3
    subst ehs0_3u3_0
    conv=>whnf
    exact Returns.pure (r:=.lit (.string t33)) rfl rfl rfl rfl ⟨rfl,rfl⟩
  have hs0_3:=bif_t hs0_2
  clear hs0_2
  obtain ⟨chs0_4,hs0_4⟩:=chk_elim hs0_3; clear hs0_3
  obtain ⟨t25,et25,hs0_5⟩:=letk_elim hs0_4; clear hs0_4
  conv=>whnf
  refine Side.mk chs0_4 ?_
  conv=>whnf
  refine Nm.mk ⟨t25,et25,?_⟩
  obtain ⟨chs0_6,hs0_6⟩:=chk_elim hs0_5; clear hs0_5
  obtain ⟨t26,et26,hs0_7⟩:=letk_elim hs0_6; clear hs0_6
  conv=>whnf
  refine Side.mk chs0_6 ?_
  conv=>whnf
  refine Nm.mk ⟨t26,et26,?_⟩
  obtain ⟨chs0_8,hs0_8⟩:=chk_elim hs0_7; clear hs0_7
  obtain ⟨t27,et27,hs0_9⟩:=letk_elim hs0_8; clear hs0_8
  conv=>whnf
  refine Side.mk chs0_8 ?_
  conv=>whnf
  refine Nm.mk ⟨t27,et27,?_⟩
  obtain ⟨chs0_10,hs0_10⟩:=chk_elim hs0_9; clear hs0_9
  obtain ⟨t29,et29,hs0_11⟩:=letk_elim hs0_10; clear hs0_10
  conv=>whnf
  refine Side.mk chs0_10 ?_
  conv=>whnf
  refine Nm.mk ⟨t29,et29,?_⟩
  exact BackS.by ⟨_,hl1 _ (Option.some.inj hs0_11).symm,rfl⟩ (Sees.e ⟨.s,.s,trivial⟩)
noncomputable def Src.WriteOld (l0:List api.Line):Option (ByteArray × Int) :=
  Option.bind (Src.write l0 Src.WriteOld_1) fun (t5_0,t5_1) =>
  some (t5_0,t5_1)
theorem Src.WriteOld_ok {l0:List api.Line} {r:ByteArray × Int} (h0:Src.WriteOld l0 = some r):Gives Tryz.prog 15 [.vs 3 (l0.map (api.Line.enc))] (.tup [.lit (.string r.1),.lit (.int .i64 r.2)]):=by
  unfold Src.WriteOld at h0
  refine ACalls.of_swp Tryz.func15 rfl (by decide) rfl (st0:=⟨8,[(0,.vs 3 (l0.map (api.Line.enc)))],[]⟩) rfl (bwp_ok (C:=[]) ?_)
  obtain ⟨⟨t5_0,t5_1⟩,et5,h1⟩:=bind_elim h0; clear h0
  conv=>whnf
  refine Gate.go ?_
  conv=>whnf
  refine CallN.by (v:=.tup [.lit (.string t5_0),.lit (.int .i64 t5_1)]) (Src.write_ok (show List.all [] pureQ.pureQ0 = true from rfl) (fun _ r h=>Src.WriteOld_1_ok h) et5) rfl rfl ?_
  have eh1_0:=Option.some.inj h1
  subst eh1_0
  conv=>whnf
  exact Returns.pure (r:=.tup [.lit (.string t5_0),.lit (.int .i64 t5_1)]) rfl rfl rfl rfl ⟨rfl,rfl⟩
noncomputable def Law3.FormBack.j0 (l0:List api.Line):Option Bool :=
  Option.bind (Src.WriteOld l0) fun (t38_0,t38_1) =>
  letk (t38_1 == (0:Int)) fun t42 =>
  bif t42 then
    Option.bind (Src.Old t38_0) fun (t45_0,t45_1,t45_2) =>
    letk (t45_2 != (0:Int)) fun t50 =>
    bif t50 then
      some false
    else
      Option.bind (Ref3.SameLines l0 t45_0 false) fun t54 =>
      letk (!t54) fun t55 =>
      bif t55 then
        some false
      else
        Option.bind (Law3.Awake) fun t57_1 =>
        some t57_1
  else
    Option.bind (Law3.Awake) fun t57 =>
    some t57
noncomputable def Law3.FormBack (l0:List api.Line):Option Bool :=
  Option.bind (Law3.isLong l0) fun t13 =>
  bif t13 then
    Option.bind (Law3.Awake) fun t14 =>
    some t14
  else
    Option.bind (Src.WriteNew l0) fun (t17_0,t17_1) =>
    letk (t17_1 == (0:Int)) fun t21 =>
    bif t21 then
      Option.bind (Src.New t17_0) fun (t24_0,t24_1,t24_2) =>
      letk (t24_2 != (0:Int)) fun t29 =>
      bif t29 then
        some false
      else
        Option.bind (Ref3.SameLines l0 t24_0 false) fun t33 =>
        letk (!t33) fun t34 =>
        bif t34 then
          some false
        else
          Law3.FormBack.j0 l0
    else
      Law3.FormBack.j0 l0
theorem Law3.FormBack_ok {l0:List api.Line} {r:Bool} (h0:Law3.FormBack l0 = some r):Gives Tryz.prog 7 [.vs 3 (l0.map (api.Line.enc))] (.lit (.bool r)):=by
  unfold Law3.FormBack at h0
  refine ACalls.of_swp Tryz.func7 rfl (by decide) rfl (st0:=⟨58,[(0,.vs 3 (l0.map (api.Line.enc)))],[]⟩) rfl (bwp_ok (C:=[(0,8)]) ?_)
  obtain ⟨t13,et13,h1⟩:=bind_elim h0; clear h0
  conv=>whnf
  refine Gate.go ?_
  conv=>whnf
  refine CallN.by (v:=.lit (.bool t13)) (Law3.isLong_ok et13) rfl rfl ?_
  rcases t13 with _ | _
  · have h2:=bif_f h1
    clear h1
    obtain ⟨⟨t17_0,t17_1⟩,et17,h3⟩:=bind_elim h2; clear h2
    conv=>whnf
    refine Gate.go ?_
    conv=>whnf
    refine CallN.by (v:=.tup [.lit (.string t17_0),.lit (.int .i64 t17_1)]) (Src.WriteNew_ok et17) rfl rfl ?_
    conv=>whnf
    refine CutN.of (fun s=>Law3.FormBack.j0 l0 = some r ∧ s = (⟨58,[(0,.vs 3 (l0.map (api.Line.enc)))],[]⟩:St)) ?_ ?_
    · obtain ⟨t21,et21,h4⟩:=letk_elim h3; clear h3
      conv=>whnf
      refine Nm.mk ⟨t21,et21,?_⟩
      rcases t21 with _ | _
      · have h5:=bif_f h4
        clear h4
        exact BackS.by ⟨h5,rfl⟩ (Sees.e ⟨.s,trivial⟩)
      have h5:=bif_t h4
      clear h4
      obtain ⟨⟨t24_0,t24_1,t24_2⟩,et24,h6⟩:=bind_elim h5; clear h5
      conv=>whnf
      refine Gate.go ?_
      conv=>whnf
      refine CallN.by (v:=.tup [.vs 3 (t24_0.map (api.Line.enc)),.lit (.int .i64 t24_1),.lit (.int .i64 t24_2)]) (Src.New_ok et24) rfl rfl ?_
      obtain ⟨t29,et29,h7⟩:=letk_elim h6; clear h6
      conv=>whnf
      refine Nm.mk ⟨t29,et29,?_⟩
      rcases t29 with _ | _
      · have h8:=bif_f h7
        clear h7
        obtain ⟨t33,et33,h9⟩:=bind_elim h8; clear h8
        conv=>whnf
        refine Gate.go ?_
        conv=>whnf
        refine CallN.by (v:=.lit (.bool t33)) (Ref3.SameLines_ok et33) rfl rfl ?_
        obtain ⟨t34,et34,h10⟩:=letk_elim h9; clear h9
        conv=>whnf
        refine Nm.mk ⟨t34,et34,?_⟩
        rcases t34 with _ | _
        · have h11:=bif_f h10
          clear h10
          exact BackS.by ⟨h11,rfl⟩ (Sees.e ⟨.s,trivial⟩)
        have h11:=bif_t h10
        clear h10
        have eh11_0:=Option.some.inj h11
        subst eh11_0
        conv=>whnf
        exact Returns.pure (r:=.lit (.bool false)) rfl rfl rfl rfl ⟨rfl,rfl⟩
      have h8:=bif_t h7
      clear h7
      have eh8_0:=Option.some.inj h8
      subst eh8_0
      conv=>whnf
      exact Returns.pure (r:=.lit (.bool false)) rfl rfl rfl rfl ⟨rfl,rfl⟩
    clear h3
    rintro s ⟨hj0,rfl⟩
    unfold Law3.FormBack.j0 at hj0
    obtain ⟨⟨t38_0,t38_1⟩,et38,hj1⟩:=bind_elim hj0; clear hj0
    conv=>whnf
    refine Gate.go ?_
    conv=>whnf
    refine CallN.by (v:=.tup [.lit (.string t38_0),.lit (.int .i64 t38_1)]) (Src.WriteOld_ok et38) rfl rfl ?_
    obtain ⟨t42,et42,hj2⟩:=letk_elim hj1; clear hj1
    conv=>whnf
    refine Nm.mk ⟨t42,et42,?_⟩
    rcases t42 with _ | _
    · have hj3:=bif_f hj2
      clear hj2
      obtain ⟨t57,et57,hj4⟩:=bind_elim hj3; clear hj3
      conv=>whnf
      refine Gate.go ?_
      conv=>whnf
      refine CallN.by (v:=.lit (.bool t57)) (Law3.Awake_ok et57) rfl rfl ?_
      have ehj4_0:=Option.some.inj hj4
      subst ehj4_0
      conv=>whnf
      exact Returns.pure (r:=.lit (.bool t57)) rfl rfl rfl rfl ⟨rfl,rfl⟩
    have hj3:=bif_t hj2
    clear hj2
    obtain ⟨⟨t45_0,t45_1,t45_2⟩,et45,hj4⟩:=bind_elim hj3; clear hj3
    conv=>whnf
    refine Gate.go ?_
    conv=>whnf
    refine CallN.by (v:=.tup [.vs 3 (t45_0.map (api.Line.enc)),.lit (.int .i64 t45_1),.lit (.int .i64 t45_2)]) (Src.Old_ok et45) rfl rfl ?_
    obtain ⟨t50,et50,hj5⟩:=letk_elim hj4; clear hj4
    conv=>whnf
    refine Nm.mk ⟨t50,et50,?_⟩
    rcases t50 with _ | _
    · have hj6:=bif_f hj5
      clear hj5
      obtain ⟨t54,et54,hj7⟩:=bind_elim hj6; clear hj6
      conv=>whnf
      refine Gate.go ?_
      conv=>whnf
      refine CallN.by (v:=.lit (.bool t54)) (Ref3.SameLines_ok et54) rfl rfl ?_
      obtain ⟨t55,et55,hj8⟩:=letk_elim hj7; clear hj7
      conv=>whnf
      refine Nm.mk ⟨t55,et55,?_⟩
      rcases t55 with _ | _
      · have hj9:=bif_f hj8
        clear hj8
        obtain ⟨t57_1,et57_1,hj10⟩:=bind_elim hj9; clear hj9
        conv=>whnf
        refine Gate.go ?_
        conv=>whnf
        refine CallN.by (v:=.lit (.bool t57_1)) (Law3.Awake_ok et57_1) rfl rfl ?_
        have ehj10_0:=Option.some.inj hj10
        subst ehj10_0
        conv=>whnf
        exact Returns.pure (r:=.lit (.bool t57_1)) rfl rfl rfl rfl ⟨rfl,rfl⟩
      have hj9:=bif_t hj8
      clear hj8
      have ehj9_0:=Option.some.inj hj9
      subst ehj9_0
      conv=>whnf
      exact Returns.pure (r:=.lit (.bool false)) rfl rfl rfl rfl ⟨rfl,rfl⟩
    have hj6:=bif_t hj5
    clear hj5
    have ehj6_0:=Option.some.inj hj6
    subst ehj6_0
    conv=>whnf
    exact Returns.pure (r:=.lit (.bool false)) rfl rfl rfl rfl ⟨rfl,rfl⟩
  have h2:=bif_t h1
  clear h1
  obtain ⟨t14,et14,h3⟩:=bind_elim h2; clear h2
  conv=>whnf
  refine Gate.go ?_
  conv=>whnf
  refine CallN.by (v:=.lit (.bool t14)) (Law3.Awake_ok et14) rfl rfl ?_
  have eh3_0:=Option.some.inj h3
  subst eh3_0
  conv=>whnf
  exact Returns.pure (r:=.lit (.bool t14)) rfl rfl rfl rfl ⟨rfl,rfl⟩
end Go.Q
