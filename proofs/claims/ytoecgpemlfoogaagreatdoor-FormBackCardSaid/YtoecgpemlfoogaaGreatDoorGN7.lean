import Derived.Test.YtoecgpemlfoogaaGreatDoorGN6
import Derived.Test.YtoecgpemlfoogaaGreatDoorFX
import Derived.Test.YtoecgpemlfoogaaGreatDoorProg
namespace Go.Q
open Go Go.Proofs
set_option maxRecDepth 10000
set_option maxHeartbeats 2000000
noncomputable def Src.reader.fresh.j1 (at1 t18_1:Int) (r0_0_2:List api.Line) (r0_1_2 r0_3_2 r0_4_2:Int) (r0_5_2:ByteArray) (r0_6_2:Int) (r0_2_3:Bool) (s2_3:ByteArray):Option (((List api.Line) × Int × Bool × Int × Int × ByteArray × Int × ByteArray) ⊕ ((List api.Line) × Int × Bool × Int × Int × ByteArray × Int × Bool)) :=
  Option.bind (Strs.TrimRight s2_3 ⟨#[32]⟩) fun t50 =>
  Option.bind (Strs.CutSuffix t50 ⟨#[38]⟩) fun (t53_0,t53_1) =>
  bif t53_1 then
    Option.bind (Src.reader.put r0_0_2 r0_1_2 r0_2_3 r0_3_2 r0_4_2 r0_5_2 r0_6_2 at1 t53_0) fun (o_0_2,o_1_2,o_2_2,o_3_2,o_4_2,o_5_2,_) =>
    some (.inr (o_0_2,o_1_2,o_2_2,o_3_2,o_4_2,o_5_2,t18_1,true))
  else
    Option.bind (Src.reader.put r0_0_2 r0_1_2 r0_2_3 r0_3_2 r0_4_2 r0_5_2 r0_6_2 at1 s2_3) fun (o_0,o_1,o_2,o_3,o_4,o_5,_) =>
    Option.bind (Src.reader.over_ o_0 o_1 o_2 o_3 o_4 o_5 t18_1) fun (o_0_1,o_1_1,o_2_1,o_3_1,o_4_1,o_5_1,o_6_1) =>
    some (.inr (o_0_1,o_1_1,o_2_1,o_3_1,o_4_1,o_5_1,o_6_1,false))
noncomputable def Src.reader.fresh.j0 (at1 t18_0 t18_1:Int) (r0_0_2:List api.Line) (r0_1_2:Int) (r0_2_2:Bool) (r0_3_2 r0_4_2:Int) (r0_5_2:ByteArray) (r0_6_2:Int) (s2_2:ByteArray):Option (((List api.Line) × Int × Bool × Int × Int × ByteArray × Int × ByteArray) ⊕ ((List api.Line) × Int × Bool × Int × Int × ByteArray × Int × Bool)) :=
  letk (decide (t18_0 ≥ (0:Int))) fun t45 =>
  bif t45 then
    chk (0 ≤ t18_0 ∧ t18_0 ≤ (s2_2.size:Int)) <|
    letk (s2_2.extract 0 t18_0.toNat) fun t48 =>
    Src.reader.fresh.j1 at1 t18_1 r0_0_2 r0_1_2 r0_3_2 r0_4_2 r0_5_2 r0_6_2 r0_2_2 t48
  else
    Src.reader.fresh.j1 at1 t18_1 r0_0_2 r0_1_2 r0_3_2 r0_4_2 r0_5_2 r0_6_2 r0_2_2 s2_2
noncomputable def Src.reader.fresh.j2 (at1:Int) (r0_0_1:List api.Line) (r0_1_1 r0_3_1 r0_4_1:Int) (r0_5_1:ByteArray) (r0_6_1:Int) (s2_1:ByteArray) (t18_0 t18_1:Int) (r0_2_4 t28:Bool):Option (((List api.Line) × Int × Bool × Int × Int × ByteArray × Int × ByteArray) ⊕ ((List api.Line) × Int × Bool × Int × Int × ByteArray × Int × Bool)) :=
  bif t28 then
    chk (0 ≤ t18_0 ∧ t18_0 ≤ (s2_1.size:Int)) <|
    letk (s2_1.extract 0 t18_0.toNat) fun t33 =>
    Option.bind (Src.reader.put r0_0_1 r0_1_1 r0_2_4 r0_3_1 r0_4_1 r0_5_1 r0_6_1 at1 t33) fun (o_0_3,o_1_3,o_2_3,o_3_3,o_4_3,o_5_3,_) =>
    Option.bind (Src.reader.over_ o_0_3 o_1_3 o_2_3 o_3_3 o_4_3 o_5_3 0) fun (o_0_4,o_1_4,o_2_4,o_3_4,o_4_4,o_5_4,o_6_4) =>
    letk (IntKind.i64.wrap (t18_0 + (1:Int))) fun t42 =>
    chk (0 ≤ t42 ∧ t42 ≤ (s2_1.size:Int)) <|
    letk (s2_1.extract t42.toNat s2_1.size) fun t43 =>
    some (.inl (o_0_4,o_1_4,o_2_4,o_3_4,o_4_4,o_5_4,o_6_4,t43))
  else
    Src.reader.fresh.j0 at1 t18_0 t18_1 r0_0_1 r0_1_1 r0_2_4 r0_3_1 r0_4_1 r0_5_1 r0_6_1 s2_1
noncomputable def Src.reader.fresh.s0 (at1:Int) (r0_0_1:List api.Line) (r0_1_1:Int) (r0_2_1:Bool) (r0_3_1 r0_4_1:Int) (r0_5_1:ByteArray) (r0_6_1:Int) (s2_1:ByteArray):Option (((List api.Line) × Int × Bool × Int × Int × ByteArray × Int × ByteArray) ⊕ ((List api.Line) × Int × Bool × Int × Int × ByteArray × Int × Bool)) :=
  Option.bind (Src.find s2_1 ⟨#[59,33]⟩ r0_6_1) fun (t18_0,t18_1) =>
  letk (decide (t18_0 ≥ (0:Int))) fun t22 =>
  bif t22 then
    chk (0 ≤ t18_0 ∧ t18_0 < (s2_1.size:Int)) <|
    letk (bt s2_1 t18_0) fun t26 =>
    letk (t26 == (59:Int)) fun t27 =>
    Src.reader.fresh.j2 at1 r0_0_1 r0_1_1 r0_3_1 r0_4_1 r0_5_1 r0_6_1 s2_1 t18_0 t18_1 r0_2_1 t27
  else
    Src.reader.fresh.j2 at1 r0_0_1 r0_1_1 r0_3_1 r0_4_1 r0_5_1 r0_6_1 s2_1 t18_0 t18_1 r0_2_1 false
noncomputable def Src.reader.fresh.l0 (at1:Int) (r0_0_1:List api.Line) (r0_1_1:Int) (r0_2_1:Bool) (r0_3_1 r0_4_1:Int) (r0_5_1:ByteArray) (r0_6_1:Int) (s2_1:ByteArray):Option ((List api.Line) × Int × Bool × Int × Int × ByteArray × Int × Bool):=loopO (fun v:(List api.Line) × Int × Bool × Int × Int × ByteArray × Int × ByteArray=>Src.reader.fresh.s0 at1 v.1 v.2.1 v.2.2.1 v.2.2.2.1 v.2.2.2.2.1 v.2.2.2.2.2.1 v.2.2.2.2.2.2.1 v.2.2.2.2.2.2.2) (r0_0_1,r0_1_1,r0_2_1,r0_3_1,r0_4_1,r0_5_1,r0_6_1,s2_1)
theorem Src.reader.fresh.l0_eq (at1:Int) (r0_0_1:List api.Line) (r0_1_1:Int) (r0_2_1:Bool) (r0_3_1 r0_4_1:Int) (r0_5_1:ByteArray) (r0_6_1:Int) (s2_1:ByteArray):Src.reader.fresh.l0 at1 r0_0_1 r0_1_1 r0_2_1 r0_3_1 r0_4_1 r0_5_1 r0_6_1 s2_1 = (Src.reader.fresh.s0 at1 r0_0_1 r0_1_1 r0_2_1 r0_3_1 r0_4_1 r0_5_1 r0_6_1 s2_1).bind (Sum.elim (fun v=>Src.reader.fresh.l0 at1 v.1 v.2.1 v.2.2.1 v.2.2.2.1 v.2.2.2.2.1 v.2.2.2.2.2.1 v.2.2.2.2.2.2.1 v.2.2.2.2.2.2.2) some):=loopO_eq _ _
noncomputable def Src.reader.fresh (r0_0:List api.Line) (r0_1:Int) (r0_2:Bool) (r0_3 r0_4:Int) (r0_5:ByteArray) (r0_6 at1:Int) (s2:ByteArray):Option ((List api.Line) × Int × Bool × Int × Int × ByteArray × Int × Bool) :=
  Src.reader.fresh.l0 at1 r0_0 r0_1 r0_2 r0_3 r0_4 r0_5 r0_6 s2
theorem Src.reader.fresh_ok {r0_0:List api.Line} {r0_1:Int} {r0_2:Bool} {r0_3 r0_4:Int} {r0_5:ByteArray} {r0_6 at1:Int} {s2:ByteArray} {r:(List api.Line) × Int × Bool × Int × Int × ByteArray × Int × Bool} (h0:Src.reader.fresh r0_0 r0_1 r0_2 r0_3 r0_4 r0_5 r0_6 at1 s2 = some r):GivesK Tryz.prog 48 [.ptr 0 0,J at1,.lit (.string s2)] [.box [.ref 1 0 ((r0_0.map (api.Line.enc)).length),J r0_1,.lit (.bool r0_2),J r0_3,J r0_4,.lit (.string r0_5),.lit (.int .u8 r0_6)],.arr 3 (r0_0.map (api.Line.enc))] 1 (.lit (.bool r.2.2.2.2.2.2.2)) [.box [.ref 1 0 ((r.1.map (api.Line.enc)).length),J r.2.1,.lit (.bool r.2.2.1),J r.2.2.2.1,J r.2.2.2.2.1,.lit (.string r.2.2.2.2.2.1),.lit (.int .u8 r.2.2.2.2.2.2.1)],.arr 3 (r.1.map (api.Line.enc))]:=by
  unfold Src.reader.fresh at h0
  refine ACallsK.of_swp Tryz.func48 rfl (by decide) rfl (st0:=⟨75,[(0,.ptr 0 0),(1,J at1),(2,.lit (.string s2))],[.box [.ref 1 0 ((r0_0.map (api.Line.enc)).length),J r0_1,.lit (.bool r0_2),J r0_3,J r0_4,.lit (.string r0_5),.lit (.int .u8 r0_6)],.arr 3 (r0_0.map (api.Line.enc))]⟩) rfl rfl (bwp_ok (C:=[(0,7),(0,9),(38,7)]) ?_)
  conv=>whnf
  unfold Src.reader.fresh.l0 at h0
  refine LoopB.of (σ:=(List api.Line) × Int × Bool × Int × Int × ByteArray × Int × ByteArray) (ρ:=(List api.Line) × Int × Bool × Int × Int × ByteArray × Int × Bool) (fun v:(List api.Line) × Int × Bool × Int × Int × ByteArray × Int × ByteArray=>Src.reader.fresh.s0 at1 v.1 v.2.1 v.2.2.1 v.2.2.2.1 v.2.2.2.2.1 v.2.2.2.2.2.1 v.2.2.2.2.2.2.1 v.2.2.2.2.2.2.2) (fun v=>(⟨75,[(0,.ptr 0 0),(1,J at1),(2,.lit (.string v.2.2.2.2.2.2.2))],[.box [.ref 1 0 ((v.1.map (api.Line.enc)).length),J v.2.1,.lit (.bool v.2.2.1),J v.2.2.2.1,J v.2.2.2.2.1,.lit (.string v.2.2.2.2.2.1),.lit (.int .u8 v.2.2.2.2.2.2.1)],.arr 3 (v.1.map (api.Line.enc))]⟩:St)) (r0_0,r0_1,r0_2,r0_3,r0_4,r0_5,r0_6,s2) h0 (BackS.of (Sees.of (Weak.objs (keep:=[0,1]) (frz:=[]) (m:=0) (ts:=[(0,.ptr 0 0),(1,J at1),(2,.lit (.string s2))]) (hs:=[.box [.ref 1 0 ((r0_0.map (api.Line.enc)).length),J r0_1,.lit (.bool r0_2),J r0_3,J r0_4,.lit (.string r0_5),.lit (.int .u8 r0_6)],.arr 3 (r0_0.map (api.Line.enc))]) rfl (by decide) rfl rfl ⟨⟨_,rfl,WO.boxs ⟨(.ref _ _ _ 1 rfl),(.same (J r0_1) rfl),(.same (.lit (.bool r0_2)) rfl),(.same (J r0_3) rfl),(.same (J r0_4) rfl),(.same (.lit (.string r0_5)) rfl),(.same (.lit (.int .u8 r0_6)) rfl),trivial⟩⟩,⟨⟨_,rfl,.arr _ _⟩,⟨rfl,fun _ h=>by cases h⟩⟩⟩ ⟨(.ptr _ _ 0 rfl),(.same (J at1) rfl),(.same (.lit (.string s2)) rfl),trivial⟩)) rfl) ?_
  rintro _ ⟨r0_0_1,r0_1_1,r0_2_1,r0_3_1,r0_4_1,r0_5_1,r0_6_1,s2_1⟩ x1 hs0_0 hl1 hr1
  replace hs0_0:Src.reader.fresh.s0 at1 r0_0_1 r0_1_1 r0_2_1 r0_3_1 r0_4_1 r0_5_1 r0_6_1 s2_1 = some x1:=hs0_0
  unfold Src.reader.fresh.s0 at hs0_0
  change bwp _ _ _ _ _ (⟨75,[(0,.ptr 0 0),(1,J at1),(2,.lit (.string s2_1))],[.box [.ref 1 0 ((r0_0_1.map (api.Line.enc)).length),J r0_1_1,.lit (.bool r0_2_1),J r0_3_1,J r0_4_1,.lit (.string r0_5_1),.lit (.int .u8 r0_6_1)],.arr 3 (r0_0_1.map (api.Line.enc))]⟩:St)
  obtain ⟨⟨t18_0,t18_1⟩,et18,hs0_1⟩:=bind_elim hs0_0
  conv=>whnf
  refine Gate.go ?_
  conv=>whnf
  refine CallN.by (v:=.tup [J t18_0,.lit (.int .u8 t18_1)]) (Src.find_ok et18) rfl rfl ?_
  conv=>whnf
  refine CutN.of (fun s=>∃ (r0_0_2:List api.Line) (r0_1_2:Int) (r0_2_2:Bool) (r0_3_2 r0_4_2:Int) (r0_5_2:ByteArray) (r0_6_2:Int) (s2_2:ByteArray),Src.reader.fresh.j0 at1 t18_0 t18_1 r0_0_2 r0_1_2 r0_2_2 r0_3_2 r0_4_2 r0_5_2 r0_6_2 s2_2 = some x1 ∧ s = (⟨75,[(0,.ptr 0 0),(1,J at1),(2,.lit (.string s2_2)),(7,J t18_0),(8,.lit (.int .u8 t18_1))],[.box [.ref 1 0 ((r0_0_2.map (api.Line.enc)).length),J r0_1_2,.lit (.bool r0_2_2),J r0_3_2,J r0_4_2,.lit (.string r0_5_2),.lit (.int .u8 r0_6_2)],.arr 3 (r0_0_2.map (api.Line.enc))]⟩:St)) ?_ ?_
  · conv=>whnf
    refine CutN.of (fun s=>∃ (r0_2_4 t28:Bool),Src.reader.fresh.j2 at1 r0_0_1 r0_1_1 r0_3_1 r0_4_1 r0_5_1 r0_6_1 s2_1 t18_0 t18_1 r0_2_4 t28 = some x1 ∧ s = (⟨75,[(0,.ptr 0 0),(1,J at1),(2,.lit (.string s2_1)),(7,J t18_0),(8,.lit (.int .u8 t18_1)),(28,.lit (.bool t28))],[.box [.ref 1 0 ((r0_0_1.map (api.Line.enc)).length),J r0_1_1,.lit (.bool r0_2_4),J r0_3_1,J r0_4_1,.lit (.string r0_5_1),.lit (.int .u8 r0_6_1)],.arr 3 (r0_0_1.map (api.Line.enc))]⟩:St)) ?_ ?_
    · obtain ⟨t22,et22,hs0_2⟩:=letk_elim hs0_1
      conv=>whnf
      refine Nm.mk ⟨t22,et22,?_⟩
      rcases t22 with _ | _
      · have hs0_3:=bif_f hs0_2
        exact BackS.of (Sees.of (Weak.objs (keep:=[0,1]) (frz:=[]) (m:=0) (ts:=[(0,.ptr 0 0),(1,J at1),(2,.lit (.string s2_1)),(7,J t18_0),(8,.lit (.int .u8 t18_1)),(28,.lit (.bool false))]) (hs:=[.box [.ref 1 0 ((r0_0_1.map (api.Line.enc)).length),J r0_1_1,.lit (.bool r0_2_1),J r0_3_1,J r0_4_1,.lit (.string r0_5_1),.lit (.int .u8 r0_6_1)],.arr 3 (r0_0_1.map (api.Line.enc))]) rfl (by decide) rfl rfl ⟨⟨_,rfl,WO.boxs ⟨(.ref _ _ _ 1 rfl),(.same (J r0_1_1) rfl),(.same (.lit (.bool r0_2_1)) rfl),(.same (J r0_3_1) rfl),(.same (J r0_4_1) rfl),(.same (.lit (.string r0_5_1)) rfl),(.same (.lit (.int .u8 r0_6_1)) rfl),trivial⟩⟩,⟨⟨_,rfl,.arr _ _⟩,⟨rfl,fun _ h=>by cases h⟩⟩⟩ ⟨(.ptr _ _ 0 rfl),(.same (J at1) rfl),(.same (.lit (.string s2_1)) rfl),(.same (J t18_0) rfl),(.same (.lit (.int .u8 t18_1)) rfl),(.same (.lit (.bool false)) rfl),trivial⟩)) ⟨_,_,hs0_3,rfl⟩
      · have hs0_3:=bif_t hs0_2
        obtain ⟨chs0_4,hs0_4⟩:=chk_elim hs0_3
        obtain ⟨t26,et26,hs0_5⟩:=letk_elim hs0_4
        conv=>whnf
        refine Side.mk chs0_4 ?_
        conv=>whnf
        refine Nm.mk ⟨t26,et26,?_⟩
        obtain ⟨t27,et27,hs0_6⟩:=letk_elim hs0_5
        conv=>whnf
        refine Nm.mk ⟨t27,et27,?_⟩
        exact BackS.of (Sees.of (Weak.objs (keep:=[0,1]) (frz:=[]) (m:=0) (ts:=[(0,.ptr 0 0),(1,J at1),(2,.lit (.string s2_1)),(7,J t18_0),(8,.lit (.int .u8 t18_1)),(28,.lit (.bool t27))]) (hs:=[.box [.ref 1 0 ((r0_0_1.map (api.Line.enc)).length),J r0_1_1,.lit (.bool r0_2_1),J r0_3_1,J r0_4_1,.lit (.string r0_5_1),.lit (.int .u8 r0_6_1)],.arr 3 (r0_0_1.map (api.Line.enc))]) rfl (by decide) rfl rfl ⟨⟨_,rfl,WO.boxs ⟨(.ref _ _ _ 1 rfl),(.same (J r0_1_1) rfl),(.same (.lit (.bool r0_2_1)) rfl),(.same (J r0_3_1) rfl),(.same (J r0_4_1) rfl),(.same (.lit (.string r0_5_1)) rfl),(.same (.lit (.int .u8 r0_6_1)) rfl),trivial⟩⟩,⟨⟨_,rfl,.arr _ _⟩,⟨rfl,fun _ h=>by cases h⟩⟩⟩ ⟨(.ptr _ _ 0 rfl),(.same (J at1) rfl),(.same (.lit (.string s2_1)) rfl),(.same (J t18_0) rfl),(.same (.lit (.int .u8 t18_1)) rfl),(.same (.lit (.bool t27)) rfl),trivial⟩)) ⟨_,_,hs0_6,rfl⟩
    · clear hs0_1
      rintro s ⟨r0_2_4,t28,hj0,rfl⟩
      unfold Src.reader.fresh.j2 at hj0
      rcases t28 with _ | _
      · have hj1:=bif_f hj0
        exact BackS.of (Sees.of (Weak.objs (keep:=[0,1]) (frz:=[]) (m:=0) (ts:=[(0,.ptr 0 0),(1,J at1),(2,.lit (.string s2_1)),(7,J t18_0),(8,.lit (.int .u8 t18_1))]) (hs:=[.box [.ref 1 0 ((r0_0_1.map (api.Line.enc)).length),J r0_1_1,.lit (.bool r0_2_4),J r0_3_1,J r0_4_1,.lit (.string r0_5_1),.lit (.int .u8 r0_6_1)],.arr 3 (r0_0_1.map (api.Line.enc))]) rfl (by decide) rfl rfl ⟨⟨_,rfl,WO.boxs ⟨(.ref _ _ _ 1 rfl),(.same (J r0_1_1) rfl),(.same (.lit (.bool r0_2_4)) rfl),(.same (J r0_3_1) rfl),(.same (J r0_4_1) rfl),(.same (.lit (.string r0_5_1)) rfl),(.same (.lit (.int .u8 r0_6_1)) rfl),trivial⟩⟩,⟨⟨_,rfl,.arr _ _⟩,⟨rfl,fun _ h=>by cases h⟩⟩⟩ ⟨(.ptr _ _ 0 rfl),(.same (J at1) rfl),(.same (.lit (.string s2_1)) rfl),(.same (J t18_0) rfl),(.same (.lit (.int .u8 t18_1)) rfl),trivial⟩)) ⟨_,_,_,_,_,_,_,_,hj1,rfl⟩
      · have hj1:=bif_t hj0
        obtain ⟨chj2,hj2⟩:=chk_elim hj1
        obtain ⟨t33,et33,hj3⟩:=letk_elim hj2
        conv=>whnf
        refine Side.mk chj2 ?_
        conv=>whnf
        refine Nm.mk ⟨t33,et33,?_⟩
        obtain ⟨⟨o_0_3,o_1_3,o_2_3,o_3_3,o_4_3,o_5_3,o_6_3⟩,ee_t34,hj4⟩:=bind_elim hj3
        conv=>whnf
        refine Gate.weak (Sees.of (Weak.objs (keep:=[0,1]) (frz:=[]) (m:=0) (ts:=[(0,.ptr 0 0),(1,J at1),(2,.lit (.string s2_1)),(7,J t18_0),(29,.ptr 0 0),(30,J at1),(33,.lit (.string t33))]) (hs:=[.box [.ref 1 0 ((r0_0_1.map (api.Line.enc)).length),J r0_1_1,.lit (.bool r0_2_4),J r0_3_1,J r0_4_1,.lit (.string r0_5_1),.lit (.int .u8 r0_6_1)],.arr 3 (r0_0_1.map (api.Line.enc))]) rfl (by decide) rfl rfl ⟨⟨_,rfl,WO.boxs ⟨(.ref _ _ _ 1 rfl),(.same (J r0_1_1) rfl),(.same (.lit (.bool r0_2_4)) rfl),(.same (J r0_3_1) rfl),(.same (J r0_4_1) rfl),(.same (.lit (.string r0_5_1)) rfl),(.same (.lit (.int .u8 r0_6_1)) rfl),trivial⟩⟩,⟨⟨_,rfl,.arr _ _⟩,⟨rfl,fun _ h=>by cases h⟩⟩⟩ ⟨(.ptr _ _ 0 rfl),(.same (J at1) rfl),(.same (.lit (.string s2_1)) rfl),(.same (J t18_0) rfl),(.ptr _ _ 0 rfl),(.same (J at1) rfl),(.same (.lit (.string t33)) rfl),trivial⟩)) ?_
        conv=>whnf
        refine CallN.hand (k:=1) (v:=.tup []) (hs':=[.box [.ref 1 0 ((o_0_3.map (api.Line.enc)).length),J o_1_3,.lit (.bool o_2_3),J o_3_3,J o_4_3,.lit (.string o_5_3),.lit (.int .u8 o_6_3)],.arr 3 (o_0_3.map (api.Line.enc))]) (ts':=[(0,.ptr 0 0),(1,J at1),(2,.lit (.string s2_1)),(7,J t18_0),(29,.ptr 0 0),(30,J at1),(33,.lit (.string t33))]) (Src.reader.put_ok ee_t34) rfl rfl ?_
        conv=>whnf
        refine Nm.mk ⟨[.ref 1 0 ((o_0_3.map (api.Line.enc)).length),J o_1_3,.lit (.bool o_2_3),J o_3_3,J o_4_3,.lit (.string o_5_3),.lit (.int .u8 0)],rfl,?_⟩
        obtain ⟨⟨o_0_4,o_1_4,o_2_4,o_3_4,o_4_4,o_5_4,o_6_4⟩,ee_t39,hj5⟩:=bind_elim hj4
        conv=>whnf
        refine Gate.weak (Sees.of (Weak.objs (keep:=[0,1]) (frz:=[]) (m:=0) (ts:=[(0,.ptr 0 0),(1,J at1),(2,.lit (.string s2_1)),(7,J t18_0),(38,.ptr 0 0)]) (hs:=[.box [.ref 1 0 ((o_0_3.map (api.Line.enc)).length),J o_1_3,.lit (.bool o_2_3),J o_3_3,J o_4_3,.lit (.string o_5_3),.lit (.int .u8 0)],.arr 3 (o_0_3.map (api.Line.enc))]) rfl (by decide) rfl rfl ⟨⟨_,rfl,WO.boxs ⟨(.ref _ _ _ 1 rfl),(.same (J o_1_3) rfl),(.same (.lit (.bool o_2_3)) rfl),(.same (J o_3_3) rfl),(.same (J o_4_3) rfl),(.same (.lit (.string o_5_3)) rfl),(.same (.lit (.int .u8 0)) rfl),trivial⟩⟩,⟨⟨_,rfl,.arr _ _⟩,⟨rfl,fun _ h=>by cases h⟩⟩⟩ ⟨(.ptr _ _ 0 rfl),(.same (J at1) rfl),(.same (.lit (.string s2_1)) rfl),(.same (J t18_0) rfl),(.ptr _ _ 0 rfl),trivial⟩)) ?_
        conv=>whnf
        refine CallN.hand (k:=1) (v:=.tup []) (hs':=[.box [.ref 1 0 ((o_0_4.map (api.Line.enc)).length),J o_1_4,.lit (.bool o_2_4),J o_3_4,J o_4_4,.lit (.string o_5_4),.lit (.int .u8 o_6_4)],.arr 3 (o_0_4.map (api.Line.enc))]) (ts':=[(0,.ptr 0 0),(1,J at1),(2,.lit (.string s2_1)),(7,J t18_0),(38,.ptr 0 0)]) (Src.reader.over__ok ee_t39) rfl rfl ?_
        obtain ⟨t42,et42,hj6⟩:=letk_elim hj5
        conv=>whnf
        refine Nm.mk ⟨t42,et42,?_⟩
        obtain ⟨chj7,hj7⟩:=chk_elim hj6
        obtain ⟨t43,et43,hj8⟩:=letk_elim hj7
        conv=>whnf
        refine Side.mk chj7 ?_
        conv=>whnf
        refine Nm.mk ⟨t43,et43,?_⟩
        exact BackS.of (Sees.of (Weak.objs (keep:=[0,1]) (frz:=[]) (m:=0) (ts:=[(0,.ptr 0 0),(1,J at1),(2,.lit (.string t43))]) (hs:=[.box [.ref 1 0 ((o_0_4.map (api.Line.enc)).length),J o_1_4,.lit (.bool o_2_4),J o_3_4,J o_4_4,.lit (.string o_5_4),.lit (.int .u8 o_6_4)],.arr 3 (o_0_4.map (api.Line.enc))]) rfl (by decide) rfl rfl ⟨⟨_,rfl,WO.boxs ⟨(.ref _ _ _ 1 rfl),(.same (J o_1_4) rfl),(.same (.lit (.bool o_2_4)) rfl),(.same (J o_3_4) rfl),(.same (J o_4_4) rfl),(.same (.lit (.string o_5_4)) rfl),(.same (.lit (.int .u8 o_6_4)) rfl),trivial⟩⟩,⟨⟨_,rfl,.arr _ _⟩,⟨rfl,fun _ h=>by cases h⟩⟩⟩ ⟨(.ptr _ _ 0 rfl),(.same (J at1) rfl),(.same (.lit (.string t43)) rfl),trivial⟩)) ⟨_,hl1 _ (Option.some.inj hj8).symm,rfl⟩
  · clear hs0_1
    rintro s ⟨r0_0_2,r0_1_2,r0_2_2,r0_3_2,r0_4_2,r0_5_2,r0_6_2,s2_2,hj0,rfl⟩
    unfold Src.reader.fresh.j0 at hj0
    conv=>whnf
    refine CutN.of (fun s=>∃ (r0_2_3:Bool) (s2_3:ByteArray),Src.reader.fresh.j1 at1 t18_1 r0_0_2 r0_1_2 r0_3_2 r0_4_2 r0_5_2 r0_6_2 r0_2_3 s2_3 = some x1 ∧ s = (⟨75,[(0,.ptr 0 0),(1,J at1),(2,.lit (.string s2_3)),(8,.lit (.int .u8 t18_1))],[.box [.ref 1 0 ((r0_0_2.map (api.Line.enc)).length),J r0_1_2,.lit (.bool r0_2_3),J r0_3_2,J r0_4_2,.lit (.string r0_5_2),.lit (.int .u8 r0_6_2)],.arr 3 (r0_0_2.map (api.Line.enc))]⟩:St)) ?_ ?_
    · obtain ⟨t45,et45,hj1⟩:=letk_elim hj0
      conv=>whnf
      refine Nm.mk ⟨t45,et45,?_⟩
      rcases t45 with _ | _
      · have hj2:=bif_f hj1
        exact BackS.of (Sees.of (Weak.objs (keep:=[0,1]) (frz:=[]) (m:=0) (ts:=[(0,.ptr 0 0),(1,J at1),(2,.lit (.string s2_2)),(8,.lit (.int .u8 t18_1))]) (hs:=[.box [.ref 1 0 ((r0_0_2.map (api.Line.enc)).length),J r0_1_2,.lit (.bool r0_2_2),J r0_3_2,J r0_4_2,.lit (.string r0_5_2),.lit (.int .u8 r0_6_2)],.arr 3 (r0_0_2.map (api.Line.enc))]) rfl (by decide) rfl rfl ⟨⟨_,rfl,WO.boxs ⟨(.ref _ _ _ 1 rfl),(.same (J r0_1_2) rfl),(.same (.lit (.bool r0_2_2)) rfl),(.same (J r0_3_2) rfl),(.same (J r0_4_2) rfl),(.same (.lit (.string r0_5_2)) rfl),(.same (.lit (.int .u8 r0_6_2)) rfl),trivial⟩⟩,⟨⟨_,rfl,.arr _ _⟩,⟨rfl,fun _ h=>by cases h⟩⟩⟩ ⟨(.ptr _ _ 0 rfl),(.same (J at1) rfl),(.same (.lit (.string s2_2)) rfl),(.same (.lit (.int .u8 t18_1)) rfl),trivial⟩)) ⟨_,_,hj2,rfl⟩
      · have hj2:=bif_t hj1
        obtain ⟨chj3,hj3⟩:=chk_elim hj2
        obtain ⟨t48,et48,hj4⟩:=letk_elim hj3
        conv=>whnf
        refine Side.mk chj3 ?_
        conv=>whnf
        refine Nm.mk ⟨t48,et48,?_⟩
        exact BackS.of (Sees.of (Weak.objs (keep:=[0,1]) (frz:=[]) (m:=0) (ts:=[(0,.ptr 0 0),(1,J at1),(2,.lit (.string t48)),(8,.lit (.int .u8 t18_1))]) (hs:=[.box [.ref 1 0 ((r0_0_2.map (api.Line.enc)).length),J r0_1_2,.lit (.bool r0_2_2),J r0_3_2,J r0_4_2,.lit (.string r0_5_2),.lit (.int .u8 r0_6_2)],.arr 3 (r0_0_2.map (api.Line.enc))]) rfl (by decide) rfl rfl ⟨⟨_,rfl,WO.boxs ⟨(.ref _ _ _ 1 rfl),(.same (J r0_1_2) rfl),(.same (.lit (.bool r0_2_2)) rfl),(.same (J r0_3_2) rfl),(.same (J r0_4_2) rfl),(.same (.lit (.string r0_5_2)) rfl),(.same (.lit (.int .u8 r0_6_2)) rfl),trivial⟩⟩,⟨⟨_,rfl,.arr _ _⟩,⟨rfl,fun _ h=>by cases h⟩⟩⟩ ⟨(.ptr _ _ 0 rfl),(.same (J at1) rfl),(.same (.lit (.string t48)) rfl),(.same (.lit (.int .u8 t18_1)) rfl),trivial⟩)) ⟨_,_,hj4,rfl⟩
    · clear hj0
      rintro s ⟨r0_2_3,s2_3,hj0,rfl⟩
      unfold Src.reader.fresh.j1 at hj0
      obtain ⟨t50,et50,hj1⟩:=bind_elim hj0
      conv=>whnf
      refine Gate.go ?_
      conv=>whnf
      refine CallN.by (v:=.lit (.string t50)) (Strs.TrimRight_ok et50) rfl rfl ?_
      obtain ⟨⟨t53_0,t53_1⟩,et53,hj2⟩:=bind_elim hj1
      conv=>whnf
      refine Gate.go ?_
      conv=>whnf
      refine CallN.by (v:=.tup [.lit (.string t53_0),.lit (.bool t53_1)]) (Strs.CutSuffix_ok et53) rfl rfl ?_
      rcases t53_1 with _ | _
      · have hj3:=bif_f hj2
        obtain ⟨⟨o_0,o_1,o_2,o_3,o_4,o_5,o_6⟩,ee_t68,hj4⟩:=bind_elim hj3
        conv=>whnf
        refine Gate.weak (Sees.of (Weak.objs (keep:=[0,1]) (frz:=[]) (m:=0) (ts:=[(0,.ptr 0 0),(8,.lit (.int .u8 t18_1)),(65,.ptr 0 0),(66,J at1),(67,.lit (.string s2_3))]) (hs:=[.box [.ref 1 0 ((r0_0_2.map (api.Line.enc)).length),J r0_1_2,.lit (.bool r0_2_3),J r0_3_2,J r0_4_2,.lit (.string r0_5_2),.lit (.int .u8 r0_6_2)],.arr 3 (r0_0_2.map (api.Line.enc))]) rfl (by decide) rfl rfl ⟨⟨_,rfl,WO.boxs ⟨(.ref _ _ _ 1 rfl),(.same (J r0_1_2) rfl),(.same (.lit (.bool r0_2_3)) rfl),(.same (J r0_3_2) rfl),(.same (J r0_4_2) rfl),(.same (.lit (.string r0_5_2)) rfl),(.same (.lit (.int .u8 r0_6_2)) rfl),trivial⟩⟩,⟨⟨_,rfl,.arr _ _⟩,⟨rfl,fun _ h=>by cases h⟩⟩⟩ ⟨(.ptr _ _ 0 rfl),(.same (.lit (.int .u8 t18_1)) rfl),(.ptr _ _ 0 rfl),(.same (J at1) rfl),(.same (.lit (.string s2_3)) rfl),trivial⟩)) ?_
        conv=>whnf
        refine CallN.hand (k:=1) (v:=.tup []) (hs':=[.box [.ref 1 0 ((o_0.map (api.Line.enc)).length),J o_1,.lit (.bool o_2),J o_3,J o_4,.lit (.string o_5),.lit (.int .u8 o_6)],.arr 3 (o_0.map (api.Line.enc))]) (ts':=[(0,.ptr 0 0),(8,.lit (.int .u8 t18_1)),(65,.ptr 0 0),(66,J at1),(67,.lit (.string s2_3))]) (Src.reader.put_ok ee_t68) rfl rfl ?_
        conv=>whnf
        refine Nm.mk ⟨[.ref 1 0 ((o_0.map (api.Line.enc)).length),J o_1,.lit (.bool o_2),J o_3,J o_4,.lit (.string o_5),.lit (.int .u8 t18_1)],rfl,?_⟩
        obtain ⟨⟨o_0_1,o_1_1,o_2_1,o_3_1,o_4_1,o_5_1,o_6_1⟩,ee_t74,hj5⟩:=bind_elim hj4
        conv=>whnf
        refine Gate.weak (Sees.of (Weak.objs (keep:=[0,1]) (frz:=[]) (m:=0) (ts:=[(0,.ptr 0 0),(73,.ptr 0 0)]) (hs:=[.box [.ref 1 0 ((o_0.map (api.Line.enc)).length),J o_1,.lit (.bool o_2),J o_3,J o_4,.lit (.string o_5),.lit (.int .u8 t18_1)],.arr 3 (o_0.map (api.Line.enc))]) rfl (by decide) rfl rfl ⟨⟨_,rfl,WO.boxs ⟨(.ref _ _ _ 1 rfl),(.same (J o_1) rfl),(.same (.lit (.bool o_2)) rfl),(.same (J o_3) rfl),(.same (J o_4) rfl),(.same (.lit (.string o_5)) rfl),(.same (.lit (.int .u8 t18_1)) rfl),trivial⟩⟩,⟨⟨_,rfl,.arr _ _⟩,⟨rfl,fun _ h=>by cases h⟩⟩⟩ ⟨(.ptr _ _ 0 rfl),(.ptr _ _ 0 rfl),trivial⟩)) ?_
        conv=>whnf
        refine CallN.hand (k:=1) (v:=.tup []) (hs':=[.box [.ref 1 0 ((o_0_1.map (api.Line.enc)).length),J o_1_1,.lit (.bool o_2_1),J o_3_1,J o_4_1,.lit (.string o_5_1),.lit (.int .u8 o_6_1)],.arr 3 (o_0_1.map (api.Line.enc))]) (ts':=[(0,.ptr 0 0),(73,.ptr 0 0)]) (Src.reader.over__ok ee_t74) rfl rfl ?_
        have ehj5_0:=hr1 _ (Option.some.inj hj5).symm
        subst ehj5_0
        conv=>whnf
        exact Returns.hand (v:=.lit (.bool false)) (keep:=[0,1]) (frz:=[]) (m:=0) (h':=[.box [.ref 1 0 ((o_0_1.map (api.Line.enc)).length),J o_1_1,.lit (.bool o_2_1),J o_3_1,J o_4_1,.lit (.string o_5_1),.lit (.int .u8 o_6_1)],.arr 3 (o_0_1.map (api.Line.enc))]) rfl rfl (WH.of (by decide) rfl rfl ⟨⟨_,rfl,WO.boxs ⟨(.ref _ _ _ 1 rfl),(.same (J o_1_1) rfl),(.same (.lit (.bool o_2_1)) rfl),(.same (J o_3_1) rfl),(.same (J o_4_1) rfl),(.same (.lit (.string o_5_1)) rfl),(.same (.lit (.int .u8 o_6_1)) rfl),trivial⟩⟩,⟨⟨_,rfl,.arr _ _⟩,⟨rfl,fun _ h=>by cases h⟩⟩⟩) (.same (.lit (.bool false)) rfl) ⟨rfl,rfl⟩
      · have hj3:=bif_t hj2
        obtain ⟨⟨o_0_2,o_1_2,o_2_2,o_3_2,o_4_2,o_5_2,o_6_2⟩,ee_t60,hj4⟩:=bind_elim hj3
        conv=>whnf
        refine Gate.weak (Sees.of (Weak.objs (keep:=[0,1]) (frz:=[]) (m:=0) (ts:=[(0,.ptr 0 0),(8,.lit (.int .u8 t18_1)),(57,.ptr 0 0),(58,J at1),(59,.lit (.string t53_0))]) (hs:=[.box [.ref 1 0 ((r0_0_2.map (api.Line.enc)).length),J r0_1_2,.lit (.bool r0_2_3),J r0_3_2,J r0_4_2,.lit (.string r0_5_2),.lit (.int .u8 r0_6_2)],.arr 3 (r0_0_2.map (api.Line.enc))]) rfl (by decide) rfl rfl ⟨⟨_,rfl,WO.boxs ⟨(.ref _ _ _ 1 rfl),(.same (J r0_1_2) rfl),(.same (.lit (.bool r0_2_3)) rfl),(.same (J r0_3_2) rfl),(.same (J r0_4_2) rfl),(.same (.lit (.string r0_5_2)) rfl),(.same (.lit (.int .u8 r0_6_2)) rfl),trivial⟩⟩,⟨⟨_,rfl,.arr _ _⟩,⟨rfl,fun _ h=>by cases h⟩⟩⟩ ⟨(.ptr _ _ 0 rfl),(.same (.lit (.int .u8 t18_1)) rfl),(.ptr _ _ 0 rfl),(.same (J at1) rfl),(.same (.lit (.string t53_0)) rfl),trivial⟩)) ?_
        conv=>whnf
        refine CallN.hand (k:=1) (v:=.tup []) (hs':=[.box [.ref 1 0 ((o_0_2.map (api.Line.enc)).length),J o_1_2,.lit (.bool o_2_2),J o_3_2,J o_4_2,.lit (.string o_5_2),.lit (.int .u8 o_6_2)],.arr 3 (o_0_2.map (api.Line.enc))]) (ts':=[(0,.ptr 0 0),(8,.lit (.int .u8 t18_1)),(57,.ptr 0 0),(58,J at1),(59,.lit (.string t53_0))]) (Src.reader.put_ok ee_t60) rfl rfl ?_
        conv=>whnf
        refine Nm.mk ⟨[.ref 1 0 ((o_0_2.map (api.Line.enc)).length),J o_1_2,.lit (.bool o_2_2),J o_3_2,J o_4_2,.lit (.string o_5_2),.lit (.int .u8 t18_1)],rfl,?_⟩
        have ehj4_0:=hr1 _ (Option.some.inj hj4).symm
        subst ehj4_0
        conv=>whnf
        exact Returns.hand (v:=.lit (.bool true)) (keep:=[0,1]) (frz:=[]) (m:=0) (h':=[.box [.ref 1 0 ((o_0_2.map (api.Line.enc)).length),J o_1_2,.lit (.bool o_2_2),J o_3_2,J o_4_2,.lit (.string o_5_2),.lit (.int .u8 t18_1)],.arr 3 (o_0_2.map (api.Line.enc))]) rfl rfl (WH.of (by decide) rfl rfl ⟨⟨_,rfl,WO.boxs ⟨(.ref _ _ _ 1 rfl),(.same (J o_1_2) rfl),(.same (.lit (.bool o_2_2)) rfl),(.same (J o_3_2) rfl),(.same (J o_4_2) rfl),(.same (.lit (.string o_5_2)) rfl),(.same (.lit (.int .u8 t18_1)) rfl),trivial⟩⟩,⟨⟨_,rfl,.arr _ _⟩,⟨rfl,fun _ h=>by cases h⟩⟩⟩) (.same (.lit (.bool true)) rfl) ⟨rfl,rfl⟩
end Go.Q
