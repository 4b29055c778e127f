import Derived.Test.YtoecgpemlfoogaaGreatDoorGN1
import Derived.Test.YtoecgpemlfoogaaGreatDoorFX
import Derived.Test.YtoecgpemlfoogaaGreatDoorProg
namespace Go.Q
open Go Go.Proofs
set_option maxRecDepth 10000
set_option maxHeartbeats 2000000
noncomputable def Src.reader.end_.j1 (t15:ByteArray) (r0_0_1:List api.Line) (r0_1_1:Int) (r0_2_1:Bool) (r0_3_1 r0_4_1:Int) (r0_5_1:ByteArray) (r0_6_1:Int):Option ((List api.Line) × Int × Bool × Int × Int × ByteArray × Int) :=
  chk ((r0_0_1.length + ([(⟨r0_3_1,t15,r0_4_1⟩:api.Line)]).length) * 32 ≤ 140737488355328) <|
  letk (r0_0_1 ++ ([(⟨r0_3_1,t15,r0_4_1⟩:api.Line)])) fun t57 =>
  some (t57,r0_1_1,r0_2_1,r0_3_1,r0_4_1,r0_5_1,r0_6_1)
noncomputable def Src.reader.end_.j2 (t15:ByteArray) (r0_0_2:List api.Line) (r0_1_2:Int) (r0_2_2:Bool) (r0_3_2 r0_4_2:Int) (r0_5_2:ByteArray) (r0_6_2:Int) (t34:Bool):Option ((List api.Line) × Int × Bool × Int × Int × ByteArray × Int) :=
  bif t34 then
    Option.bind (Src.reader.fail r0_0_2 r0_1_2 r0_2_2 r0_3_2 r0_4_2 r0_5_2 r0_6_2 r0_4_2) fun (o_0,o_1,o_2,o_3,o_4,o_5,o_6) =>
    Src.reader.end_.j1 t15 o_0 o_1 o_2 o_3 o_4 o_5 o_6
  else
    Src.reader.end_.j1 t15 r0_0_2 r0_1_2 r0_2_2 r0_3_2 r0_4_2 r0_5_2 r0_6_2
noncomputable def Src.reader.end_.j0 (r0_0:List api.Line) (r0_1 r0_3 r0_4:Int) (r0_5:ByteArray) (r0_6:Int) (t15:ByteArray):Option ((List api.Line) × Int × Bool × Int × Int × ByteArray × Int) :=
  letk (r0_6 != (0:Int)) fun t29 =>
  bif t29 then
    Src.reader.end_.j2 t15 r0_0 r0_1 false r0_3 r0_4 r0_5 r0_6 true
  else
    Option.bind (Src.isStatement t15) fun t32 =>
    letk (!t32) fun t33 =>
    Src.reader.end_.j2 t15 r0_0 r0_1 false r0_3 r0_4 r0_5 r0_6 t33
noncomputable def Src.reader.end_ (r0_0:List api.Line) (r0_1:Int) (r0_2:Bool) (r0_3 r0_4:Int) (r0_5:ByteArray) (r0_6:Int):Option ((List api.Line) × Int × Bool × Int × Int × ByteArray × Int) :=
  letk (!r0_2) fun t7 =>
  bif t7 then
    some (r0_0,r0_1,r0_2,r0_3,r0_4,r0_5,r0_6)
  else
    Option.bind (Strs.Trim r0_5 ⟨#[32]⟩) fun t15 =>
    letk (t15.toList == (⟨#[]⟩:ByteArray).toList) fun t17 =>
    bif t17 then
      letk (r0_3 == (0:Int)) fun t23 =>
      bif t23 then
        some (r0_0,r0_1,false,r0_3,r0_4,r0_5,r0_6)
      else
        Src.reader.end_.j0 r0_0 r0_1 r0_3 r0_4 r0_5 r0_6 t15
    else
      Src.reader.end_.j0 r0_0 r0_1 r0_3 r0_4 r0_5 r0_6 t15
theorem Src.reader.end__ok {r0_0:List api.Line} {r0_1:Int} {r0_2:Bool} {r0_3 r0_4:Int} {r0_5:ByteArray} {r0_6:Int} {r:(List api.Line) × Int × Bool × Int × Int × ByteArray × Int} (h0:Src.reader.end_ r0_0 r0_1 r0_2 r0_3 r0_4 r0_5 r0_6 = some r):GivesK Tryz.prog 26 [.ptr 0 0] [.box [.ref 1 0 ((r0_0.map (api.Line.enc)).length),J r0_1,.lit (.bool r0_2),J r0_3,J r0_4,.lit (.string r0_5),.lit (.int .u8 r0_6)],.arr 3 (r0_0.map (api.Line.enc))] 1 (.tup []) [.box [.ref 1 0 ((r.1.map (api.Line.enc)).length),J r.2.1,.lit (.bool r.2.2.1),J r.2.2.2.1,J r.2.2.2.2.1,.lit (.string r.2.2.2.2.2.1),.lit (.int .u8 r.2.2.2.2.2.2)],.arr 3 (r.1.map (api.Line.enc))]:=by
  unfold Src.reader.end_ at h0
  refine ACallsK.of_swp Tryz.func26 rfl (by decide) rfl (st0:=⟨60,[(0,.ptr 0 0)],[.box [.ref 1 0 ((r0_0.map (api.Line.enc)).length),J r0_1,.lit (.bool r0_2),J r0_3,J r0_4,.lit (.string r0_5),.lit (.int .u8 r0_6)],.arr 3 (r0_0.map (api.Line.enc))]⟩) rfl rfl (bwp_ok (C:=[(0,4),(0,6),(44,11)]) ?_)
  obtain ⟨t7,et7,h1⟩:=letk_elim h0
  conv=>whnf
  refine Nm.mk ⟨t7,et7,?_⟩
  rcases t7 with _ | _
  · have h2:=bif_f h1
    conv=>whnf
    refine Nm.mk ⟨[.ref 1 0 ((r0_0.map (api.Line.enc)).length),J r0_1,.lit (.bool false),J r0_3,J r0_4,.lit (.string r0_5),.lit (.int .u8 r0_6)],rfl,?_⟩
    obtain ⟨t15,et15,h3⟩:=bind_elim h2
    conv=>whnf
    refine Gate.go ?_
    conv=>whnf
    refine CallN.by (v:=.lit (.string t15)) (Strs.Trim_ok et15) rfl rfl ?_
    conv=>whnf
    refine CutN.of (fun s=>Src.reader.end_.j0 r0_0 r0_1 r0_3 r0_4 r0_5 r0_6 t15 = some r ∧ s = (⟨60,[(0,.ptr 0 0),(2,.lit (.string t15))],[.box [.ref 1 0 ((r0_0.map (api.Line.enc)).length),J r0_1,.lit (.bool false),J r0_3,J r0_4,.lit (.string r0_5),.lit (.int .u8 r0_6)],.arr 3 (r0_0.map (api.Line.enc))]⟩:St)) ?_ ?_
    · obtain ⟨t17,et17,h4⟩:=letk_elim h3
      conv=>whnf
      refine Nm.mk ⟨t17,et17,?_⟩
      rcases t17 with _ | _
      · have h5:=bif_f h4
        exact BackS.of (Sees.of (Weak.objs (keep:=[0,1]) (frz:=[]) (m:=0) (ts:=[(0,.ptr 0 0),(2,.lit (.string t15))]) (hs:=[.box [.ref 1 0 ((r0_0.map (api.Line.enc)).length),J r0_1,.lit (.bool false),J r0_3,J r0_4,.lit (.string r0_5),.lit (.int .u8 r0_6)],.arr 3 (r0_0.map (api.Line.enc))]) rfl (by decide) rfl rfl ⟨⟨_,rfl,WO.boxs ⟨(.ref _ _ _ 1 rfl),(.same (J r0_1) rfl),(.same (.lit (.bool false)) rfl),(.same (J r0_3) rfl),(.same (J r0_4) rfl),(.same (.lit (.string r0_5)) rfl),(.same (.lit (.int .u8 r0_6)) rfl),trivial⟩⟩,⟨⟨_,rfl,.arr _ _⟩,⟨rfl,fun _ h=>by cases h⟩⟩⟩ ⟨(.ptr _ _ 0 rfl),(.same (.lit (.string t15)) rfl),trivial⟩)) ⟨h5,rfl⟩
      · have h5:=bif_t h4
        obtain ⟨t23,et23,h6⟩:=letk_elim h5
        conv=>whnf
        refine Nm.mk ⟨t23,et23,?_⟩
        rcases t23 with _ | _
        · have h7:=bif_f h6
          exact BackS.of (Sees.of (Weak.objs (keep:=[0,1]) (frz:=[]) (m:=0) (ts:=[(0,.ptr 0 0),(2,.lit (.string t15))]) (hs:=[.box [.ref 1 0 ((r0_0.map (api.Line.enc)).length),J r0_1,.lit (.bool false),J r0_3,J r0_4,.lit (.string r0_5),.lit (.int .u8 r0_6)],.arr 3 (r0_0.map (api.Line.enc))]) rfl (by decide) rfl rfl ⟨⟨_,rfl,WO.boxs ⟨(.ref _ _ _ 1 rfl),(.same (J r0_1) rfl),(.same (.lit (.bool false)) rfl),(.same (J r0_3) rfl),(.same (J r0_4) rfl),(.same (.lit (.string r0_5)) rfl),(.same (.lit (.int .u8 r0_6)) rfl),trivial⟩⟩,⟨⟨_,rfl,.arr _ _⟩,⟨rfl,fun _ h=>by cases h⟩⟩⟩ ⟨(.ptr _ _ 0 rfl),(.same (.lit (.string t15)) rfl),trivial⟩)) ⟨h7,rfl⟩
        · have h7:=bif_t h6
          have eh7_0:=Option.some.inj h7
          subst eh7_0
          conv=>whnf
          exact Returns.hand (v:=.tup []) (keep:=[0,1]) (frz:=[]) (m:=0) (h':=[.box [.ref 1 0 ((r0_0.map (api.Line.enc)).length),J r0_1,.lit (.bool false),J r0_3,J r0_4,.lit (.string r0_5),.lit (.int .u8 r0_6)],.arr 3 (r0_0.map (api.Line.enc))]) rfl rfl (WH.of (by decide) rfl rfl ⟨⟨_,rfl,WO.boxs ⟨(.ref _ _ _ 1 rfl),(.same (J r0_1) rfl),(.same (.lit (.bool false)) rfl),(.same (J r0_3) rfl),(.same (J r0_4) rfl),(.same (.lit (.string r0_5)) rfl),(.same (.lit (.int .u8 r0_6)) rfl),trivial⟩⟩,⟨⟨_,rfl,.arr _ _⟩,⟨rfl,fun _ h=>by cases h⟩⟩⟩) (WV.tups trivial) ⟨rfl,rfl⟩
    · clear h3
      rintro s ⟨hj0,rfl⟩
      unfold Src.reader.end_.j0 at hj0
      conv=>whnf
      refine CutN.of (fun s=>∃ (r0_0_1:List api.Line) (r0_1_1:Int) (r0_2_1:Bool) (r0_3_1 r0_4_1:Int) (r0_5_1:ByteArray) (r0_6_1:Int),Src.reader.end_.j1 t15 r0_0_1 r0_1_1 r0_2_1 r0_3_1 r0_4_1 r0_5_1 r0_6_1 = some r ∧ s = (⟨60,[(0,.ptr 0 0),(2,.lit (.string t15))],[.box [.ref 1 0 ((r0_0_1.map (api.Line.enc)).length),J r0_1_1,.lit (.bool r0_2_1),J r0_3_1,J r0_4_1,.lit (.string r0_5_1),.lit (.int .u8 r0_6_1)],.arr 3 (r0_0_1.map (api.Line.enc))]⟩:St)) ?_ ?_
      · conv=>whnf
        refine CutN.of (fun s=>∃ (r0_0_2:List api.Line) (r0_1_2:Int) (r0_2_2:Bool) (r0_3_2 r0_4_2:Int) (r0_5_2:ByteArray) (r0_6_2:Int) (t34:Bool),Src.reader.end_.j2 t15 r0_0_2 r0_1_2 r0_2_2 r0_3_2 r0_4_2 r0_5_2 r0_6_2 t34 = some r ∧ s = (⟨60,[(0,.ptr 0 0),(2,.lit (.string t15)),(34,.lit (.bool t34))],[.box [.ref 1 0 ((r0_0_2.map (api.Line.enc)).length),J r0_1_2,.lit (.bool r0_2_2),J r0_3_2,J r0_4_2,.lit (.string r0_5_2),.lit (.int .u8 r0_6_2)],.arr 3 (r0_0_2.map (api.Line.enc))]⟩:St)) ?_ ?_
        · obtain ⟨t29,et29,hj1⟩:=letk_elim hj0
          conv=>whnf
          refine Nm.mk ⟨t29,et29,?_⟩
          rcases t29 with _ | _
          · have hj2:=bif_f hj1
            obtain ⟨t32,et32,hj3⟩:=bind_elim hj2
            conv=>whnf
            refine Gate.go ?_
            conv=>whnf
            refine CallN.by (v:=.lit (.bool t32)) (Src.isStatement_ok et32) rfl rfl ?_
            obtain ⟨t33,et33,hj4⟩:=letk_elim hj3
            conv=>whnf
            refine Nm.mk ⟨t33,et33,?_⟩
            exact BackS.of (Sees.of (Weak.objs (keep:=[0,1]) (frz:=[]) (m:=0) (ts:=[(0,.ptr 0 0),(2,.lit (.string t15)),(34,.lit (.bool t33))]) (hs:=[.box [.ref 1 0 ((r0_0.map (api.Line.enc)).length),J r0_1,.lit (.bool false),J r0_3,J r0_4,.lit (.string r0_5),.lit (.int .u8 r0_6)],.arr 3 (r0_0.map (api.Line.enc))]) rfl (by decide) rfl rfl ⟨⟨_,rfl,WO.boxs ⟨(.ref _ _ _ 1 rfl),(.same (J r0_1) rfl),(.same (.lit (.bool false)) rfl),(.same (J r0_3) rfl),(.same (J r0_4) rfl),(.same (.lit (.string r0_5)) rfl),(.same (.lit (.int .u8 r0_6)) rfl),trivial⟩⟩,⟨⟨_,rfl,.arr _ _⟩,⟨rfl,fun _ h=>by cases h⟩⟩⟩ ⟨(.ptr _ _ 0 rfl),(.same (.lit (.string t15)) rfl),(.same (.lit (.bool t33)) rfl),trivial⟩)) ⟨_,_,_,_,_,_,_,_,hj4,rfl⟩
          · have hj2:=bif_t hj1
            exact BackS.of (Sees.of (Weak.objs (keep:=[0,1]) (frz:=[]) (m:=0) (ts:=[(0,.ptr 0 0),(2,.lit (.string t15)),(34,.lit (.bool true))]) (hs:=[.box [.ref 1 0 ((r0_0.map (api.Line.enc)).length),J r0_1,.lit (.bool false),J r0_3,J r0_4,.lit (.string r0_5),.lit (.int .u8 r0_6)],.arr 3 (r0_0.map (api.Line.enc))]) rfl (by decide) rfl rfl ⟨⟨_,rfl,WO.boxs ⟨(.ref _ _ _ 1 rfl),(.same (J r0_1) rfl),(.same (.lit (.bool false)) rfl),(.same (J r0_3) rfl),(.same (J r0_4) rfl),(.same (.lit (.string r0_5)) rfl),(.same (.lit (.int .u8 r0_6)) rfl),trivial⟩⟩,⟨⟨_,rfl,.arr _ _⟩,⟨rfl,fun _ h=>by cases h⟩⟩⟩ ⟨(.ptr _ _ 0 rfl),(.same (.lit (.string t15)) rfl),(.same (.lit (.bool true)) rfl),trivial⟩)) ⟨_,_,_,_,_,_,_,_,hj2,rfl⟩
        · clear hj0
          rintro s ⟨r0_0_2,r0_1_2,r0_2_2,r0_3_2,r0_4_2,r0_5_2,r0_6_2,t34,hj0,rfl⟩
          unfold Src.reader.end_.j2 at hj0
          rcases t34 with _ | _
          · have hj1:=bif_f hj0
            exact BackS.of (Sees.of (Weak.objs (keep:=[0,1]) (frz:=[]) (m:=0) (ts:=[(0,.ptr 0 0),(2,.lit (.string t15))]) (hs:=[.box [.ref 1 0 ((r0_0_2.map (api.Line.enc)).length),J r0_1_2,.lit (.bool r0_2_2),J r0_3_2,J r0_4_2,.lit (.string r0_5_2),.lit (.int .u8 r0_6_2)],.arr 3 (r0_0_2.map (api.Line.enc))]) rfl (by decide) rfl rfl ⟨⟨_,rfl,WO.boxs ⟨(.ref _ _ _ 1 rfl),(.same (J r0_1_2) rfl),(.same (.lit (.bool r0_2_2)) rfl),(.same (J r0_3_2) rfl),(.same (J r0_4_2) rfl),(.same (.lit (.string r0_5_2)) rfl),(.same (.lit (.int .u8 r0_6_2)) rfl),trivial⟩⟩,⟨⟨_,rfl,.arr _ _⟩,⟨rfl,fun _ h=>by cases h⟩⟩⟩ ⟨(.ptr _ _ 0 rfl),(.same (.lit (.string t15)) rfl),trivial⟩)) ⟨_,_,_,_,_,_,_,hj1,rfl⟩
          · have hj1:=bif_t hj0
            obtain ⟨⟨o_0,o_1,o_2,o_3,o_4,o_5,o_6⟩,ee_t40,hj2⟩:=bind_elim hj1
            conv=>whnf
            refine Gate.weak (Sees.of (Weak.objs (keep:=[0,1]) (frz:=[]) (m:=0) (ts:=[(0,.ptr 0 0),(2,.lit (.string t15)),(35,.ptr 0 0),(39,J r0_4_2)]) (hs:=[.box [.ref 1 0 ((r0_0_2.map (api.Line.enc)).length),J r0_1_2,.lit (.bool r0_2_2),J r0_3_2,J r0_4_2,.lit (.string r0_5_2),.lit (.int .u8 r0_6_2)],.arr 3 (r0_0_2.map (api.Line.enc))]) rfl (by decide) rfl rfl ⟨⟨_,rfl,WO.boxs ⟨(.ref _ _ _ 1 rfl),(.same (J r0_1_2) rfl),(.same (.lit (.bool r0_2_2)) rfl),(.same (J r0_3_2) rfl),(.same (J r0_4_2) rfl),(.same (.lit (.string r0_5_2)) rfl),(.same (.lit (.int .u8 r0_6_2)) rfl),trivial⟩⟩,⟨⟨_,rfl,.arr _ _⟩,⟨rfl,fun _ h=>by cases h⟩⟩⟩ ⟨(.ptr _ _ 0 rfl),(.same (.lit (.string t15)) rfl),(.ptr _ _ 0 rfl),(.same (J r0_4_2) rfl),trivial⟩)) ?_
            conv=>whnf
            refine CallN.hand (k:=1) (v:=.tup []) (hs':=[.box [.ref 1 0 ((o_0.map (api.Line.enc)).length),J o_1,.lit (.bool o_2),J o_3,J o_4,.lit (.string o_5),.lit (.int .u8 o_6)],.arr 3 (o_0.map (api.Line.enc))]) (ts':=[(0,.ptr 0 0),(2,.lit (.string t15)),(35,.ptr 0 0),(39,J r0_4_2)]) (Src.reader.fail_ok ee_t40) rfl rfl ?_
            exact BackS.of (Sees.of (Weak.objs (keep:=[0,1]) (frz:=[]) (m:=0) (ts:=[(0,.ptr 0 0),(2,.lit (.string t15))]) (hs:=[.box [.ref 1 0 ((o_0.map (api.Line.enc)).length),J o_1,.lit (.bool o_2),J o_3,J o_4,.lit (.string o_5),.lit (.int .u8 o_6)],.arr 3 (o_0.map (api.Line.enc))]) rfl (by decide) rfl rfl ⟨⟨_,rfl,WO.boxs ⟨(.ref _ _ _ 1 rfl),(.same (J o_1) rfl),(.same (.lit (.bool o_2)) rfl),(.same (J o_3) rfl),(.same (J o_4) rfl),(.same (.lit (.string o_5)) rfl),(.same (.lit (.int .u8 o_6)) rfl),trivial⟩⟩,⟨⟨_,rfl,.arr _ _⟩,⟨rfl,fun _ h=>by cases h⟩⟩⟩ ⟨(.ptr _ _ 0 rfl),(.same (.lit (.string t15)) rfl),trivial⟩)) ⟨_,_,_,_,_,_,_,hj2,rfl⟩
      · clear hj0
        rintro s ⟨r0_0_1,r0_1_1,r0_2_1,r0_3_1,r0_4_1,r0_5_1,r0_6_1,hj0,rfl⟩
        unfold Src.reader.end_.j1 at hj0
        conv=>whnf
        refine DrawB.ofM [15,16,19] [0,0,0,0,0,0,0,0,0,0,0,0,0,0,0,0,16,17,17,17] Tryz_mixed (by kernel_rfl) (by kernel_rfl) ?_
        conv=>whnf
        refine DNodeH.mv (.ptr 0 0) rfl (fun h=>?_) ?_
        · conv=>whnf
          rfl
        · conv=>whnf
          refine DNodeH.mv (.ptr 0 0) rfl (fun h=>?_) ?_
          · conv=>whnf
            rfl
          · conv=>whnf
            refine DNodeH.of (.ptr 0 0) rfl ?_ rfl rfl ?_
            · conv=>whnf
              rfl
            · conv=>whnf
              refine DNodeH.of (.ptr 0 0) rfl ?_ rfl rfl ?_
              · conv=>whnf
                rfl
              · conv=>whnf
                refine DNodeH.of (.ref 1 0 ((r0_0_1.map (api.Line.enc)).length)) rfl ?_ rfl rfl ?_
                · conv=>whnf
                  rfl
                · conv=>whnf
                  refine DNodeH.mv (.ptr 0 0) rfl (fun h=>?_) ?_
                  · conv=>whnf
                    rfl
                  · conv=>whnf
                    refine DNodeH.of (.ptr 0 0) rfl ?_ rfl rfl ?_
                    · conv=>whnf
                      rfl
                    · conv=>whnf
                      refine DNodeH.of (.ptr 0 3) rfl ?_ rfl rfl ?_
                      · conv=>whnf
                        rfl
                      · conv=>whnf
                        refine DNodeH.of (J r0_3_1) rfl ?_ rfl rfl ?_
                        · conv=>whnf
                          rfl
                        · conv=>whnf
                          refine DNodeH.mv (.lit (.string t15)) rfl (fun h=>?_) ?_
                          · conv=>whnf
                            rfl
                          · conv=>whnf
                            refine DNodeH.mv (.ptr 0 0) rfl (fun h=>?_) ?_
                            · conv=>whnf
                              rfl
                            · conv=>whnf
                              refine DNodeH.of (.ptr 0 0) rfl ?_ rfl rfl ?_
                              · conv=>whnf
                                rfl
                              · conv=>whnf
                                refine DNodeH.of (.ptr 0 4) rfl ?_ rfl rfl ?_
                                · conv=>whnf
                                  rfl
                                · conv=>whnf
                                  refine DNodeH.of (J r0_4_1) rfl ?_ rfl rfl ?_
                                  · conv=>whnf
                                    rfl
                                  · conv=>whnf
                                    refine DNodeH.of (.agg [J r0_3_1,.lit (.string t15),J r0_4_1]) rfl ?_ rfl rfl ?_
                                    · conv=>whnf
                                      refine Nm.mk ⟨[J r0_3_1,.lit (.string t15),J r0_4_1],rfl,?_⟩
                                      conv=>whnf
                                      rfl
                                    · conv=>whnf
                                      refine MNodeB.of (.ref 2 0 ((([(⟨r0_3_1,t15,r0_4_1⟩:api.Line)]).map (api.Line.enc)).length)) [.box [.ref 1 0 ((r0_0_1.map (api.Line.enc)).length),J r0_1_1,.lit (.bool r0_2_1),J r0_3_1,J r0_4_1,.lit (.string r0_5_1),.lit (.int .u8 r0_6_1)],.arr 3 (r0_0_1.map (api.Line.enc)),.arr 3 (([(⟨r0_3_1,t15,r0_4_1⟩:api.Line)]).map (api.Line.enc))] ?_ (fun _=>⟨[.arr 3 (([(⟨r0_3_1,t15,r0_4_1⟩:api.Line)]).map (api.Line.enc))],rfl⟩) ?_
                                      · conv=>whnf
                                        refine Nm.mk ⟨([(⟨r0_3_1,t15,r0_4_1⟩:api.Line)]).map (api.Line.enc),rfl,?_⟩
                                        conv=>whnf
                                        rfl
                                      · obtain ⟨chj1,hj1⟩:=chk_elim hj0
                                        obtain ⟨t57,et57,hj2⟩:=letk_elim hj1
                                        conv=>whnf
                                        refine MNodeB.of (.ref 3 0 ((t57.map (api.Line.enc)).length)) [.box [.ref 1 0 ((r0_0_1.map (api.Line.enc)).length),J r0_1_1,.lit (.bool r0_2_1),J r0_3_1,J r0_4_1,.lit (.string r0_5_1),.lit (.int .u8 r0_6_1)],.dead,.arr 3 (([(⟨r0_3_1,t15,r0_4_1⟩:api.Line)]).map (api.Line.enc)),.arr 3 (t57.map (api.Line.enc))] ?_ (fun h=>Bool.noConfusion (show false = true from h)) ?_
                                        · conv=>whnf
                                          refine Side.mk (full_le _) ?_
                                          conv=>whnf
                                          refine Side.mk ⟨full_le _,one_map (fun _ _ hc=>by simp only [api.Line.enc,AV.cells,List.mem_cons,List.not_mem_nil,or_false] at hc; rcases hc with rfl | rfl | rfl <;> rfl)⟩ ?_
                                          conv=>whnf
                                          refine Side.mk (side_rr (by decide) chj1) ?_
                                          conv=>whnf
                                          refine Nm.mk ⟨t57.map (api.Line.enc),by rw [et57]; exact app_rr (m:=[(⟨r0_3_1,t15,r0_4_1⟩:api.Line)]),?_⟩
                                          conv=>whnf
                                          rfl
                                        · conv=>whnf
                                          refine DNodeH.of (.ptr 0 0) rfl ?_ rfl rfl ?_
                                          · conv=>whnf
                                            rfl
                                          · conv=>whnf
                                            refine DNodeH.of (.ptr 0 0) rfl ?_ rfl rfl ?_
                                            · conv=>whnf
                                              rfl
                                            · conv=>whnf
                                              refine MNodeB.of (.undef) [.box [.ref 3 0 ((t57.map (api.Line.enc)).length),J r0_1_1,.lit (.bool r0_2_1),J r0_3_1,J r0_4_1,.lit (.string r0_5_1),.lit (.int .u8 r0_6_1)],.dead,.arr 3 (([(⟨r0_3_1,t15,r0_4_1⟩:api.Line)]).map (api.Line.enc)),.arr 3 (t57.map (api.Line.enc))] ?_ (fun h=>Bool.noConfusion (show false = true from h)) ?_
                                              · conv=>whnf
                                                refine Nm.mk ⟨[.ref 3 0 ((t57.map (api.Line.enc)).length),J r0_1_1,.lit (.bool r0_2_1),J r0_3_1,J r0_4_1,.lit (.string r0_5_1),.lit (.int .u8 r0_6_1)],rfl,?_⟩
                                                conv=>whnf
                                                rfl
                                              · have ehj2_0:=Option.some.inj hj2
                                                subst ehj2_0
                                                conv=>whnf
                                                exact Returns.hand (v:=.tup []) (keep:=[0,3]) (frz:=[]) (m:=0) (h':=[.box [.ref 1 0 ((t57.map (api.Line.enc)).length),J r0_1_1,.lit (.bool r0_2_1),J r0_3_1,J r0_4_1,.lit (.string r0_5_1),.lit (.int .u8 r0_6_1)],.arr 3 (t57.map (api.Line.enc))]) rfl rfl (WH.of (by decide) rfl rfl ⟨⟨_,rfl,WO.boxs ⟨(.ref _ _ _ 1 rfl),(.same (J r0_1_1) rfl),(.same (.lit (.bool r0_2_1)) rfl),(.same (J r0_3_1) rfl),(.same (J r0_4_1) rfl),(.same (.lit (.string r0_5_1)) rfl),(.same (.lit (.int .u8 r0_6_1)) rfl),trivial⟩⟩,⟨⟨_,rfl,.arr _ _⟩,⟨rfl,fun _ h=>by cases h⟩⟩⟩) (WV.tups trivial) ⟨rfl,rfl⟩
  · have h2:=bif_t h1
    have eh2_0:=Option.some.inj h2
    subst eh2_0
    conv=>whnf
    exact Returns.hand (v:=.tup []) (keep:=[0,1]) (frz:=[]) (m:=0) (h':=[.box [.ref 1 0 ((r0_0.map (api.Line.enc)).length),J r0_1,.lit (.bool r0_2),J r0_3,J r0_4,.lit (.string r0_5),.lit (.int .u8 r0_6)],.arr 3 (r0_0.map (api.Line.enc))]) rfl rfl (WH.of (by decide) rfl rfl ⟨⟨_,rfl,WO.boxs ⟨(.ref _ _ _ 1 rfl),(.same (J r0_1) rfl),(.same (.lit (.bool r0_2)) rfl),(.same (J r0_3) rfl),(.same (J r0_4) rfl),(.same (.lit (.string r0_5)) rfl),(.same (.lit (.int .u8 r0_6)) rfl),trivial⟩⟩,⟨⟨_,rfl,.arr _ _⟩,⟨rfl,fun _ h=>by cases h⟩⟩⟩) (WV.tups trivial) ⟨rfl,rfl⟩
noncomputable def Src.labelOf (s0:ByteArray):Option (Int × Bool) :=
  Option.bind (Strconv.Atoi s0) fun (t10_0,t10_1) =>
  bif t10_1 then
    chk (((s0.size + (⟨#[32]⟩:ByteArray).size:Nat):Int) ≤ 9223372036854775807) <|
    letk (s0 ++ (⟨#[32]⟩:ByteArray)) fun t15_1 =>
    Option.bind (Src.numbered t15_1) fun (t16_2_0,_) =>
    letk ((s0.size:Int)) fun t25 =>
    letk (t16_2_0 == t25) fun t26 =>
    bif t26 then
      letk ((s0.size:Int)) fun t30 =>
      letk (decide (t30 ≤ (5:Int))) fun t31 =>
      bif t31 then
        letk (decide (t10_0 > (0:Int))) fun t35 =>
        some (t10_0,t35)
      else
        some (t10_0,false)
    else
      some (t10_0,false)
  else
    chk (((s0.size + (⟨#[32]⟩:ByteArray).size:Nat):Int) ≤ 9223372036854775807) <|
    letk (s0 ++ (⟨#[32]⟩:ByteArray)) fun t15 =>
    Option.bind (Src.numbered t15) fun (_,_) =>
    some (t10_0,false)
theorem Src.labelOf_ok {s0:ByteArray} {r:Int × Bool} (h0:Src.labelOf s0 = some r):Gives Tryz.prog 58 [.lit (.string s0)] (.tup [J r.1,.lit (.bool r.2)]):=by
  unfold Src.labelOf at h0
  refine ACalls.of_swp Tryz.func58 rfl (by decide) rfl (st0:=⟨37,[(0,.lit (.string s0))],[]⟩) rfl (bwp_ok (C:=[]) ?_)
  obtain ⟨⟨t10_0,t10_1⟩,et10,h1⟩:=bind_elim h0
  conv=>whnf
  refine Gate.go ?_
  rcases t10_1 with _ | _
  · have h2:=bif_f h1
    conv=>whnf
    refine CallN.byE (v:=fun Nt10=>.tup [J t10_0,.lit (.iface 122 (.pointer (some ⟨Nt10,0,none⟩)))]) (Strconv.Atoi_err et10) rfl (fun _=>rfl) (fun _=>?_)
    obtain ⟨ch3,h3⟩:=chk_elim h2
    obtain ⟨t15,et15,h4⟩:=letk_elim h3
    conv=>whnf
    refine Side.mk ch3 ?_
    conv=>whnf
    refine Nm.mk ⟨t15,et15,?_⟩
    obtain ⟨⟨t16_0,t16_1⟩,et16,h5⟩:=bind_elim h4
    conv=>whnf
    refine Gate.go ?_
    conv=>whnf
    refine CallN.by (v:=.tup [J t16_0,.lit (.bool t16_1)]) (Src.numbered_ok et16) rfl rfl ?_
    have eh5_0:=Option.some.inj h5
    subst eh5_0
    conv=>whnf
    exact Returns.pure (r:=.tup [J t10_0,.lit (.bool false)]) rfl rfl rfl rfl ⟨rfl,rfl⟩
  · have h2:=bif_t h1
    conv=>whnf
    refine CallN.by (v:=.tup [J t10_0,.lit Value.nilIface]) (Strconv.Atoi_ok et10) rfl rfl ?_
    obtain ⟨ch3,h3⟩:=chk_elim h2
    obtain ⟨t15_1,et15_1,h4⟩:=letk_elim h3
    conv=>whnf
    refine Side.mk ch3 ?_
    conv=>whnf
    refine Nm.mk ⟨t15_1,et15_1,?_⟩
    obtain ⟨⟨t16_2_0,t16_2_1⟩,et16_2,h5⟩:=bind_elim h4
    conv=>whnf
    refine Gate.go ?_
    conv=>whnf
    refine CallN.by (v:=.tup [J t16_2_0,.lit (.bool t16_2_1)]) (Src.numbered_ok et16_2) rfl rfl ?_
    obtain ⟨t25,et25,h6⟩:=letk_elim h5
    conv=>whnf
    refine Nm.mk ⟨t25,et25,?_⟩
    obtain ⟨t26,et26,h7⟩:=letk_elim h6
    conv=>whnf
    refine Nm.mk ⟨t26,et26,?_⟩
    rcases t26 with _ | _
    · have h8:=bif_f h7
      have eh8_0:=Option.some.inj h8
      subst eh8_0
      conv=>whnf
      exact Returns.pure (r:=.tup [J t10_0,.lit (.bool false)]) rfl rfl rfl rfl ⟨rfl,rfl⟩
    · have h8:=bif_t h7
      obtain ⟨t30,et30,h9⟩:=letk_elim h8
      conv=>whnf
      refine Nm.mk ⟨t30,et30,?_⟩
      obtain ⟨t31,et31,h10⟩:=letk_elim h9
      conv=>whnf
      refine Nm.mk ⟨t31,et31,?_⟩
      rcases t31 with _ | _
      · have h11:=bif_f h10
        have eh11_0:=Option.some.inj h11
        subst eh11_0
        conv=>whnf
        exact Returns.pure (r:=.tup [J t10_0,.lit (.bool false)]) rfl rfl rfl rfl ⟨rfl,rfl⟩
      · have h11:=bif_t h10
        obtain ⟨t35,et35,h12⟩:=letk_elim h11
        conv=>whnf
        refine Nm.mk ⟨t35,et35,?_⟩
        have eh12_0:=Option.some.inj h12
        subst eh12_0
        conv=>whnf
        exact Returns.pure (r:=.tup [J t10_0,.lit (.bool t35)]) rfl rfl rfl rfl ⟨rfl,rfl⟩
noncomputable def Src.reader.old.j0 (t22:ByteArray) (r0_0_1:List api.Line) (r0_1_1:Int) (r0_2_1:Bool) (r0_3_1 r0_4_1:Int) (r0_5_1:ByteArray) (r0_6_1:Int):Option ((List api.Line) × Int × Bool × Int × Int × ByteArray × Int) :=
  Option.bind (Src.find t22 ⟨#[33]⟩ r0_6_1) fun (t83_0,t83_1) =>
  letk (decide (t83_0 ≥ (0:Int))) fun t91 =>
  bif t91 then
    chk (0 ≤ t83_0 ∧ t83_0 ≤ (t22.size:Int)) <|
    letk (t22.extract 0 t83_0.toNat) fun t98 =>
    chk (((r0_5_1.size + t98.size:Nat):Int) ≤ 9223372036854775807) <|
    letk (r0_5_1 ++ t98) fun t99 =>
    some (r0_0_1,r0_1_1,r0_2_1,r0_3_1,r0_4_1,t99,t83_1)
  else
    letk ((t22.size:Int)) fun t108 =>
    letk (IntKind.i64.wrap ((66:Int) - t108)) fun t109 =>
    letk (if t109 > 0 then t109 else 0) fun t110 =>
    Option.bind (Strs.Repeat ⟨#[32]⟩ t110) fun t111 =>
    chk (((t22.size + t111.size:Nat):Int) ≤ 9223372036854775807) <|
    letk (t22 ++ t111) fun t112 =>
    chk (((r0_5_1.size + t112.size:Nat):Int) ≤ 9223372036854775807) <|
    letk (r0_5_1 ++ t112) fun t113 =>
    some (r0_0_1,r0_1_1,r0_2_1,r0_3_1,r0_4_1,t113,t83_1)
noncomputable def Src.reader.old.j2 (at1:Int) (t22:ByteArray) (t52_0:Int) (r0_0_3:List api.Line) (r0_1_3:Int) (r0_2_3:Bool) (r0_3_3 r0_4_3:Int) (r0_5_3:ByteArray) (r0_6_3:Int):Option ((List api.Line) × Int × Bool × Int × Int × ByteArray × Int) :=
  Src.reader.old.j0 t22 r0_0_3 r0_1_3 true t52_0 at1 (⟨#[]⟩) 0
noncomputable def Src.reader.old.j1 (at1:Int) (t17 t22:ByteArray) (r0_0_2:List api.Line) (r0_1_2:Int) (r0_2_2:Bool) (r0_3_2 r0_4_2:Int) (r0_5_2:ByteArray) (r0_6_2:Int) (t35:Bool):Option ((List api.Line) × Int × Bool × Int × Int × ByteArray × Int) :=
  bif t35 then
    letk (!(t17.toList == (⟨#[]⟩:ByteArray).toList)) fun t37 =>
    bif t37 then
      Option.bind (Src.reader.fail r0_0_2 r0_1_2 r0_2_2 r0_3_2 r0_4_2 r0_5_2 r0_6_2 at1) fun (o_0_3,o_1_3,o_2_3,o_3_3,o_4_3,o_5_3,o_6_3) =>
      some (o_0_3,o_1_3,o_2_3,o_3_3,o_4_3,o_5_3,o_6_3)
    else
      letk (!r0_2_2) fun t43 =>
      bif t43 then
        Option.bind (Src.reader.fail r0_0_2 r0_1_2 r0_2_2 r0_3_2 r0_4_2 r0_5_2 r0_6_2 at1) fun (o_0_2,o_1_2,o_2_2,o_3_2,o_4_2,o_5_2,o_6_2) =>
        some (o_0_2,o_1_2,o_2_2,o_3_2,o_4_2,o_5_2,o_6_2)
      else
        Src.reader.old.j0 t22 r0_0_2 r0_1_2 r0_2_2 r0_3_2 r0_4_2 r0_5_2 r0_6_2
  else
    Option.bind (Src.reader.end_ r0_0_2 r0_1_2 r0_2_2 r0_3_2 r0_4_2 r0_5_2 r0_6_2) fun (o_0,o_1,o_2,o_3,o_4,o_5,o_6) =>
    Option.bind (Src.labelOf t17) fun (t52_0,t52_1) =>
    letk (!(t17.toList == (⟨#[]⟩:ByteArray).toList)) fun t56 =>
    bif t56 then
      letk (!t52_1) fun t59 =>
      bif t59 then
        Option.bind (Src.reader.fail o_0 o_1 o_2 o_3 o_4 o_5 o_6 at1) fun (o_0_1,o_1_1,o_2_1,o_3_1,o_4_1,o_5_1,o_6_1) =>
        Src.reader.old.j2 at1 t22 t52_0 o_0_1 o_1_1 o_2_1 o_3_1 o_4_1 o_5_1 o_6_1
      else
        Src.reader.old.j2 at1 t22 t52_0 o_0 o_1 o_2 o_3 o_4 o_5 o_6
    else
      Src.reader.old.j2 at1 t22 t52_0 o_0 o_1 o_2 o_3 o_4 o_5 o_6
noncomputable def Src.reader.old (r0_0:List api.Line) (r0_1:Int) (r0_2:Bool) (r0_3 r0_4:Int) (r0_5:ByteArray) (r0_6 at1:Int) (s2:ByteArray):Option ((List api.Line) × Int × Bool × Int × Int × ByteArray × Int) :=
  letk ((s2.size:Int)) fun t14 =>
  letk (if 5 < t14 then 5 else t14) fun t15 =>
  chk (0 ≤ t15 ∧ t15 ≤ (s2.size:Int)) <|
  letk (s2.extract 0 t15.toNat) fun t16 =>
  Option.bind (Strs.Trim t16 ⟨#[32]⟩) fun t17 =>
  letk ((s2.size:Int)) fun t20 =>
  letk (if 6 < t20 then 6 else t20) fun t21 =>
  chk (0 ≤ t21 ∧ t21 ≤ (s2.size:Int)) <|
  letk (s2.extract t21.toNat s2.size) fun t22 =>
  letk ((s2.size:Int)) fun t24 =>
  letk (decide (t24 ≥ (6:Int))) fun t25 =>
  bif t25 then
    chk (0 ≤ (5:Int) ∧ (5:Int) < (s2.size:Int)) <|
    letk (bt s2 (5:Int)) fun t28 =>
    letk (t28 != (32:Int)) fun t29 =>
    bif t29 then
      chk (0 ≤ (5:Int) ∧ (5:Int) < (s2.size:Int)) <|
      letk (bt s2 (5:Int)) fun t33 =>
      letk (t33 != (48:Int)) fun t34 =>
      Src.reader.old.j1 at1 t17 t22 r0_0 r0_1 r0_2 r0_3 r0_4 r0_5 r0_6 t34
    else
      Src.reader.old.j1 at1 t17 t22 r0_0 r0_1 r0_2 r0_3 r0_4 r0_5 r0_6 false
  else
    Src.reader.old.j1 at1 t17 t22 r0_0 r0_1 r0_2 r0_3 r0_4 r0_5 r0_6 false
theorem Src.reader.old_ok {r0_0:List api.Line} {r0_1:Int} {r0_2:Bool} {r0_3 r0_4:Int} {r0_5:ByteArray} {r0_6 at1:Int} {s2:ByteArray} {r:(List api.Line) × Int × Bool × Int × Int × ByteArray × Int} (h0:Src.reader.old r0_0 r0_1 r0_2 r0_3 r0_4 r0_5 r0_6 at1 s2 = some r):GivesK Tryz.prog 25 [.ptr 0 0,J at1,.lit (.string s2)] [.box [.ref 1 0 ((r0_0.map (api.Line.enc)).length),J r0_1,.lit (.bool r0_2),J r0_3,J r0_4,.lit (.string r0_5),.lit (.int .u8 r0_6)],.arr 3 (r0_0.map (api.Line.enc))] 1 (.tup []) [.box [.ref 1 0 ((r.1.map (api.Line.enc)).length),J r.2.1,.lit (.bool r.2.2.1),J r.2.2.2.1,J r.2.2.2.2.1,.lit (.string r.2.2.2.2.2.1),.lit (.int .u8 r.2.2.2.2.2.2)],.arr 3 (r.1.map (api.Line.enc))]:=by
  unfold Src.reader.old at h0
  refine ACallsK.of_swp Tryz.func25 rfl (by decide) rfl (st0:=⟨116,[(0,.ptr 0 0),(1,J at1),(2,.lit (.string s2))],[.box [.ref 1 0 ((r0_0.map (api.Line.enc)).length),J r0_1,.lit (.bool r0_2),J r0_3,J r0_4,.lit (.string r0_5),.lit (.int .u8 r0_6)],.arr 3 (r0_0.map (api.Line.enc))]⟩) rfl rfl (bwp_ok (C:=[(0,10),(45,7),(0,9)]) ?_)
  obtain ⟨t14,et14,h1⟩:=letk_elim h0
  conv=>whnf
  refine Nm.mk ⟨t14,et14,?_⟩
  obtain ⟨t15,et15,h2⟩:=letk_elim h1
  conv=>whnf
  refine Nm.mk ⟨t15,et15,?_⟩
  obtain ⟨ch3,h3⟩:=chk_elim h2
  obtain ⟨t16,et16,h4⟩:=letk_elim h3
  conv=>whnf
  refine Side.mk ch3 ?_
  conv=>whnf
  refine Nm.mk ⟨t16,et16,?_⟩
  obtain ⟨t17,et17,h5⟩:=bind_elim h4
  conv=>whnf
  refine Gate.go ?_
  conv=>whnf
  refine CallN.by (v:=.lit (.string t17)) (Strs.Trim_ok et17) rfl rfl ?_
  obtain ⟨t20,et20,h6⟩:=letk_elim h5
  conv=>whnf
  refine Nm.mk ⟨t20,et20,?_⟩
  obtain ⟨t21,et21,h7⟩:=letk_elim h6
  conv=>whnf
  refine Nm.mk ⟨t21,et21,?_⟩
  obtain ⟨ch8,h8⟩:=chk_elim h7
  obtain ⟨t22,et22,h9⟩:=letk_elim h8
  conv=>whnf
  refine Side.mk ch8 ?_
  conv=>whnf
  refine Nm.mk ⟨t22,et22,?_⟩
  conv=>whnf
  refine CutN.of (fun s=>∃ (r0_0_1:List api.Line) (r0_1_1:Int) (r0_2_1:Bool) (r0_3_1 r0_4_1:Int) (r0_5_1:ByteArray) (r0_6_1:Int),Src.reader.old.j0 t22 r0_0_1 r0_1_1 r0_2_1 r0_3_1 r0_4_1 r0_5_1 r0_6_1 = some r ∧ s = (⟨116,[(0,.ptr 0 0),(7,.lit (.string t22))],[.box [.ref 1 0 ((r0_0_1.map (api.Line.enc)).length),J r0_1_1,.lit (.bool r0_2_1),J r0_3_1,J r0_4_1,.lit (.string r0_5_1),.lit (.int .u8 r0_6_1)],.arr 3 (r0_0_1.map (api.Line.enc))]⟩:St)) ?_ ?_
  · conv=>whnf
    refine CutN.of (fun s=>∃ (r0_0_2:List api.Line) (r0_1_2:Int) (r0_2_2:Bool) (r0_3_2 r0_4_2:Int) (r0_5_2:ByteArray) (r0_6_2:Int) (t35:Bool),Src.reader.old.j1 at1 t17 t22 r0_0_2 r0_1_2 r0_2_2 r0_3_2 r0_4_2 r0_5_2 r0_6_2 t35 = some r ∧ s = (⟨116,[(0,.ptr 0 0),(1,J at1),(6,.lit (.string t17)),(7,.lit (.string t22)),(35,.lit (.bool t35))],[.box [.ref 1 0 ((r0_0_2.map (api.Line.enc)).length),J r0_1_2,.lit (.bool r0_2_2),J r0_3_2,J r0_4_2,.lit (.string r0_5_2),.lit (.int .u8 r0_6_2)],.arr 3 (r0_0_2.map (api.Line.enc))]⟩:St)) ?_ ?_
    · obtain ⟨t24,et24,h10⟩:=letk_elim h9
      conv=>whnf
      refine Nm.mk ⟨t24,et24,?_⟩
      obtain ⟨t25,et25,h11⟩:=letk_elim h10
      conv=>whnf
      refine Nm.mk ⟨t25,et25,?_⟩
      rcases t25 with _ | _
      · have h12:=bif_f h11
        exact BackS.of (Sees.of (Weak.objs (keep:=[0,1]) (frz:=[]) (m:=0) (ts:=[(0,.ptr 0 0),(1,J at1),(6,.lit (.string t17)),(7,.lit (.string t22)),(35,.lit (.bool false))]) (hs:=[.box [.ref 1 0 ((r0_0.map (api.Line.enc)).length),J r0_1,.lit (.bool r0_2),J r0_3,J r0_4,.lit (.string r0_5),.lit (.int .u8 r0_6)],.arr 3 (r0_0.map (api.Line.enc))]) rfl (by decide) rfl rfl ⟨⟨_,rfl,WO.boxs ⟨(.ref _ _ _ 1 rfl),(.same (J r0_1) rfl),(.same (.lit (.bool r0_2)) rfl),(.same (J r0_3) rfl),(.same (J r0_4) rfl),(.same (.lit (.string r0_5)) rfl),(.same (.lit (.int .u8 r0_6)) rfl),trivial⟩⟩,⟨⟨_,rfl,.arr _ _⟩,⟨rfl,fun _ h=>by cases h⟩⟩⟩ ⟨(.ptr _ _ 0 rfl),(.same (J at1) rfl),(.same (.lit (.string t17)) rfl),(.same (.lit (.string t22)) rfl),(.same (.lit (.bool false)) rfl),trivial⟩)) ⟨_,_,_,_,_,_,_,_,h12,rfl⟩
      · have h12:=bif_t h11
        obtain ⟨ch13,h13⟩:=chk_elim h12
        obtain ⟨t28,et28,h14⟩:=letk_elim h13
        conv=>whnf
        refine Side.mk ch13 ?_
        conv=>whnf
        refine Nm.mk ⟨t28,et28,?_⟩
        obtain ⟨t29,et29,h15⟩:=letk_elim h14
        conv=>whnf
        refine Nm.mk ⟨t29,et29,?_⟩
        rcases t29 with _ | _
        · have h16:=bif_f h15
          exact BackS.of (Sees.of (Weak.objs (keep:=[0,1]) (frz:=[]) (m:=0) (ts:=[(0,.ptr 0 0),(1,J at1),(6,.lit (.string t17)),(7,.lit (.string t22)),(35,.lit (.bool false))]) (hs:=[.box [.ref 1 0 ((r0_0.map (api.Line.enc)).length),J r0_1,.lit (.bool r0_2),J r0_3,J r0_4,.lit (.string r0_5),.lit (.int .u8 r0_6)],.arr 3 (r0_0.map (api.Line.enc))]) rfl (by decide) rfl rfl ⟨⟨_,rfl,WO.boxs ⟨(.ref _ _ _ 1 rfl),(.same (J r0_1) rfl),(.same (.lit (.bool r0_2)) rfl),(.same (J r0_3) rfl),(.same (J r0_4) rfl),(.same (.lit (.string r0_5)) rfl),(.same (.lit (.int .u8 r0_6)) rfl),trivial⟩⟩,⟨⟨_,rfl,.arr _ _⟩,⟨rfl,fun _ h=>by cases h⟩⟩⟩ ⟨(.ptr _ _ 0 rfl),(.same (J at1) rfl),(.same (.lit (.string t17)) rfl),(.same (.lit (.string t22)) rfl),(.same (.lit (.bool false)) rfl),trivial⟩)) ⟨_,_,_,_,_,_,_,_,h16,rfl⟩
        · have h16:=bif_t h15
          obtain ⟨ch17,h17⟩:=chk_elim h16
          obtain ⟨t33,et33,h18⟩:=letk_elim h17
          conv=>whnf
          refine Side.mk ch17 ?_
          conv=>whnf
          refine Nm.mk ⟨t33,et33,?_⟩
          obtain ⟨t34,et34,h19⟩:=letk_elim h18
          conv=>whnf
          refine Nm.mk ⟨t34,et34,?_⟩
          exact BackS.of (Sees.of (Weak.objs (keep:=[0,1]) (frz:=[]) (m:=0) (ts:=[(0,.ptr 0 0),(1,J at1),(6,.lit (.string t17)),(7,.lit (.string t22)),(35,.lit (.bool t34))]) (hs:=[.box [.ref 1 0 ((r0_0.map (api.Line.enc)).length),J r0_1,.lit (.bool r0_2),J r0_3,J r0_4,.lit (.string r0_5),.lit (.int .u8 r0_6)],.arr 3 (r0_0.map (api.Line.enc))]) rfl (by decide) rfl rfl ⟨⟨_,rfl,WO.boxs ⟨(.ref _ _ _ 1 rfl),(.same (J r0_1) rfl),(.same (.lit (.bool r0_2)) rfl),(.same (J r0_3) rfl),(.same (J r0_4) rfl),(.same (.lit (.string r0_5)) rfl),(.same (.lit (.int .u8 r0_6)) rfl),trivial⟩⟩,⟨⟨_,rfl,.arr _ _⟩,⟨rfl,fun _ h=>by cases h⟩⟩⟩ ⟨(.ptr _ _ 0 rfl),(.same (J at1) rfl),(.same (.lit (.string t17)) rfl),(.same (.lit (.string t22)) rfl),(.same (.lit (.bool t34)) rfl),trivial⟩)) ⟨_,_,_,_,_,_,_,_,h19,rfl⟩
    · clear h9
      rintro s ⟨r0_0_2,r0_1_2,r0_2_2,r0_3_2,r0_4_2,r0_5_2,r0_6_2,t35,hj0,rfl⟩
      unfold Src.reader.old.j1 at hj0
      rcases t35 with _ | _
      · have hj1:=bif_f hj0
        obtain ⟨⟨o_0,o_1,o_2,o_3,o_4,o_5,o_6⟩,ee_t49,hj2⟩:=bind_elim hj1
        conv=>whnf
        refine Gate.weak (Sees.of (Weak.objs (keep:=[0,1]) (frz:=[]) (m:=0) (ts:=[(0,.ptr 0 0),(1,J at1),(6,.lit (.string t17)),(7,.lit (.string t22)),(48,.ptr 0 0)]) (hs:=[.box [.ref 1 0 ((r0_0_2.map (api.Line.enc)).length),J r0_1_2,.lit (.bool r0_2_2),J r0_3_2,J r0_4_2,.lit (.string r0_5_2),.lit (.int .u8 r0_6_2)],.arr 3 (r0_0_2.map (api.Line.enc))]) rfl (by decide) rfl rfl ⟨⟨_,rfl,WO.boxs ⟨(.ref _ _ _ 1 rfl),(.same (J r0_1_2) rfl),(.same (.lit (.bool r0_2_2)) rfl),(.same (J r0_3_2) rfl),(.same (J r0_4_2) rfl),(.same (.lit (.string r0_5_2)) rfl),(.same (.lit (.int .u8 r0_6_2)) rfl),trivial⟩⟩,⟨⟨_,rfl,.arr _ _⟩,⟨rfl,fun _ h=>by cases h⟩⟩⟩ ⟨(.ptr _ _ 0 rfl),(.same (J at1) rfl),(.same (.lit (.string t17)) rfl),(.same (.lit (.string t22)) rfl),(.ptr _ _ 0 rfl),trivial⟩)) ?_
        conv=>whnf
        refine CallN.hand (k:=1) (v:=.tup []) (hs':=[.box [.ref 1 0 ((o_0.map (api.Line.enc)).length),J o_1,.lit (.bool o_2),J o_3,J o_4,.lit (.string o_5),.lit (.int .u8 o_6)],.arr 3 (o_0.map (api.Line.enc))]) (ts':=[(0,.ptr 0 0),(1,J at1),(6,.lit (.string t17)),(7,.lit (.string t22)),(48,.ptr 0 0)]) (Src.reader.end__ok ee_t49) rfl rfl ?_
        obtain ⟨⟨t52_0,t52_1⟩,et52,hj3⟩:=bind_elim hj2
        conv=>whnf
        refine Gate.go ?_
        conv=>whnf
        refine CallN.by (v:=.tup [J t52_0,.lit (.bool t52_1)]) (Src.labelOf_ok et52) rfl rfl ?_
        conv=>whnf
        refine CutN.of (fun s=>∃ (r0_0_3:List api.Line) (r0_1_3:Int) (r0_2_3:Bool) (r0_3_3 r0_4_3:Int) (r0_5_3:ByteArray) (r0_6_3:Int),Src.reader.old.j2 at1 t22 t52_0 r0_0_3 r0_1_3 r0_2_3 r0_3_3 r0_4_3 r0_5_3 r0_6_3 = some r ∧ s = (⟨116,[(0,.ptr 0 0),(1,J at1),(7,.lit (.string t22)),(8,J t52_0)],[.box [.ref 1 0 ((r0_0_3.map (api.Line.enc)).length),J r0_1_3,.lit (.bool r0_2_3),J r0_3_3,J r0_4_3,.lit (.string r0_5_3),.lit (.int .u8 r0_6_3)],.arr 3 (r0_0_3.map (api.Line.enc))]⟩:St)) ?_ ?_
        · obtain ⟨t56,et56,hj4⟩:=letk_elim hj3
          conv=>whnf
          refine Nm.mk ⟨t56,et56,?_⟩
          rcases t56 with _ | _
          · have hj5:=bif_f hj4
            exact BackS.of (Sees.of (Weak.objs (keep:=[0,1]) (frz:=[]) (m:=0) (ts:=[(0,.ptr 0 0),(1,J at1),(7,.lit (.string t22)),(8,J t52_0)]) (hs:=[.box [.ref 1 0 ((o_0.map (api.Line.enc)).length),J o_1,.lit (.bool o_2),J o_3,J o_4,.lit (.string o_5),.lit (.int .u8 o_6)],.arr 3 (o_0.map (api.Line.enc))]) rfl (by decide) rfl rfl ⟨⟨_,rfl,WO.boxs ⟨(.ref _ _ _ 1 rfl),(.same (J o_1) rfl),(.same (.lit (.bool o_2)) rfl),(.same (J o_3) rfl),(.same (J o_4) rfl),(.same (.lit (.string o_5)) rfl),(.same (.lit (.int .u8 o_6)) rfl),trivial⟩⟩,⟨⟨_,rfl,.arr _ _⟩,⟨rfl,fun _ h=>by cases h⟩⟩⟩ ⟨(.ptr _ _ 0 rfl),(.same (J at1) rfl),(.same (.lit (.string t22)) rfl),(.same (J t52_0) rfl),trivial⟩)) ⟨_,_,_,_,_,_,_,hj5,rfl⟩
          · have hj5:=bif_t hj4
            obtain ⟨t59,et59,hj6⟩:=letk_elim hj5
            conv=>whnf
            refine Nm.mk ⟨t59,et59,?_⟩
            rcases t59 with _ | _
            · have hj7:=bif_f hj6
              exact BackS.of (Sees.of (Weak.objs (keep:=[0,1]) (frz:=[]) (m:=0) (ts:=[(0,.ptr 0 0),(1,J at1),(7,.lit (.string t22)),(8,J t52_0)]) (hs:=[.box [.ref 1 0 ((o_0.map (api.Line.enc)).length),J o_1,.lit (.bool o_2),J o_3,J o_4,.lit (.string o_5),.lit (.int .u8 o_6)],.arr 3 (o_0.map (api.Line.enc))]) rfl (by decide) rfl rfl ⟨⟨_,rfl,WO.boxs ⟨(.ref _ _ _ 1 rfl),(.same (J o_1) rfl),(.same (.lit (.bool o_2)) rfl),(.same (J o_3) rfl),(.same (J o_4) rfl),(.same (.lit (.string o_5)) rfl),(.same (.lit (.int .u8 o_6)) rfl),trivial⟩⟩,⟨⟨_,rfl,.arr _ _⟩,⟨rfl,fun _ h=>by cases h⟩⟩⟩ ⟨(.ptr _ _ 0 rfl),(.same (J at1) rfl),(.same (.lit (.string t22)) rfl),(.same (J t52_0) rfl),trivial⟩)) ⟨_,_,_,_,_,_,_,hj7,rfl⟩
            · have hj7:=bif_t hj6
              obtain ⟨⟨o_0_1,o_1_1,o_2_1,o_3_1,o_4_1,o_5_1,o_6_1⟩,ee_t63,hj8⟩:=bind_elim hj7
              conv=>whnf
              refine Gate.weak (Sees.of (Weak.objs (keep:=[0,1]) (frz:=[]) (m:=0) (ts:=[(0,.ptr 0 0),(1,J at1),(7,.lit (.string t22)),(8,J t52_0),(61,.ptr 0 0),(62,J at1)]) (hs:=[.box [.ref 1 0 ((o_0.map (api.Line.enc)).length),J o_1,.lit (.bool o_2),J o_3,J o_4,.lit (.string o_5),.lit (.int .u8 o_6)],.arr 3 (o_0.map (api.Line.enc))]) rfl (by decide) rfl rfl ⟨⟨_,rfl,WO.boxs ⟨(.ref _ _ _ 1 rfl),(.same (J o_1) rfl),(.same (.lit (.bool o_2)) rfl),(.same (J o_3) rfl),(.same (J o_4) rfl),(.same (.lit (.string o_5)) rfl),(.same (.lit (.int .u8 o_6)) rfl),trivial⟩⟩,⟨⟨_,rfl,.arr _ _⟩,⟨rfl,fun _ h=>by cases h⟩⟩⟩ ⟨(.ptr _ _ 0 rfl),(.same (J at1) rfl),(.same (.lit (.string t22)) rfl),(.same (J t52_0) rfl),(.ptr _ _ 0 rfl),(.same (J at1) rfl),trivial⟩)) ?_
              conv=>whnf
              refine CallN.hand (k:=1) (v:=.tup []) (hs':=[.box [.ref 1 0 ((o_0_1.map (api.Line.enc)).length),J o_1_1,.lit (.bool o_2_1),J o_3_1,J o_4_1,.lit (.string o_5_1),.lit (.int .u8 o_6_1)],.arr 3 (o_0_1.map (api.Line.enc))]) (ts':=[(0,.ptr 0 0),(1,J at1),(7,.lit (.string t22)),(8,J t52_0),(61,.ptr 0 0),(62,J at1)]) (Src.reader.fail_ok ee_t63) rfl rfl ?_
              exact BackS.of (Sees.of (Weak.objs (keep:=[0,1]) (frz:=[]) (m:=0) (ts:=[(0,.ptr 0 0),(1,J at1),(7,.lit (.string t22)),(8,J t52_0)]) (hs:=[.box [.ref 1 0 ((o_0_1.map (api.Line.enc)).length),J o_1_1,.lit (.bool o_2_1),J o_3_1,J o_4_1,.lit (.string o_5_1),.lit (.int .u8 o_6_1)],.arr 3 (o_0_1.map (api.Line.enc))]) rfl (by decide) rfl rfl ⟨⟨_,rfl,WO.boxs ⟨(.ref _ _ _ 1 rfl),(.same (J o_1_1) rfl),(.same (.lit (.bool o_2_1)) rfl),(.same (J o_3_1) rfl),(.same (J o_4_1) rfl),(.same (.lit (.string o_5_1)) rfl),(.same (.lit (.int .u8 o_6_1)) rfl),trivial⟩⟩,⟨⟨_,rfl,.arr _ _⟩,⟨rfl,fun _ h=>by cases h⟩⟩⟩ ⟨(.ptr _ _ 0 rfl),(.same (J at1) rfl),(.same (.lit (.string t22)) rfl),(.same (J t52_0) rfl),trivial⟩)) ⟨_,_,_,_,_,_,_,hj8,rfl⟩
        · clear hj3
          rintro s ⟨r0_0_3,r0_1_3,_,_,_,_,_,hj0,rfl⟩
          unfold Src.reader.old.j2 at hj0
          conv=>whnf
          refine DrawB.ofM [13] [0,0,0,0,0,0,0,0,0,0,0,0,0,0] Tryz_mixed (by kernel_rfl) (by kernel_rfl) ?_
          conv=>whnf
          refine DNodeH.mv (.ptr 0 0) rfl (fun h=>?_) ?_
          · conv=>whnf
            rfl
          · conv=>whnf
            refine DNodeH.mv (.ptr 0 0) rfl (fun h=>?_) ?_
            · conv=>whnf
              rfl
            · conv=>whnf
              refine DNodeH.of (.ptr 0 0) rfl ?_ rfl rfl ?_
              · conv=>whnf
                rfl
              · conv=>whnf
                refine DNodeH.of (.ptr 0 0) rfl ?_ rfl rfl ?_
                · conv=>whnf
                  rfl
                · conv=>whnf
                  refine DNodeH.of (.ref 1 0 ((r0_0_3.map (api.Line.enc)).length)) rfl ?_ rfl rfl ?_
                  · conv=>whnf
                    rfl
                  · conv=>whnf
                    refine DNodeH.mv (.ptr 0 0) rfl (fun h=>?_) ?_
                    · conv=>whnf
                      rfl
                    · conv=>whnf
                      refine DNodeH.of (.ptr 0 0) rfl ?_ rfl rfl ?_
                      · conv=>whnf
                        rfl
                      · conv=>whnf
                        refine DNodeH.of (.ptr 0 1) rfl ?_ rfl rfl ?_
                        · conv=>whnf
                          rfl
                        · conv=>whnf
                          refine DNodeH.of (J r0_1_3) rfl ?_ rfl rfl ?_
                          · conv=>whnf
                            rfl
                          · conv=>whnf
                            refine DNodeH.mv (J t52_0) rfl (fun h=>?_) ?_
                            · conv=>whnf
                              rfl
                            · conv=>whnf
                              refine DNodeH.mv (J at1) rfl (fun h=>?_) ?_
                              · conv=>whnf
                                rfl
                              · conv=>whnf
                                refine DNodeH.of (.agg [.ref 1 0 ((r0_0_3.map (api.Line.enc)).length),J r0_1_3,.lit (.bool true),J t52_0,J at1,.lit (.string (⟨#[]⟩)),.lit (.int .u8 0)]) rfl ?_ rfl rfl ?_
                                · conv=>whnf
                                  refine Nm.mk ⟨[.ref 1 0 ((r0_0_3.map (api.Line.enc)).length),J r0_1_3,.lit (.bool true),J t52_0,J at1,.lit (.string (⟨#[]⟩)),.lit (.int .u8 0)],rfl,?_⟩
                                  conv=>whnf
                                  rfl
                                · conv=>whnf
                                  refine DNodeH.of (.ptr 0 0) rfl ?_ rfl rfl ?_
                                  · conv=>whnf
                                    rfl
                                  · conv=>whnf
                                    refine MNodeB.of (.undef) [.box [.ref 1 0 ((r0_0_3.map (api.Line.enc)).length),J r0_1_3,.lit (.bool true),J t52_0,J at1,.lit (.string (⟨#[]⟩)),.lit (.int .u8 0)],.arr 3 (r0_0_3.map (api.Line.enc))] ?_ (fun h=>Bool.noConfusion (show false = true from h)) ?_
                                    · conv=>whnf
                                      refine Nm.mk ⟨[.ref 1 0 ((r0_0_3.map (api.Line.enc)).length),J r0_1_3,.lit (.bool true),J t52_0,J at1,.lit (.string (⟨#[]⟩)),.lit (.int .u8 0)],rfl,?_⟩
                                      conv=>whnf
                                      rfl
                                    · exact BackS.of (Sees.of (Weak.objs (keep:=[0,1]) (frz:=[]) (m:=0) (ts:=[(0,.ptr 0 0),(7,.lit (.string t22))]) (hs:=[.box [.ref 1 0 ((r0_0_3.map (api.Line.enc)).length),J r0_1_3,.lit (.bool true),J t52_0,J at1,.lit (.string ((⟨#[]⟩))),.lit (.int .u8 0)],.arr 3 (r0_0_3.map (api.Line.enc))]) rfl (by decide) rfl rfl ⟨⟨_,rfl,WO.boxs ⟨(.ref _ _ _ 1 rfl),(.same (J r0_1_3) rfl),(.same (.lit (.bool true)) rfl),(.same (J t52_0) rfl),(.same (J at1) rfl),(.same (.lit (.string (⟨#[]⟩))) rfl),(.same (.lit (.int .u8 0)) rfl),trivial⟩⟩,⟨⟨_,rfl,.arr _ _⟩,⟨rfl,fun _ h=>by cases h⟩⟩⟩ ⟨(.ptr _ _ 0 rfl),(.same (.lit (.string t22)) rfl),trivial⟩)) ⟨_,_,_,_,_,_,_,hj0,rfl⟩
      · have hj1:=bif_t hj0
        obtain ⟨t37,et37,hj2⟩:=letk_elim hj1
        conv=>whnf
        refine Nm.mk ⟨t37,et37,?_⟩
        rcases t37 with _ | _
        · have hj3:=bif_f hj2
          obtain ⟨t43,et43,hj4⟩:=letk_elim hj3
          conv=>whnf
          refine Nm.mk ⟨t43,et43,?_⟩
          rcases t43 with _ | _
          · have hj5:=bif_f hj4
            exact BackS.of (Sees.of (Weak.objs (keep:=[0,1]) (frz:=[]) (m:=0) (ts:=[(0,.ptr 0 0),(7,.lit (.string t22))]) (hs:=[.box [.ref 1 0 ((r0_0_2.map (api.Line.enc)).length),J r0_1_2,.lit (.bool r0_2_2),J r0_3_2,J r0_4_2,.lit (.string r0_5_2),.lit (.int .u8 r0_6_2)],.arr 3 (r0_0_2.map (api.Line.enc))]) rfl (by decide) rfl rfl ⟨⟨_,rfl,WO.boxs ⟨(.ref _ _ _ 1 rfl),(.same (J r0_1_2) rfl),(.same (.lit (.bool r0_2_2)) rfl),(.same (J r0_3_2) rfl),(.same (J r0_4_2) rfl),(.same (.lit (.string r0_5_2)) rfl),(.same (.lit (.int .u8 r0_6_2)) rfl),trivial⟩⟩,⟨⟨_,rfl,.arr _ _⟩,⟨rfl,fun _ h=>by cases h⟩⟩⟩ ⟨(.ptr _ _ 0 rfl),(.same (.lit (.string t22)) rfl),trivial⟩)) ⟨_,_,_,_,_,_,_,hj5,rfl⟩
          · have hj5:=bif_t hj4
            obtain ⟨⟨o_0_2,o_1_2,o_2_2,o_3_2,o_4_2,o_5_2,o_6_2⟩,ee_t47,hj6⟩:=bind_elim hj5
            conv=>whnf
            refine Gate.weak (Sees.of (Weak.objs (keep:=[0,1]) (frz:=[]) (m:=0) (ts:=[(0,.ptr 0 0),(45,.ptr 0 0),(46,J at1)]) (hs:=[.box [.ref 1 0 ((r0_0_2.map (api.Line.enc)).length),J r0_1_2,.lit (.bool r0_2_2),J r0_3_2,J r0_4_2,.lit (.string r0_5_2),.lit (.int .u8 r0_6_2)],.arr 3 (r0_0_2.map (api.Line.enc))]) rfl (by decide) rfl rfl ⟨⟨_,rfl,WO.boxs ⟨(.ref _ _ _ 1 rfl),(.same (J r0_1_2) rfl),(.same (.lit (.bool r0_2_2)) rfl),(.same (J r0_3_2) rfl),(.same (J r0_4_2) rfl),(.same (.lit (.string r0_5_2)) rfl),(.same (.lit (.int .u8 r0_6_2)) rfl),trivial⟩⟩,⟨⟨_,rfl,.arr _ _⟩,⟨rfl,fun _ h=>by cases h⟩⟩⟩ ⟨(.ptr _ _ 0 rfl),(.ptr _ _ 0 rfl),(.same (J at1) rfl),trivial⟩)) ?_
            conv=>whnf
            refine CallN.hand (k:=1) (v:=.tup []) (hs':=[.box [.ref 1 0 ((o_0_2.map (api.Line.enc)).length),J o_1_2,.lit (.bool o_2_2),J o_3_2,J o_4_2,.lit (.string o_5_2),.lit (.int .u8 o_6_2)],.arr 3 (o_0_2.map (api.Line.enc))]) (ts':=[(0,.ptr 0 0),(45,.ptr 0 0),(46,J at1)]) (Src.reader.fail_ok ee_t47) rfl rfl ?_
            have ehj6_0:=Option.some.inj hj6
            subst ehj6_0
            conv=>whnf
            exact Returns.hand (v:=.tup []) (keep:=[0,1]) (frz:=[]) (m:=0) (h':=[.box [.ref 1 0 ((o_0_2.map (api.Line.enc)).length),J o_1_2,.lit (.bool o_2_2),J o_3_2,J o_4_2,.lit (.string o_5_2),.lit (.int .u8 o_6_2)],.arr 3 (o_0_2.map (api.Line.enc))]) rfl rfl (WH.of (by decide) rfl rfl ⟨⟨_,rfl,WO.boxs ⟨(.ref _ _ _ 1 rfl),(.same (J o_1_2) rfl),(.same (.lit (.bool o_2_2)) rfl),(.same (J o_3_2) rfl),(.same (J o_4_2) rfl),(.same (.lit (.string o_5_2)) rfl),(.same (.lit (.int .u8 o_6_2)) rfl),trivial⟩⟩,⟨⟨_,rfl,.arr _ _⟩,⟨rfl,fun _ h=>by cases h⟩⟩⟩) (WV.tups trivial) ⟨rfl,rfl⟩
        · have hj3:=bif_t hj2
          obtain ⟨⟨o_0_3,o_1_3,o_2_3,o_3_3,o_4_3,o_5_3,o_6_3⟩,ee_t47_1,hj4⟩:=bind_elim hj3
          conv=>whnf
          refine Gate.weak (Sees.of (Weak.objs (keep:=[0,1]) (frz:=[]) (m:=0) (ts:=[(0,.ptr 0 0),(45,.ptr 0 0),(46,J at1)]) (hs:=[.box [.ref 1 0 ((r0_0_2.map (api.Line.enc)).length),J r0_1_2,.lit (.bool r0_2_2),J r0_3_2,J r0_4_2,.lit (.string r0_5_2),.lit (.int .u8 r0_6_2)],.arr 3 (r0_0_2.map (api.Line.enc))]) rfl (by decide) rfl rfl ⟨⟨_,rfl,WO.boxs ⟨(.ref _ _ _ 1 rfl),(.same (J r0_1_2) rfl),(.same (.lit (.bool r0_2_2)) rfl),(.same (J r0_3_2) rfl),(.same (J r0_4_2) rfl),(.same (.lit (.string r0_5_2)) rfl),(.same (.lit (.int .u8 r0_6_2)) rfl),trivial⟩⟩,⟨⟨_,rfl,.arr _ _⟩,⟨rfl,fun _ h=>by cases h⟩⟩⟩ ⟨(.ptr _ _ 0 rfl),(.ptr _ _ 0 rfl),(.same (J at1) rfl),trivial⟩)) ?_
          conv=>whnf
          refine CallN.hand (k:=1) (v:=.tup []) (hs':=[.box [.ref 1 0 ((o_0_3.map (api.Line.enc)).length),J o_1_3,.lit (.bool o_2_3),J o_3_3,J o_4_3,.lit (.string o_5_3),.lit (.int .u8 o_6_3)],.arr 3 (o_0_3.map (api.Line.enc))]) (ts':=[(0,.ptr 0 0),(45,.ptr 0 0),(46,J at1)]) (Src.reader.fail_ok ee_t47_1) rfl rfl ?_
          have ehj4_0:=Option.some.inj hj4
          subst ehj4_0
          conv=>whnf
          exact Returns.hand (v:=.tup []) (keep:=[0,1]) (frz:=[]) (m:=0) (h':=[.box [.ref 1 0 ((o_0_3.map (api.Line.enc)).length),J o_1_3,.lit (.bool o_2_3),J o_3_3,J o_4_3,.lit (.string o_5_3),.lit (.int .u8 o_6_3)],.arr 3 (o_0_3.map (api.Line.enc))]) rfl rfl (WH.of (by decide) rfl rfl ⟨⟨_,rfl,WO.boxs ⟨(.ref _ _ _ 1 rfl),(.same (J o_1_3) rfl),(.same (.lit (.bool o_2_3)) rfl),(.same (J o_3_3) rfl),(.same (J o_4_3) rfl),(.same (.lit (.string o_5_3)) rfl),(.same (.lit (.int .u8 o_6_3)) rfl),trivial⟩⟩,⟨⟨_,rfl,.arr _ _⟩,⟨rfl,fun _ h=>by cases h⟩⟩⟩) (WV.tups trivial) ⟨rfl,rfl⟩
  · clear h9
    rintro s ⟨r0_0_1,r0_1_1,r0_2_1,r0_3_1,r0_4_1,r0_5_1,_,hj0,rfl⟩
    unfold Src.reader.old.j0 at hj0
    obtain ⟨⟨t83_0,t83_1⟩,et83,hj1⟩:=bind_elim hj0
    conv=>whnf
    refine Gate.go ?_
    conv=>whnf
    refine CallN.by (v:=.tup [J t83_0,.lit (.int .u8 t83_1)]) (Src.find_ok et83) rfl rfl ?_
    conv=>whnf
    refine Nm.mk ⟨[.ref 1 0 ((r0_0_1.map (api.Line.enc)).length),J r0_1_1,.lit (.bool r0_2_1),J r0_3_1,J r0_4_1,.lit (.string r0_5_1),.lit (.int .u8 t83_1)],rfl,?_⟩
    obtain ⟨t91,et91,hj2⟩:=letk_elim hj1
    conv=>whnf
    refine Nm.mk ⟨t91,et91,?_⟩
    rcases t91 with _ | _
    · have hj3:=bif_f hj2
      conv=>whnf
      refine DrawB.ofM [14] [0,0,0,0,0,0,0,0,0,0,0,0,0,0,0] Tryz_mixed (by kernel_rfl) (by kernel_rfl) ?_
      conv=>whnf
      refine DNodeH.mv (.ptr 0 0) rfl (fun h=>?_) ?_
      · conv=>whnf
        rfl
      · conv=>whnf
        refine DNodeH.of (.ptr 0 0) rfl ?_ rfl rfl ?_
        · conv=>whnf
          rfl
        · conv=>whnf
          refine DNodeH.of (.ptr 0 5) rfl ?_ rfl rfl ?_
          · conv=>whnf
            rfl
          · conv=>whnf
            refine DNodeH.of (.lit (.string r0_5_1)) rfl ?_ rfl rfl ?_
            · conv=>whnf
              rfl
            · conv=>whnf
              refine DNodeH.mv (.lit (.string t22)) rfl (fun h=>?_) ?_
              · conv=>whnf
                rfl
              · conv=>whnf
                refine DNodeH.mv (.lit (.string t22)) rfl (fun h=>?_) ?_
                · conv=>whnf
                  rfl
                · obtain ⟨t108,et108,hj4⟩:=letk_elim hj3
                  conv=>whnf
                  refine DNodeH.of (J t108) rfl ?_ rfl rfl ?_
                  · conv=>whnf
                    refine Nm.mk ⟨t108,et108,?_⟩
                    conv=>whnf
                    rfl
                  · obtain ⟨t109,et109,hj5⟩:=letk_elim hj4
                    conv=>whnf
                    refine DNodeH.of (J t109) rfl ?_ rfl rfl ?_
                    · conv=>whnf
                      refine Nm.mk ⟨t109,et109,?_⟩
                      conv=>whnf
                      rfl
                    · obtain ⟨t110,et110,hj6⟩:=letk_elim hj5
                      conv=>whnf
                      refine DNodeH.of (J t110) rfl ?_ rfl rfl ?_
                      · conv=>whnf
                        refine Nm.mk ⟨t110,et110,?_⟩
                        conv=>whnf
                        rfl
                      · obtain ⟨t111,et111,hj7⟩:=bind_elim hj6
                        conv=>whnf
                        refine DNodeH.of (.lit (.string t111)) rfl ?_ rfl rfl ?_
                        · conv=>whnf
                          refine CallN.by (v:=.lit (.string t111)) (Strs.Repeat_ok et111) rfl rfl ?_
                          conv=>whnf
                          rfl
                        · obtain ⟨chj8,hj8⟩:=chk_elim hj7
                          obtain ⟨t112,et112,hj9⟩:=letk_elim hj8
                          conv=>whnf
                          refine DNodeH.of (.lit (.string t112)) rfl ?_ rfl rfl ?_
                          · conv=>whnf
                            refine Side.mk chj8 ?_
                            conv=>whnf
                            refine Nm.mk ⟨t112,et112,?_⟩
                            conv=>whnf
                            rfl
                          · obtain ⟨chj10,hj10⟩:=chk_elim hj9
                            obtain ⟨t113,et113,hj11⟩:=letk_elim hj10
                            conv=>whnf
                            refine DNodeH.of (.lit (.string t113)) rfl ?_ rfl rfl ?_
                            · conv=>whnf
                              refine Side.mk chj10 ?_
                              conv=>whnf
                              refine Nm.mk ⟨t113,et113,?_⟩
                              conv=>whnf
                              rfl
                            · conv=>whnf
                              refine DNodeH.of (.ptr 0 0) rfl ?_ rfl rfl ?_
                              · conv=>whnf
                                rfl
                              · conv=>whnf
                                refine DNodeH.of (.ptr 0 5) rfl ?_ rfl rfl ?_
                                · conv=>whnf
                                  rfl
                                · conv=>whnf
                                  refine MNodeB.of (.undef) [.box [.ref 1 0 ((r0_0_1.map (api.Line.enc)).length),J r0_1_1,.lit (.bool r0_2_1),J r0_3_1,J r0_4_1,.lit (.string t113),.lit (.int .u8 t83_1)],.arr 3 (r0_0_1.map (api.Line.enc))] ?_ (fun h=>Bool.noConfusion (show false = true from h)) ?_
                                  · conv=>whnf
                                    refine Nm.mk ⟨[.ref 1 0 ((r0_0_1.map (api.Line.enc)).length),J r0_1_1,.lit (.bool r0_2_1),J r0_3_1,J r0_4_1,.lit (.string t113),.lit (.int .u8 t83_1)],rfl,?_⟩
                                    conv=>whnf
                                    rfl
                                  · have ehj11_0:=Option.some.inj hj11
                                    subst ehj11_0
                                    conv=>whnf
                                    exact Returns.hand (v:=.tup []) (keep:=[0,1]) (frz:=[]) (m:=0) (h':=[.box [.ref 1 0 ((r0_0_1.map (api.Line.enc)).length),J r0_1_1,.lit (.bool r0_2_1),J r0_3_1,J r0_4_1,.lit (.string t113),.lit (.int .u8 t83_1)],.arr 3 (r0_0_1.map (api.Line.enc))]) rfl rfl (WH.of (by decide) rfl rfl ⟨⟨_,rfl,WO.boxs ⟨(.ref _ _ _ 1 rfl),(.same (J r0_1_1) rfl),(.same (.lit (.bool r0_2_1)) rfl),(.same (J r0_3_1) rfl),(.same (J r0_4_1) rfl),(.same (.lit (.string t113)) rfl),(.same (.lit (.int .u8 t83_1)) rfl),trivial⟩⟩,⟨⟨_,rfl,.arr _ _⟩,⟨rfl,fun _ h=>by cases h⟩⟩⟩) (WV.tups trivial) ⟨rfl,rfl⟩
    · have hj3:=bif_t hj2
      conv=>whnf
      refine DrawB.ofM [10] [0,0,0,0,0,0,0,0,0,0,0] Tryz_mixed (by kernel_rfl) (by kernel_rfl) ?_
      conv=>whnf
      refine DNodeH.mv (.ptr 0 0) rfl (fun h=>?_) ?_
      · conv=>whnf
        rfl
      · conv=>whnf
        refine DNodeH.of (.ptr 0 0) rfl ?_ rfl rfl ?_
        · conv=>whnf
          rfl
        · conv=>whnf
          refine DNodeH.of (.ptr 0 5) rfl ?_ rfl rfl ?_
          · conv=>whnf
            rfl
          · conv=>whnf
            refine DNodeH.of (.lit (.string r0_5_1)) rfl ?_ rfl rfl ?_
            · conv=>whnf
              rfl
            · conv=>whnf
              refine DNodeH.mv (.lit (.string t22)) rfl (fun h=>?_) ?_
              · conv=>whnf
                rfl
              · conv=>whnf
                refine DNodeH.mv (J t83_0) rfl (fun h=>?_) ?_
                · conv=>whnf
                  rfl
                · obtain ⟨chj4,hj4⟩:=chk_elim hj3
                  obtain ⟨t98,et98,hj5⟩:=letk_elim hj4
                  conv=>whnf
                  refine DNodeH.mv (.lit (.string t98)) rfl (fun h=>?_) ?_
                  · conv=>whnf
                    refine Side.mk chj4 ?_
                    conv=>whnf
                    refine Nm.mk ⟨t98,et98,?_⟩
                    conv=>whnf
                    rfl
                  · obtain ⟨chj6,hj6⟩:=chk_elim hj5
                    obtain ⟨t99,et99,hj7⟩:=letk_elim hj6
                    conv=>whnf
                    refine DNodeH.of (.lit (.string t99)) rfl ?_ rfl rfl ?_
                    · conv=>whnf
                      refine Side.mk chj6 ?_
                      conv=>whnf
                      refine Nm.mk ⟨t99,et99,?_⟩
                      conv=>whnf
                      rfl
                    · conv=>whnf
                      refine DNodeH.of (.ptr 0 0) rfl ?_ rfl rfl ?_
                      · conv=>whnf
                        rfl
                      · conv=>whnf
                        refine DNodeH.of (.ptr 0 5) rfl ?_ rfl rfl ?_
                        · conv=>whnf
                          rfl
                        · conv=>whnf
                          refine MNodeB.of (.undef) [.box [.ref 1 0 ((r0_0_1.map (api.Line.enc)).length),J r0_1_1,.lit (.bool r0_2_1),J r0_3_1,J r0_4_1,.lit (.string t99),.lit (.int .u8 t83_1)],.arr 3 (r0_0_1.map (api.Line.enc))] ?_ (fun h=>Bool.noConfusion (show false = true from h)) ?_
                          · conv=>whnf
                            refine Nm.mk ⟨[.ref 1 0 ((r0_0_1.map (api.Line.enc)).length),J r0_1_1,.lit (.bool r0_2_1),J r0_3_1,J r0_4_1,.lit (.string t99),.lit (.int .u8 t83_1)],rfl,?_⟩
                            conv=>whnf
                            rfl
                          · have ehj7_0:=Option.some.inj hj7
                            subst ehj7_0
                            conv=>whnf
                            exact Returns.hand (v:=.tup []) (keep:=[0,1]) (frz:=[]) (m:=0) (h':=[.box [.ref 1 0 ((r0_0_1.map (api.Line.enc)).length),J r0_1_1,.lit (.bool r0_2_1),J r0_3_1,J r0_4_1,.lit (.string t99),.lit (.int .u8 t83_1)],.arr 3 (r0_0_1.map (api.Line.enc))]) rfl rfl (WH.of (by decide) rfl rfl ⟨⟨_,rfl,WO.boxs ⟨(.ref _ _ _ 1 rfl),(.same (J r0_1_1) rfl),(.same (.lit (.bool r0_2_1)) rfl),(.same (J r0_3_1) rfl),(.same (J r0_4_1) rfl),(.same (.lit (.string t99)) rfl),(.same (.lit (.int .u8 t83_1)) rfl),trivial⟩⟩,⟨⟨_,rfl,.arr _ _⟩,⟨rfl,fun _ h=>by cases h⟩⟩⟩) (WV.tups trivial) ⟨rfl,rfl⟩
end Go.Q
