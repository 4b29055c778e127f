import Derived.Test.YtoecgpemlfoogaaGreatDoorGN2
import Derived.Test.YtoecgpemlfoogaaGreatDoorFX
import Derived.Test.YtoecgpemlfoogaaGreatDoorProg
namespace Go.Q
open Go Go.Proofs
set_option maxRecDepth 10000
set_option maxHeartbeats 2000000
noncomputable def Src.reader.answer.j0 (r0_0_1:List api.Line) (r0_1_1:Int) (r0_2_1:Bool) (r0_3_1 r0_4_1:Int) (r0_5_1:ByteArray) (r0_6_1:Int):Option ((List api.Line) × Int × Int) :=
  some (r0_0_1,0,0)
noncomputable def Src.reader.answer (r0_0:List api.Line) (r0_1:Int) (r0_2:Bool) (r0_3 r0_4:Int) (r0_5:ByteArray) (r0_6:Int) (text1:ByteArray):Option ((List api.Line) × Int × Int) :=
  letk (decide (r0_1 > (0:Int))) fun t12 =>
  bif t12 then
    some ([],r0_1,3)
  else
    letk ((text1.size:Int)) fun t19 =>
    letk (decide (t19 > (8000:Int))) fun t20 =>
    bif t20 then
      some ([],0,4)
    else
      letk ((r0_0.length:Int)) fun t26 =>
      letk (decide (t26 > (200:Int))) fun t27 =>
      bif t27 then
        some ([],0,4)
      else
        Src.reader.answer.j0 r0_0 r0_1 r0_2 r0_3 r0_4 r0_5 r0_6
theorem Src.reader.answer_ok {r0_0:List api.Line} {r0_1:Int} {r0_2:Bool} {r0_3 r0_4:Int} {r0_5:ByteArray} {r0_6:Int} {text1:ByteArray} {r:(List api.Line) × Int × Int} (h0:Src.reader.answer r0_0 r0_1 r0_2 r0_3 r0_4 r0_5 r0_6 text1 = some r):GivesK Tryz.prog 27 [.ptr 0 0,.lit (.string text1)] [.box [.ref 1 0 ((r0_0.map (api.Line.enc)).length),J r0_1,.lit (.bool r0_2),J r0_3,J r0_4,.lit (.string r0_5),.lit (.int .u8 r0_6)],.arr 3 (r0_0.map (api.Line.enc))] 1 (.tup [.vs 3 (r.1.map (api.Line.enc)),J r.2.1,J r.2.2]) [.box [.undef,.undef,.undef,.undef,.undef,.undef,.undef]]:=by
  unfold Src.reader.answer at h0
  refine ACallsK.of_swp Tryz.func27 rfl (by decide) rfl (st0:=⟨33,[(0,.ptr 0 0),(1,.lit (.string text1))],[.box [.ref 1 0 ((r0_0.map (api.Line.enc)).length),J r0_1,.lit (.bool r0_2),J r0_3,J r0_4,.lit (.string r0_5),.lit (.int .u8 r0_6)],.arr 3 (r0_0.map (api.Line.enc))]⟩) rfl rfl (bwp_ok (C:=[(0,5)]) ?_)
  conv=>whnf
  refine CutN.of (fun s=>∃ (r0_0_1:List api.Line) (r0_1_1:Int) (r0_2_1:Bool) (r0_3_1 r0_4_1:Int) (r0_5_1:ByteArray) (r0_6_1:Int),Src.reader.answer.j0 r0_0_1 r0_1_1 r0_2_1 r0_3_1 r0_4_1 r0_5_1 r0_6_1 = some r ∧ s = (⟨33,[(0,.ptr 0 0)],[.box [.ref 1 0 ((r0_0_1.map (api.Line.enc)).length),J r0_1_1,.lit (.bool r0_2_1),J r0_3_1,J r0_4_1,.lit (.string r0_5_1),.lit (.int .u8 r0_6_1)],.arr 3 (r0_0_1.map (api.Line.enc))]⟩:St)) ?_ ?_
  · obtain ⟨t12,et12,h1⟩:=letk_elim h0
    conv=>whnf
    refine Nm.mk ⟨t12,et12,?_⟩
    rcases t12 with _ | _
    · have h2:=bif_f h1
      obtain ⟨t19,et19,h3⟩:=letk_elim h2
      conv=>whnf
      refine Nm.mk ⟨t19,et19,?_⟩
      obtain ⟨t20,et20,h4⟩:=letk_elim h3
      conv=>whnf
      refine Nm.mk ⟨t20,et20,?_⟩
      rcases t20 with _ | _
      · have h5:=bif_f h4
        obtain ⟨t26,et26,h6⟩:=letk_elim h5
        conv=>whnf
        refine Nm.mk ⟨t26,by rw [et26,List.length_map],?_⟩
        obtain ⟨t27,et27,h7⟩:=letk_elim h6
        conv=>whnf
        refine Nm.mk ⟨t27,et27,?_⟩
        rcases t27 with _ | _
        · have h8:=bif_f h7
          exact BackS.of (Sees.of (Weak.objs (keep:=[0,1]) (frz:=[]) (m:=0) (ts:=[(0,.ptr 0 0)]) (hs:=[.box [.ref 1 0 ((r0_0.map (api.Line.enc)).length),J r0_1,.lit (.bool r0_2),J r0_3,J r0_4,.lit (.string r0_5),.lit (.int .u8 r0_6)],.arr 3 (r0_0.map (api.Line.enc))]) rfl (by decide) rfl rfl ⟨⟨_,rfl,WO.boxs ⟨(.ref _ _ _ 1 rfl),(.same (J r0_1) rfl),(.same (.lit (.bool r0_2)) rfl),(.same (J r0_3) rfl),(.same (J r0_4) rfl),(.same (.lit (.string r0_5)) rfl),(.same (.lit (.int .u8 r0_6)) rfl),trivial⟩⟩,⟨⟨_,rfl,.arr _ _⟩,⟨rfl,fun _ h=>by cases h⟩⟩⟩ ⟨(.ptr _ _ 0 rfl),trivial⟩)) ⟨_,_,_,_,_,_,_,h8,rfl⟩
        · have h8:=bif_t h7
          have eh8_0:=Option.some.inj h8
          subst eh8_0
          conv=>whnf
          exact Returns.hand (v:=.tup [.vs 3 (([]).map (api.Line.enc)),J 0,J 4]) (keep:=[0]) (frz:=[]) (m:=0) (h':=[.box [.undef,.undef,.undef,.undef,.undef,.undef,.undef]]) rfl rfl (WH.of (by decide) rfl rfl ⟨⟨_,rfl,WO.boxs ⟨(.undef _),(.undef _),(.undef _),(.undef _),(.undef _),(.undef _),(.undef _),trivial⟩⟩,⟨rfl,fun _ h=>by cases h⟩⟩) (WV.tups ⟨(.nilsVs _),(.same (J 0) rfl),(.same (J 4) rfl),trivial⟩) ⟨rfl,rfl⟩
      · have h5:=bif_t h4
        have eh5_0:=Option.some.inj h5
        subst eh5_0
        conv=>whnf
        exact Returns.hand (v:=.tup [.vs 3 (([]).map (api.Line.enc)),J 0,J 4]) (keep:=[0]) (frz:=[]) (m:=0) (h':=[.box [.undef,.undef,.undef,.undef,.undef,.undef,.undef]]) rfl rfl (WH.of (by decide) rfl rfl ⟨⟨_,rfl,WO.boxs ⟨(.undef _),(.undef _),(.undef _),(.undef _),(.undef _),(.undef _),(.undef _),trivial⟩⟩,⟨rfl,fun _ h=>by cases h⟩⟩) (WV.tups ⟨(.nilsVs _),(.same (J 0) rfl),(.same (J 4) rfl),trivial⟩) ⟨rfl,rfl⟩
    · have h2:=bif_t h1
      conv=>whnf
      refine DrawB.of Tryz_mixed rfl ?_
      conv=>whnf
      refine DNodeB.of (.ptr 0 0) ?_ ?_
      · conv=>whnf
        rfl
      · conv=>whnf
        refine DNodeB.of (.ptr 0 0) ?_ ?_
        · conv=>whnf
          rfl
        · conv=>whnf
          refine DNodeB.of (.ptr 0 1) ?_ ?_
          · conv=>whnf
            rfl
          · conv=>whnf
            refine DNodeB.of (J r0_1) ?_ ?_
            · conv=>whnf
              rfl
            · conv=>whnf
              refine DNodeB.of (.nils) ?_ ?_
              · conv=>whnf
                rfl
              · conv=>whnf
                refine DNodeB.of (J r0_1) ?_ ?_
                · conv=>whnf
                  rfl
                · conv=>whnf
                  refine DNodeB.of (J 3) ?_ ?_
                  · conv=>whnf
                    rfl
                  · have eh2_0:=Option.some.inj h2
                    subst eh2_0
                    conv=>whnf
                    exact Returns.hand (v:=.tup [.vs 3 (([]).map (api.Line.enc)),J r0_1,J 3]) (keep:=[0]) (frz:=[]) (m:=0) (h':=[.box [.undef,.undef,.undef,.undef,.undef,.undef,.undef]]) rfl rfl (WH.of (by decide) rfl rfl ⟨⟨_,rfl,WO.boxs ⟨(.undef _),(.undef _),(.undef _),(.undef _),(.undef _),(.undef _),(.undef _),trivial⟩⟩,⟨rfl,fun _ h=>by cases h⟩⟩) (WV.tups ⟨(.nilsVs _),(.same (J r0_1) rfl),(.same (J 3) rfl),trivial⟩) ⟨rfl,rfl⟩
  · clear h0
    rintro s ⟨r0_0_1,_,_,_,_,_,_,hj0,rfl⟩
    unfold Src.reader.answer.j0 at hj0
    have ehj0_0:=Option.some.inj hj0
    subst ehj0_0
    conv=>whnf
    exact Returns.hand (v:=.tup [.vs 3 (r0_0_1.map (api.Line.enc)),J 0,J 0]) (keep:=[0]) (frz:=[1,1]) (m:=0) (h':=[.box [.undef,.undef,.undef,.undef,.undef,.undef,.undef]]) rfl rfl (WH.of (by decide) rfl rfl ⟨⟨_,rfl,WO.boxs ⟨(.undef _),(.undef _),(.undef _),(.undef _),(.undef _),(.undef _),(.undef _),trivial⟩⟩,⟨rfl,fun _ h=>by cases h⟩⟩) (WV.tups ⟨(WV.all (k:=1) (by decide) rfl),(.same (J 0) rfl),(.same (J 0) rfl),trivial⟩) ⟨rfl,rfl⟩
noncomputable def Src.Old.j0 (text0:ByteArray) (t11:(List ByteArray)) (t12 t13:Int) (t16:ByteArray) (r5_0_1:List api.Line) (r5_1_1:Int) (r5_2_1:Bool) (r5_3_1 r5_4_1:Int) (r5_5_1:ByteArray) (r5_6_1:Int):Option (((List api.Line) × Int × Bool × Int × Int × ByteArray × Int × Int) ⊕ ((List api.Line) × Int × Int)) :=
  Option.bind (Src.Comment t16 true) fun t31 =>
  letk (!t31) fun t32 =>
  bif t32 then
    letk (IntKind.i64.wrap (t13 + (1:Int))) fun t35 =>
    Option.bind (Src.reader.old r5_0_1 r5_1_1 r5_2_1 r5_3_1 r5_4_1 r5_5_1 r5_6_1 t35 t16) fun (o_0_1,o_1_1,o_2_1,o_3_1,o_4_1,o_5_1,o_6_1) =>
    letk (IntKind.i64.wrap (t13 + (1:Int))) fun t38_1 =>
    some (.inl (o_0_1,o_1_1,o_2_1,o_3_1,o_4_1,o_5_1,o_6_1,t38_1))
  else
    letk (IntKind.i64.wrap (t13 + (1:Int))) fun t38 =>
    some (.inl (r5_0_1,r5_1_1,r5_2_1,r5_3_1,r5_4_1,r5_5_1,r5_6_1,t38))
noncomputable def Src.Old.j1 (text0:ByteArray) (t11:(List ByteArray)) (t12 t13:Int) (t16:ByteArray) (r5_0_2:List api.Line) (r5_1_2:Int) (r5_2_2:Bool) (r5_3_2 r5_4_2:Int) (r5_5_2:ByteArray) (r5_6_2:Int) (t25:Bool):Option (((List api.Line) × Int × Bool × Int × Int × ByteArray × Int × Int) ⊕ ((List api.Line) × Int × Int)) :=
  bif t25 then
    letk (IntKind.i64.wrap (t13 + (1:Int))) fun t28 =>
    Option.bind (Src.reader.fail r5_0_2 r5_1_2 r5_2_2 r5_3_2 r5_4_2 r5_5_2 r5_6_2 t28) fun (o_0_2,o_1_2,o_2_2,o_3_2,o_4_2,o_5_2,o_6_2) =>
    Src.Old.j0 text0 t11 t12 t13 t16 o_0_2 o_1_2 o_2_2 o_3_2 o_4_2 o_5_2 o_6_2
  else
    Src.Old.j0 text0 t11 t12 t13 t16 r5_0_2 r5_1_2 r5_2_2 r5_3_2 r5_4_2 r5_5_2 r5_6_2
noncomputable def Src.Old.s0 (text0:ByteArray) (t11:(List ByteArray)) (t12:Int) (r5_0:List api.Line) (r5_1:Int) (r5_2:Bool) (r5_3 r5_4:Int) (r5_5:ByteArray) (r5_6 t13:Int):Option (((List api.Line) × Int × Bool × Int × Int × ByteArray × Int × Int) ⊕ ((List api.Line) × Int × Int)) :=
  letk (decide (t13 < t12)) fun t14 =>
  bif t14 then
    chk (0 ≤ t13) <|
    Option.bind (t11[t13.toNat]?) fun t16 =>
    Option.bind (Src.isText t16) fun t19 =>
    letk (!t19) fun t20 =>
    bif t20 then
      Src.Old.j1 text0 t11 t12 t13 t16 r5_0 r5_1 r5_2 r5_3 r5_4 r5_5 r5_6 true
    else
      letk ((t16.size:Int)) fun t23 =>
      letk (decide (t23 > (72:Int))) fun t24 =>
      Src.Old.j1 text0 t11 t12 t13 t16 r5_0 r5_1 r5_2 r5_3 r5_4 r5_5 r5_6 t24
  else
    ((
    Option.bind (Src.reader.end_ r5_0 r5_1 r5_2 r5_3 r5_4 r5_5 r5_6) fun (o_0,o_1,o_2,o_3,o_4,o_5,o_6) =>
    Option.bind (Src.reader.answer o_0 o_1 o_2 o_3 o_4 o_5 o_6 text0) fun (t43_0,t43_1,t43_2) =>
    some (t43_0,t43_1,t43_2))).map .inr
noncomputable def Src.Old.l0 (text0:ByteArray) (t11:(List ByteArray)) (t12:Int) (r5_0:List api.Line) (r5_1:Int) (r5_2:Bool) (r5_3 r5_4:Int) (r5_5:ByteArray) (r5_6 t13:Int):Option ((List api.Line) × Int × Int):=loopO (fun v:(List api.Line) × Int × Bool × Int × Int × ByteArray × Int × Int=>Src.Old.s0 text0 t11 t12 v.1 v.2.1 v.2.2.1 v.2.2.2.1 v.2.2.2.2.1 v.2.2.2.2.2.1 v.2.2.2.2.2.2.1 v.2.2.2.2.2.2.2) (r5_0,r5_1,r5_2,r5_3,r5_4,r5_5,r5_6,t13)
noncomputable def Src.Old (text0:ByteArray):Option ((List api.Line) × Int × Int) :=
  Option.bind (Src.lines text0) fun t11 =>
  letk ((t11.length:Int)) fun t12 =>
  Src.Old.l0 text0 t11 t12 ([]) 0 false 0 0 (⟨#[]⟩) 0 0
theorem Src.Old_ok {text0:ByteArray} {r:(List api.Line) × Int × Int} (h0:Src.Old text0 = some r):Gives Tryz.prog 9 [.lit (.string text0)] (.tup [.vs 3 (r.1.map (api.Line.enc)),J r.2.1,J r.2.2]):=by
  unfold Src.Old at h0
  refine ACalls.of_swp Tryz.func9 rfl (by decide) rfl (st0:=⟨47,[(0,.lit (.string text0))],[]⟩) rfl (bwp_ok (C:=[(0,7),(35,13)]) ?_)
  conv=>whnf
  refine Gate.go ?_
  conv=>whnf
  refine Nm.mk ⟨[.nils,J 0,.lit (.bool false),J 0,J 0,.lit (.string (⟨#[]⟩)),.lit (.int .u8 0)],rfl,?_⟩
  conv=>whnf
  refine Nm.mk ⟨[.nils,J 0,.lit (.bool false),J 0,J 0,.lit (.string (⟨#[]⟩)),.lit (.int .u8 0)],rfl,?_⟩
  obtain ⟨t11,et11,h1⟩:=bind_elim h0
  conv=>whnf
  refine Gate.go ?_
  conv=>whnf
  refine CallN.by (v:=.vs 1 (t11.map (eS))) (Src.lines_ok et11) rfl rfl ?_
  obtain ⟨t12,et12,h2⟩:=letk_elim h1
  conv=>whnf
  refine Nm.mk ⟨t12,by rw [et12,List.length_map],?_⟩
  conv=>whnf
  unfold Src.Old.l0 at h2
  refine LoopB.of (σ:=(List api.Line) × Int × Bool × Int × Int × ByteArray × Int × Int) (ρ:=(List api.Line) × Int × Int) (fun v:(List api.Line) × Int × Bool × Int × Int × ByteArray × Int × Int=>Src.Old.s0 text0 t11 t12 v.1 v.2.1 v.2.2.1 v.2.2.2.1 v.2.2.2.2.1 v.2.2.2.2.2.1 v.2.2.2.2.2.2.1 v.2.2.2.2.2.2.2) (fun v=>(⟨47,[(0,.lit (.string text0)),(5,.ptr 0 0),(11,.vs 1 (t11.map (eS))),(12,J t12),(13,J v.2.2.2.2.2.2.2)],[.box [.ref 1 0 ((v.1.map (api.Line.enc)).length),J v.2.1,.lit (.bool v.2.2.1),J v.2.2.2.1,J v.2.2.2.2.1,.lit (.string v.2.2.2.2.2.1),.lit (.int .u8 v.2.2.2.2.2.2.1)],.arr 3 (v.1.map (api.Line.enc))]⟩:St)) ([],0,false,0,0,⟨#[]⟩,0,0) h2 (BackS.of (Sees.of (Weak.objs (keep:=[0]) (frz:=[]) (m:=1) (ts:=[(0,.lit (.string text0)),(5,.ptr 0 0),(11,.vs 1 (t11.map (eS))),(12,J t12),(13,J 0)]) (hs:=[.box [.ref 1 0 ((([]).map (api.Line.enc)).length),J 0,.lit (.bool false),J 0,J 0,.lit (.string ((⟨#[]⟩))),.lit (.int .u8 0)],.arr 3 ((([])).map (api.Line.enc))]) rfl (by decide) rfl rfl ⟨⟨_,rfl,WO.boxs ⟨(.nilsRef 1 (by decide) (by decide)),(.same (J 0) rfl),(.same (.lit (.bool false)) rfl),(.same (J 0) rfl),(.same (J 0) rfl),(.same (.lit (.string (⟨#[]⟩))) rfl),(.same (.lit (.int .u8 0)) rfl),trivial⟩⟩,⟨rfl,fun _ ho=>by simp only [List.mem_cons,List.not_mem_nil,or_false] at ho; exact ⟨_,ho⟩⟩⟩ ⟨(.same (.lit (.string text0)) rfl),(.ptr _ _ 0 rfl),(.same (.vs 1 (t11.map (eS))) rfl),(.same (J t12) rfl),(.same (J 0) rfl),trivial⟩)) rfl) ?_
  rintro _ ⟨r5_0,r5_1,r5_2,r5_3,r5_4,r5_5,r5_6,t13⟩ x1 hs0_0 hl1 hr1
  replace hs0_0:Src.Old.s0 text0 t11 t12 r5_0 r5_1 r5_2 r5_3 r5_4 r5_5 r5_6 t13 = some x1:=hs0_0
  unfold Src.Old.s0 at hs0_0
  change bwp _ _ _ _ _ (⟨47,[(0,.lit (.string text0)),(5,.ptr 0 0),(11,.vs 1 (t11.map (eS))),(12,J t12),(13,J t13)],[.box [.ref 1 0 ((r5_0.map (api.Line.enc)).length),J r5_1,.lit (.bool r5_2),J r5_3,J r5_4,.lit (.string r5_5),.lit (.int .u8 r5_6)],.arr 3 (r5_0.map (api.Line.enc))]⟩:St)
  obtain ⟨t14,et14,hs0_1⟩:=letk_elim hs0_0
  conv=>whnf
  refine Nm.mk ⟨t14,et14,?_⟩
  rcases t14 with _ | _
  · have hs0_2:=bif_f hs0_1
    obtain ⟨_,hs0_2u,ehs0_2_0⟩:=map_elim hs0_2
    have ehs0_2_0:=(hr1 _ ehs0_2_0.symm).symm
    subst ehs0_2_0
    obtain ⟨⟨o_0,o_1,o_2,o_3,o_4,o_5,o_6⟩,ee_t40,hs0_2u0⟩:=bind_elim hs0_2u
    conv=>whnf
    refine Gate.weak (Sees.of (Weak.objs (keep:=[0,1]) (frz:=[]) (m:=0) (ts:=[(0,.lit (.string text0)),(5,.ptr 0 0),(39,.ptr 0 0)]) (hs:=[.box [.ref 1 0 ((r5_0.map (api.Line.enc)).length),J r5_1,.lit (.bool r5_2),J r5_3,J r5_4,.lit (.string r5_5),.lit (.int .u8 r5_6)],.arr 3 (r5_0.map (api.Line.enc))]) rfl (by decide) rfl rfl ⟨⟨_,rfl,WO.boxs ⟨(.ref _ _ _ 1 rfl),(.same (J r5_1) rfl),(.same (.lit (.bool r5_2)) rfl),(.same (J r5_3) rfl),(.same (J r5_4) rfl),(.same (.lit (.string r5_5)) rfl),(.same (.lit (.int .u8 r5_6)) rfl),trivial⟩⟩,⟨⟨_,rfl,.arr _ _⟩,⟨rfl,fun _ h=>by cases h⟩⟩⟩ ⟨(.same (.lit (.string text0)) rfl),(.ptr _ _ 0 rfl),(.ptr _ _ 0 rfl),trivial⟩)) ?_
    conv=>whnf
    refine CallN.hand (k:=1) (v:=.tup []) (hs':=[.box [.ref 1 0 ((o_0.map (api.Line.enc)).length),J o_1,.lit (.bool o_2),J o_3,J o_4,.lit (.string o_5),.lit (.int .u8 o_6)],.arr 3 (o_0.map (api.Line.enc))]) (ts':=[(0,.lit (.string text0)),(5,.ptr 0 0),(39,.ptr 0 0)]) (Src.reader.end__ok ee_t40) rfl rfl ?_
    obtain ⟨⟨t43_0,t43_1,t43_2⟩,ee_t43,hs0_2u1⟩:=bind_elim hs0_2u0
    conv=>whnf
    refine Gate.weak (Sees.of (Weak.objs (keep:=[0,1]) (frz:=[]) (m:=0) (ts:=[(41,.ptr 0 0),(42,.lit (.string text0))]) (hs:=[.box [.ref 1 0 ((o_0.map (api.Line.enc)).length),J o_1,.lit (.bool o_2),J o_3,J o_4,.lit (.string o_5),.lit (.int .u8 o_6)],.arr 3 (o_0.map (api.Line.enc))]) rfl (by decide) rfl rfl ⟨⟨_,rfl,WO.boxs ⟨(.ref _ _ _ 1 rfl),(.same (J o_1) rfl),(.same (.lit (.bool o_2)) rfl),(.same (J o_3) rfl),(.same (J o_4) rfl),(.same (.lit (.string o_5)) rfl),(.same (.lit (.int .u8 o_6)) rfl),trivial⟩⟩,⟨⟨_,rfl,.arr _ _⟩,⟨rfl,fun _ h=>by cases h⟩⟩⟩ ⟨(.ptr _ _ 0 rfl),(.same (.lit (.string text0)) rfl),trivial⟩)) ?_
    conv=>whnf
    refine CallN.hand (k:=1) (v:=.tup [.vs 3 (t43_0.map (api.Line.enc)),J t43_1,J t43_2]) (hs':=[.box [.undef,.undef,.undef,.undef,.undef,.undef,.undef]]) (ts':=[(41,.ptr 0 0),(42,.lit (.string text0))]) (Src.reader.answer_ok ee_t43) rfl rfl ?_
    have ehs0_2u1_0:=Option.some.inj hs0_2u1
    subst ehs0_2u1_0
    conv=>whnf
    exact Returns.pure (r:=.tup [.vs 3 (t43_0.map (api.Line.enc)),J t43_1,J t43_2]) rfl rfl rfl rfl ⟨rfl,rfl⟩
  · have hs0_2:=bif_t hs0_1
    obtain ⟨chs0_3,hs0_3⟩:=chk_elim hs0_2
    obtain ⟨t16,et16,hs0_4⟩:=bind_elim hs0_3
    conv=>whnf
    refine Side.mk chs0_3 ?_
    conv=>whnf
    refine At.by et16 ?_
    conv=>whnf
    refine CutN.of (fun s=>∃ (r5_0_1:List api.Line) (r5_1_1:Int) (r5_2_1:Bool) (r5_3_1 r5_4_1:Int) (r5_5_1:ByteArray) (r5_6_1:Int),Src.Old.j0 text0 t11 t12 t13 t16 r5_0_1 r5_1_1 r5_2_1 r5_3_1 r5_4_1 r5_5_1 r5_6_1 = some x1 ∧ s = (⟨47,[(0,.lit (.string text0)),(5,.ptr 0 0),(6,J t13),(7,.lit (.string t16)),(11,.vs 1 (t11.map (eS))),(12,J t12),(13,J t13)],[.box [.ref 1 0 ((r5_0_1.map (api.Line.enc)).length),J r5_1_1,.lit (.bool r5_2_1),J r5_3_1,J r5_4_1,.lit (.string r5_5_1),.lit (.int .u8 r5_6_1)],.arr 3 (r5_0_1.map (api.Line.enc))]⟩:St)) ?_ ?_
    · conv=>whnf
      refine CutN.of (fun s=>∃ (r5_0_2:List api.Line) (r5_1_2:Int) (r5_2_2:Bool) (r5_3_2 r5_4_2:Int) (r5_5_2:ByteArray) (r5_6_2:Int) (t25:Bool),Src.Old.j1 text0 t11 t12 t13 t16 r5_0_2 r5_1_2 r5_2_2 r5_3_2 r5_4_2 r5_5_2 r5_6_2 t25 = some x1 ∧ s = (⟨47,[(0,.lit (.string text0)),(5,.ptr 0 0),(6,J t13),(7,.lit (.string t16)),(11,.vs 1 (t11.map (eS))),(12,J t12),(13,J t13),(25,.lit (.bool t25))],[.box [.ref 1 0 ((r5_0_2.map (api.Line.enc)).length),J r5_1_2,.lit (.bool r5_2_2),J r5_3_2,J r5_4_2,.lit (.string r5_5_2),.lit (.int .u8 r5_6_2)],.arr 3 (r5_0_2.map (api.Line.enc))]⟩:St)) ?_ ?_
      · obtain ⟨t19,et19,hs0_5⟩:=bind_elim hs0_4
        conv=>whnf
        refine Gate.go ?_
        conv=>whnf
        refine CallN.by (v:=.lit (.bool t19)) (Src.isText_ok et19) rfl rfl ?_
        obtain ⟨t20,et20,hs0_6⟩:=letk_elim hs0_5
        conv=>whnf
        refine Nm.mk ⟨t20,et20,?_⟩
        rcases t20 with _ | _
        · have hs0_7:=bif_f hs0_6
          obtain ⟨t23,et23,hs0_8⟩:=letk_elim hs0_7
          conv=>whnf
          refine Nm.mk ⟨t23,et23,?_⟩
          obtain ⟨t24,et24,hs0_9⟩:=letk_elim hs0_8
          conv=>whnf
          refine Nm.mk ⟨t24,et24,?_⟩
          exact BackS.of (Sees.of (Weak.objs (keep:=[0,1]) (frz:=[]) (m:=0) (ts:=[(0,.lit (.string text0)),(5,.ptr 0 0),(6,J t13),(7,.lit (.string t16)),(11,.vs 1 (t11.map (eS))),(12,J t12),(13,J t13),(25,.lit (.bool t24))]) (hs:=[.box [.ref 1 0 ((r5_0.map (api.Line.enc)).length),J r5_1,.lit (.bool r5_2),J r5_3,J r5_4,.lit (.string r5_5),.lit (.int .u8 r5_6)],.arr 3 (r5_0.map (api.Line.enc))]) rfl (by decide) rfl rfl ⟨⟨_,rfl,WO.boxs ⟨(.ref _ _ _ 1 rfl),(.same (J r5_1) rfl),(.same (.lit (.bool r5_2)) rfl),(.same (J r5_3) rfl),(.same (J r5_4) rfl),(.same (.lit (.string r5_5)) rfl),(.same (.lit (.int .u8 r5_6)) rfl),trivial⟩⟩,⟨⟨_,rfl,.arr _ _⟩,⟨rfl,fun _ h=>by cases h⟩⟩⟩ ⟨(.same (.lit (.string text0)) rfl),(.ptr _ _ 0 rfl),(.same (J t13) rfl),(.same (.lit (.string t16)) rfl),(.same (.vs 1 (t11.map (eS))) rfl),(.same (J t12) rfl),(.same (J t13) rfl),(.same (.lit (.bool t24)) rfl),trivial⟩)) ⟨_,_,_,_,_,_,_,_,hs0_9,rfl⟩
        · have hs0_7:=bif_t hs0_6
          exact BackS.of (Sees.of (Weak.objs (keep:=[0,1]) (frz:=[]) (m:=0) (ts:=[(0,.lit (.string text0)),(5,.ptr 0 0),(6,J t13),(7,.lit (.string t16)),(11,.vs 1 (t11.map (eS))),(12,J t12),(13,J t13),(25,.lit (.bool true))]) (hs:=[.box [.ref 1 0 ((r5_0.map (api.Line.enc)).length),J r5_1,.lit (.bool r5_2),J r5_3,J r5_4,.lit (.string r5_5),.lit (.int .u8 r5_6)],.arr 3 (r5_0.map (api.Line.enc))]) rfl (by decide) rfl rfl ⟨⟨_,rfl,WO.boxs ⟨(.ref _ _ _ 1 rfl),(.same (J r5_1) rfl),(.same (.lit (.bool r5_2)) rfl),(.same (J r5_3) rfl),(.same (J r5_4) rfl),(.same (.lit (.string r5_5)) rfl),(.same (.lit (.int .u8 r5_6)) rfl),trivial⟩⟩,⟨⟨_,rfl,.arr _ _⟩,⟨rfl,fun _ h=>by cases h⟩⟩⟩ ⟨(.same (.lit (.string text0)) rfl),(.ptr _ _ 0 rfl),(.same (J t13) rfl),(.same (.lit (.string t16)) rfl),(.same (.vs 1 (t11.map (eS))) rfl),(.same (J t12) rfl),(.same (J t13) rfl),(.same (.lit (.bool true)) rfl),trivial⟩)) ⟨_,_,_,_,_,_,_,_,hs0_7,rfl⟩
      · clear hs0_4
        rintro s ⟨r5_0_2,r5_1_2,r5_2_2,r5_3_2,r5_4_2,r5_5_2,r5_6_2,t25,hj0,rfl⟩
        unfold Src.Old.j1 at hj0
        rcases t25 with _ | _
        · have hj1:=bif_f hj0
          exact BackS.of (Sees.of (Weak.objs (keep:=[0,1]) (frz:=[]) (m:=0) (ts:=[(0,.lit (.string text0)),(5,.ptr 0 0),(6,J t13),(7,.lit (.string t16)),(11,.vs 1 (t11.map (eS))),(12,J t12),(13,J t13)]) (hs:=[.box [.ref 1 0 ((r5_0_2.map (api.Line.enc)).length),J r5_1_2,.lit (.bool r5_2_2),J r5_3_2,J r5_4_2,.lit (.string r5_5_2),.lit (.int .u8 r5_6_2)],.arr 3 (r5_0_2.map (api.Line.enc))]) rfl (by decide) rfl rfl ⟨⟨_,rfl,WO.boxs ⟨(.ref _ _ _ 1 rfl),(.same (J r5_1_2) rfl),(.same (.lit (.bool r5_2_2)) rfl),(.same (J r5_3_2) rfl),(.same (J r5_4_2) rfl),(.same (.lit (.string r5_5_2)) rfl),(.same (.lit (.int .u8 r5_6_2)) rfl),trivial⟩⟩,⟨⟨_,rfl,.arr _ _⟩,⟨rfl,fun _ h=>by cases h⟩⟩⟩ ⟨(.same (.lit (.string text0)) rfl),(.ptr _ _ 0 rfl),(.same (J t13) rfl),(.same (.lit (.string t16)) rfl),(.same (.vs 1 (t11.map (eS))) rfl),(.same (J t12) rfl),(.same (J t13) rfl),trivial⟩)) ⟨_,_,_,_,_,_,_,hj1,rfl⟩
        · have hj1:=bif_t hj0
          obtain ⟨t28,et28,hj2⟩:=letk_elim hj1
          conv=>whnf
          refine Nm.mk ⟨t28,et28,?_⟩
          obtain ⟨⟨o_0_2,o_1_2,o_2_2,o_3_2,o_4_2,o_5_2,o_6_2⟩,ee_t29,hj3⟩:=bind_elim hj2
          conv=>whnf
          refine Gate.weak (Sees.of (Weak.objs (keep:=[0,1]) (frz:=[]) (m:=0) (ts:=[(0,.lit (.string text0)),(5,.ptr 0 0),(6,J t13),(7,.lit (.string t16)),(11,.vs 1 (t11.map (eS))),(12,J t12),(13,J t13),(26,.ptr 0 0),(28,J t28)]) (hs:=[.box [.ref 1 0 ((r5_0_2.map (api.Line.enc)).length),J r5_1_2,.lit (.bool r5_2_2),J r5_3_2,J r5_4_2,.lit (.string r5_5_2),.lit (.int .u8 r5_6_2)],.arr 3 (r5_0_2.map (api.Line.enc))]) rfl (by decide) rfl rfl ⟨⟨_,rfl,WO.boxs ⟨(.ref _ _ _ 1 rfl),(.same (J r5_1_2) rfl),(.same (.lit (.bool r5_2_2)) rfl),(.same (J r5_3_2) rfl),(.same (J r5_4_2) rfl),(.same (.lit (.string r5_5_2)) rfl),(.same (.lit (.int .u8 r5_6_2)) rfl),trivial⟩⟩,⟨⟨_,rfl,.arr _ _⟩,⟨rfl,fun _ h=>by cases h⟩⟩⟩ ⟨(.same (.lit (.string text0)) rfl),(.ptr _ _ 0 rfl),(.same (J t13) rfl),(.same (.lit (.string t16)) rfl),(.same (.vs 1 (t11.map (eS))) rfl),(.same (J t12) rfl),(.same (J t13) rfl),(.ptr _ _ 0 rfl),(.same (J t28) rfl),trivial⟩)) ?_
          conv=>whnf
          refine CallN.hand (k:=1) (v:=.tup []) (hs':=[.box [.ref 1 0 ((o_0_2.map (api.Line.enc)).length),J o_1_2,.lit (.bool o_2_2),J o_3_2,J o_4_2,.lit (.string o_5_2),.lit (.int .u8 o_6_2)],.arr 3 (o_0_2.map (api.Line.enc))]) (ts':=[(0,.lit (.string text0)),(5,.ptr 0 0),(6,J t13),(7,.lit (.string t16)),(11,.vs 1 (t11.map (eS))),(12,J t12),(13,J t13),(26,.ptr 0 0),(28,J t28)]) (Src.reader.fail_ok ee_t29) rfl rfl ?_
          exact BackS.of (Sees.of (Weak.objs (keep:=[0,1]) (frz:=[]) (m:=0) (ts:=[(0,.lit (.string text0)),(5,.ptr 0 0),(6,J t13),(7,.lit (.string t16)),(11,.vs 1 (t11.map (eS))),(12,J t12),(13,J t13)]) (hs:=[.box [.ref 1 0 ((o_0_2.map (api.Line.enc)).length),J o_1_2,.lit (.bool o_2_2),J o_3_2,J o_4_2,.lit (.string o_5_2),.lit (.int .u8 o_6_2)],.arr 3 (o_0_2.map (api.Line.enc))]) rfl (by decide) rfl rfl ⟨⟨_,rfl,WO.boxs ⟨(.ref _ _ _ 1 rfl),(.same (J o_1_2) rfl),(.same (.lit (.bool o_2_2)) rfl),(.same (J o_3_2) rfl),(.same (J o_4_2) rfl),(.same (.lit (.string o_5_2)) rfl),(.same (.lit (.int .u8 o_6_2)) rfl),trivial⟩⟩,⟨⟨_,rfl,.arr _ _⟩,⟨rfl,fun _ h=>by cases h⟩⟩⟩ ⟨(.same (.lit (.string text0)) rfl),(.ptr _ _ 0 rfl),(.same (J t13) rfl),(.same (.lit (.string t16)) rfl),(.same (.vs 1 (t11.map (eS))) rfl),(.same (J t12) rfl),(.same (J t13) rfl),trivial⟩)) ⟨_,_,_,_,_,_,_,hj3,rfl⟩
    · clear hs0_4
      rintro s ⟨r5_0_1,r5_1_1,r5_2_1,r5_3_1,r5_4_1,r5_5_1,r5_6_1,hj0,rfl⟩
      unfold Src.Old.j0 at hj0
      obtain ⟨t31,et31,hj1⟩:=bind_elim hj0
      conv=>whnf
      refine Gate.go ?_
      conv=>whnf
      refine CallN.by (v:=.lit (.bool t31)) (Src.Comment_ok et31) rfl rfl ?_
      obtain ⟨t32,et32,hj2⟩:=letk_elim hj1
      conv=>whnf
      refine Nm.mk ⟨t32,et32,?_⟩
      rcases t32 with _ | _
      · have hj3:=bif_f hj2
        obtain ⟨t38,et38,hj4⟩:=letk_elim hj3
        conv=>whnf
        refine Nm.mk ⟨t38,et38,?_⟩
        exact BackS.of (Sees.of (Weak.objs (keep:=[0,1]) (frz:=[]) (m:=0) (ts:=[(0,.lit (.string text0)),(5,.ptr 0 0),(11,.vs 1 (t11.map (eS))),(12,J t12),(13,J t38)]) (hs:=[.box [.ref 1 0 ((r5_0_1.map (api.Line.enc)).length),J r5_1_1,.lit (.bool r5_2_1),J r5_3_1,J r5_4_1,.lit (.string r5_5_1),.lit (.int .u8 r5_6_1)],.arr 3 (r5_0_1.map (api.Line.enc))]) rfl (by decide) rfl rfl ⟨⟨_,rfl,WO.boxs ⟨(.ref _ _ _ 1 rfl),(.same (J r5_1_1) rfl),(.same (.lit (.bool r5_2_1)) rfl),(.same (J r5_3_1) rfl),(.same (J r5_4_1) rfl),(.same (.lit (.string r5_5_1)) rfl),(.same (.lit (.int .u8 r5_6_1)) rfl),trivial⟩⟩,⟨⟨_,rfl,.arr _ _⟩,⟨rfl,fun _ h=>by cases h⟩⟩⟩ ⟨(.same (.lit (.string text0)) rfl),(.ptr _ _ 0 rfl),(.same (.vs 1 (t11.map (eS))) rfl),(.same (J t12) rfl),(.same (J t38) rfl),trivial⟩)) ⟨_,hl1 _ (Option.some.inj hj4).symm,rfl⟩
      · have hj3:=bif_t hj2
        obtain ⟨t35,et35,hj4⟩:=letk_elim hj3
        conv=>whnf
        refine Nm.mk ⟨t35,et35,?_⟩
        obtain ⟨⟨o_0_1,o_1_1,o_2_1,o_3_1,o_4_1,o_5_1,o_6_1⟩,ee_t37,hj5⟩:=bind_elim hj4
        conv=>whnf
        refine Gate.weak (Sees.of (Weak.objs (keep:=[0,1]) (frz:=[]) (m:=0) (ts:=[(0,.lit (.string text0)),(5,.ptr 0 0),(11,.vs 1 (t11.map (eS))),(12,J t12),(13,J t13),(33,.ptr 0 0),(35,J t35),(36,.lit (.string t16))]) (hs:=[.box [.ref 1 0 ((r5_0_1.map (api.Line.enc)).length),J r5_1_1,.lit (.bool r5_2_1),J r5_3_1,J r5_4_1,.lit (.string r5_5_1),.lit (.int .u8 r5_6_1)],.arr 3 (r5_0_1.map (api.Line.enc))]) rfl (by decide) rfl rfl ⟨⟨_,rfl,WO.boxs ⟨(.ref _ _ _ 1 rfl),(.same (J r5_1_1) rfl),(.same (.lit (.bool r5_2_1)) rfl),(.same (J r5_3_1) rfl),(.same (J r5_4_1) rfl),(.same (.lit (.string r5_5_1)) rfl),(.same (.lit (.int .u8 r5_6_1)) rfl),trivial⟩⟩,⟨⟨_,rfl,.arr _ _⟩,⟨rfl,fun _ h=>by cases h⟩⟩⟩ ⟨(.same (.lit (.string text0)) rfl),(.ptr _ _ 0 rfl),(.same (.vs 1 (t11.map (eS))) rfl),(.same (J t12) rfl),(.same (J t13) rfl),(.ptr _ _ 0 rfl),(.same (J t35) rfl),(.same (.lit (.string t16)) rfl),trivial⟩)) ?_
        conv=>whnf
        refine CallN.hand (k:=1) (v:=.tup []) (hs':=[.box [.ref 1 0 ((o_0_1.map (api.Line.enc)).length),J o_1_1,.lit (.bool o_2_1),J o_3_1,J o_4_1,.lit (.string o_5_1),.lit (.int .u8 o_6_1)],.arr 3 (o_0_1.map (api.Line.enc))]) (ts':=[(0,.lit (.string text0)),(5,.ptr 0 0),(11,.vs 1 (t11.map (eS))),(12,J t12),(13,J t13),(33,.ptr 0 0),(35,J t35),(36,.lit (.string t16))]) (Src.reader.old_ok ee_t37) rfl rfl ?_
        obtain ⟨t38_1,et38_1,hj6⟩:=letk_elim hj5
        conv=>whnf
        refine Nm.mk ⟨t38_1,et38_1,?_⟩
        exact BackS.of (Sees.of (Weak.objs (keep:=[0,1]) (frz:=[]) (m:=0) (ts:=[(0,.lit (.string text0)),(5,.ptr 0 0),(11,.vs 1 (t11.map (eS))),(12,J t12),(13,J t38_1)]) (hs:=[.box [.ref 1 0 ((o_0_1.map (api.Line.enc)).length),J o_1_1,.lit (.bool o_2_1),J o_3_1,J o_4_1,.lit (.string o_5_1),.lit (.int .u8 o_6_1)],.arr 3 (o_0_1.map (api.Line.enc))]) rfl (by decide) rfl rfl ⟨⟨_,rfl,WO.boxs ⟨(.ref _ _ _ 1 rfl),(.same (J o_1_1) rfl),(.same (.lit (.bool o_2_1)) rfl),(.same (J o_3_1) rfl),(.same (J o_4_1) rfl),(.same (.lit (.string o_5_1)) rfl),(.same (.lit (.int .u8 o_6_1)) rfl),trivial⟩⟩,⟨⟨_,rfl,.arr _ _⟩,⟨rfl,fun _ h=>by cases h⟩⟩⟩ ⟨(.same (.lit (.string text0)) rfl),(.ptr _ _ 0 rfl),(.same (.vs 1 (t11.map (eS))) rfl),(.same (J t12) rfl),(.same (J t38_1) rfl),trivial⟩)) ⟨_,hl1 _ (Option.some.inj hj6).symm,rfl⟩
noncomputable def Law3.Awake :Option Bool :=
  Option.bind (Src.Old ⟨#[32,32,32,49,48,32,120,32,61,32,49,10,32,32,32,32,32,38,32,32,43,32,50,10]⟩) fun (t5_0,t5_1,t5_2) =>
  letk (t5_1 == (0:Int)) fun t10 =>
  bif t10 then
    letk (t5_2 == (0:Int)) fun t13 =>
    bif t13 then
      letk ((t5_0.length:Int)) fun t17 =>
      letk (t17 == (1:Int)) fun t18 =>
      bif t18 then
        chk (0 ≤ (0:Int)) <|
        Option.bind (t5_0[(0:Int).toNat]?) fun t22 =>
        letk (t22.Label == (10:Int)) fun t25 =>
        bif t25 then
          chk (0 ≤ (0:Int)) <|
          Option.bind (t5_0[(0:Int).toNat]?) fun t29 =>
          letk (t29.At == (1:Int)) fun t32 =>
          bif t32 then
            chk (0 ≤ (0:Int)) <|
            Option.bind (t5_0[(0:Int).toNat]?) fun t36 =>
            letk ((t36.Text.size:Int)) fun t39 =>
            letk (t39 == (71:Int)) fun t40 =>
            some t40
          else
            some false
        else
          some false
      else
        some false
    else
      some false
  else
    some false
theorem Law3.Awake_ok {r:Bool} (h0:Law3.Awake = some r):Gives Tryz.prog 8 [] (.lit (.bool r)):=by
  unfold Law3.Awake at h0
  refine ACalls.of_swp Tryz.func8 rfl (by decide) rfl (st0:=⟨42,[],[]⟩) rfl (bwp_ok (C:=[]) ?_)
  obtain ⟨⟨t5_0,t5_1,t5_2⟩,et5,h1⟩:=bind_elim h0
  conv=>whnf
  refine Gate.go ?_
  conv=>whnf
  refine CallN.by (v:=.tup [.vs 3 (t5_0.map (api.Line.enc)),J t5_1,J t5_2]) (Src.Old_ok et5) rfl rfl ?_
  obtain ⟨t10,et10,h2⟩:=letk_elim h1
  conv=>whnf
  refine Nm.mk ⟨t10,et10,?_⟩
  rcases t10 with _ | _
  · have h3:=bif_f h2
    have eh3_0:=Option.some.inj h3
    subst eh3_0
    conv=>whnf
    exact Returns.pure (r:=.lit (.bool false)) rfl rfl rfl rfl ⟨rfl,rfl⟩
  · have h3:=bif_t h2
    obtain ⟨t13,et13,h4⟩:=letk_elim h3
    conv=>whnf
    refine Nm.mk ⟨t13,et13,?_⟩
    rcases t13 with _ | _
    · have h5:=bif_f h4
      have eh5_0:=Option.some.inj h5
      subst eh5_0
      conv=>whnf
      exact Returns.pure (r:=.lit (.bool false)) rfl rfl rfl rfl ⟨rfl,rfl⟩
    · have h5:=bif_t h4
      obtain ⟨t17,et17,h6⟩:=letk_elim h5
      conv=>whnf
      refine Nm.mk ⟨t17,by rw [et17,List.length_map],?_⟩
      obtain ⟨t18,et18,h7⟩:=letk_elim h6
      conv=>whnf
      refine Nm.mk ⟨t18,et18,?_⟩
      rcases t18 with _ | _
      · have h8:=bif_f h7
        have eh8_0:=Option.some.inj h8
        subst eh8_0
        conv=>whnf
        exact Returns.pure (r:=.lit (.bool false)) rfl rfl rfl rfl ⟨rfl,rfl⟩
      · have h8:=bif_t h7
        obtain ⟨ch9,h9⟩:=chk_elim h8
        obtain ⟨_,et22,h10⟩:=bind_elim h9
        conv=>whnf
        refine Side.mk ch9 ?_
        conv=>whnf
        refine At.by et22 ?_
        obtain ⟨t25,et25,h11⟩:=letk_elim h10
        conv=>whnf
        refine Nm.mk ⟨t25,et25,?_⟩
        rcases t25 with _ | _
        · have h12:=bif_f h11
          have eh12_0:=Option.some.inj h12
          subst eh12_0
          conv=>whnf
          exact Returns.pure (r:=.lit (.bool false)) rfl rfl rfl rfl ⟨rfl,rfl⟩
        · have h12:=bif_t h11
          obtain ⟨ch13,h13⟩:=chk_elim h12
          obtain ⟨_,et29,h14⟩:=bind_elim h13
          conv=>whnf
          refine Side.mk ch13 ?_
          conv=>whnf
          refine At.by et29 ?_
          obtain ⟨t32,et32,h15⟩:=letk_elim h14
          conv=>whnf
          refine Nm.mk ⟨t32,et32,?_⟩
          rcases t32 with _ | _
          · have h16:=bif_f h15
            have eh16_0:=Option.some.inj h16
            subst eh16_0
            conv=>whnf
            exact Returns.pure (r:=.lit (.bool false)) rfl rfl rfl rfl ⟨rfl,rfl⟩
          · have h16:=bif_t h15
            obtain ⟨ch17,h17⟩:=chk_elim h16
            obtain ⟨_,et36,h18⟩:=bind_elim h17
            conv=>whnf
            refine Side.mk ch17 ?_
            conv=>whnf
            refine At.by et36 ?_
            obtain ⟨t39,et39,h19⟩:=letk_elim h18
            conv=>whnf
            refine Nm.mk ⟨t39,et39,?_⟩
            obtain ⟨t40,et40,h20⟩:=letk_elim h19
            conv=>whnf
            refine Nm.mk ⟨t40,et40,?_⟩
            have eh20_0:=Option.some.inj h20
            subst eh20_0
            conv=>whnf
            exact Returns.pure (r:=.lit (.bool t40)) rfl rfl rfl rfl ⟨rfl,rfl⟩
noncomputable def Ref3.reader.wrong.j0 (r0_0:List api.Line) (r0_1:Int) (r0_2:ByteArray) (r0_3 r0_5 line1:Int) (r0_4_1 t16:Bool):Option ((List api.Line) × Int × ByteArray × Int × Bool × Int) :=
  bif t16 then
    some (r0_0,r0_1,r0_2,r0_3,r0_4_1,line1)
  else
    some (r0_0,r0_1,r0_2,r0_3,r0_4_1,r0_5)
noncomputable def Ref3.reader.wrong (r0_0:List api.Line) (r0_1:Int) (r0_2:ByteArray) (r0_3:Int) (r0_4:Bool) (r0_5 line1:Int):Option ((List api.Line) × Int × ByteArray × Int × Bool × Int) :=
  letk (r0_5 == (0:Int)) fun t8 =>
  bif t8 then
    Ref3.reader.wrong.j0 r0_0 r0_1 r0_2 r0_3 r0_5 line1 r0_4 true
  else
    letk (decide (line1 < r0_5)) fun t15 =>
    Ref3.reader.wrong.j0 r0_0 r0_1 r0_2 r0_3 r0_5 line1 r0_4 t15
noncomputable def Ref3.right.j0 (s0_1:ByteArray):Option (ByteArray ⊕ ByteArray) :=
  letk ((s0_1.size:Int)) fun t16 =>
  letk (IntKind.i64.wrap (t16 - (1:Int))) fun t17 =>
  chk (0 ≤ t17 ∧ t17 ≤ (s0_1.size:Int)) <|
  letk (s0_1.extract 0 t17.toNat) fun t18 =>
  some (.inl t18)
noncomputable def Ref3.right.s0 (s0_1:ByteArray):Option (ByteArray ⊕ ByteArray) :=
  letk ((s0_1.size:Int)) fun t4 =>
  letk (decide (t4 > (0:Int))) fun t5 =>
  bif t5 then
    letk ((s0_1.size:Int)) fun t9 =>
    letk (IntKind.i64.wrap (t9 - (1:Int))) fun t10 =>
    chk (0 ≤ t10 ∧ t10 < (s0_1.size:Int)) <|
    letk (bt s0_1 t10) fun t11 =>
    letk (t11 == (32:Int)) fun t12 =>
    bif t12 then
      Ref3.right.j0 s0_1
    else
      some (.inr s0_1)
  else
    some (.inr s0_1)
noncomputable def Ref3.right.l0 (s0_1:ByteArray):Option ByteArray:=loopO (fun v:ByteArray=>Ref3.right.s0 v) s0_1
theorem Ref3.right.l0_eq (s0_1:ByteArray):Ref3.right.l0 s0_1 = (Ref3.right.s0 s0_1).bind (Sum.elim (fun v=>Ref3.right.l0 v) some):=loopO_eq _ _
noncomputable def Ref3.right (s0:ByteArray):Option ByteArray :=
  Ref3.right.l0 s0
noncomputable def Ref3.trim.s0 (s0_1:ByteArray):Option (ByteArray ⊕ ByteArray) :=
  letk ((s0_1.size:Int)) fun t4 =>
  letk (decide (t4 > (0:Int))) fun t5 =>
  bif t5 then
    chk (0 ≤ (0:Int) ∧ (0:Int) < (s0_1.size:Int)) <|
    letk (bt s0_1 (0:Int)) fun t8 =>
    letk (t8 == (32:Int)) fun t9 =>
    bif t9 then
      chk (0 ≤ (1:Int) ∧ (1:Int) ≤ (s0_1.size:Int)) <|
      letk (s0_1.extract (1:Int).toNat s0_1.size) fun t12 =>
      some (.inl t12)
    else
      ((
      Option.bind (Ref3.right s0_1) fun t14_1 =>
      some t14_1)).map .inr
  else
    ((
    Option.bind (Ref3.right s0_1) fun t14 =>
    some t14)).map .inr
noncomputable def Ref3.trim.l0 (s0_1:ByteArray):Option ByteArray:=loopO (fun v:ByteArray=>Ref3.trim.s0 v) s0_1
theorem Ref3.trim.l0_eq (s0_1:ByteArray):Ref3.trim.l0 s0_1 = (Ref3.trim.s0 s0_1).bind (Sum.elim (fun v=>Ref3.trim.l0 v) some):=loopO_eq _ _
noncomputable def Ref3.trim (s0:ByteArray):Option ByteArray :=
  Ref3.trim.l0 s0
noncomputable def Ref3.Comment (line0:ByteArray) (old1:Bool):Option Bool :=
  Option.bind (Ref3.trim line0) fun t8 =>
  letk (t8.toList == (⟨#[]⟩:ByteArray).toList) fun t10 =>
  bif t10 then
    some true
  else
    bif old1 then
      chk (0 ≤ (0:Int) ∧ (0:Int) < (line0.size:Int)) <|
      letk (bt line0 (0:Int)) fun t13 =>
      letk (t13 == (67:Int)) fun t15 =>
      bif t15 then
        some true
      else
        letk (t13 == (99:Int)) fun t18 =>
        bif t18 then
          some true
        else
          letk (t13 == (42:Int)) fun t22 =>
          bif t22 then
            some true
          else
            letk (t13 == (33:Int)) fun t26 =>
            some t26
    else
      chk (0 ≤ (0:Int) ∧ (0:Int) < (t8.size:Int)) <|
      letk (bt t8 (0:Int)) fun t29 =>
      letk (t29 == (33:Int)) fun t30 =>
      some t30
end Go.Q
