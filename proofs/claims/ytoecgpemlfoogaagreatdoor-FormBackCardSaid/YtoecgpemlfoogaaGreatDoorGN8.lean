import Derived.Test.YtoecgpemlfoogaaGreatDoorGN7
import Derived.Test.YtoecgpemlfoogaaGreatDoorFX
import Derived.Test.YtoecgpemlfoogaaGreatDoorProg
namespace Go.Q
open Go Go.Proofs
set_option maxRecDepth 10000
set_option maxHeartbeats 2000000
noncomputable def Src.New.j1 (text0:ByteArray) (t14:(List ByteArray)) (t15 t16:Int) (r5_0_2:List api.Line) (r5_1_2:Int) (r5_2_2:Bool) (r5_3_2 r5_4_2:Int) (r5_5_2:ByteArray) (r5_6_2:Int) (s8:ByteArray):Option (((List api.Line) × Int × Bool × Int × Int × ByteArray × Int × Int × Int) ⊕ ((List api.Line) × Int × Int)) :=
  letk (IntKind.i64.wrap (t16 + (1:Int))) fun t72 =>
  Option.bind (Src.reader.fresh r5_0_2 r5_1_2 r5_2_2 r5_3_2 r5_4_2 r5_5_2 r5_6_2 t72 s8) fun (o_0_2,o_1_2,o_2_2,o_3_2,o_4_2,o_5_2,o_6_2,t74) =>
  bif t74 then
    letk (IntKind.i64.wrap (t16 + (1:Int))) fun t76 =>
    letk (IntKind.i64.wrap (t16 + (1:Int))) fun t77_1 =>
    some (.inl (o_0_2,o_1_2,o_2_2,o_3_2,o_4_2,o_5_2,o_6_2,t76,t77_1))
  else
    letk (IntKind.i64.wrap (t16 + (1:Int))) fun t77 =>
    some (.inl (o_0_2,o_1_2,o_2_2,o_3_2,o_4_2,o_5_2,o_6_2,0,t77))
noncomputable def Src.New.j3 (text0:ByteArray) (t14:(List ByteArray)) (t15 t16:Int) (r5_0_3:List api.Line) (r5_1_3 r5_3_3 r5_4_3:Int) (r5_5_3:ByteArray) (r5_6_3:Int) (t47_0:ByteArray) (r5_2_4 mark10 t50:Bool):Option (((List api.Line) × Int × Bool × Int × Int × ByteArray × Int × Int × Int) ⊕ ((List api.Line) × Int × Int)) :=
  bif t50 then
    letk (IntKind.i64.wrap (t16 + (1:Int))) fun t62 =>
    Option.bind (Src.reader.fail r5_0_3 r5_1_3 r5_2_4 r5_3_3 r5_4_3 r5_5_3 r5_6_3 t62) fun (o_0_3,o_1_3,o_2_3,o_3_3,o_4_3,o_5_3,o_6_3) =>
    Src.New.j1 text0 t14 t15 t16 o_0_3 o_1_3 o_2_3 o_3_3 o_4_3 o_5_3 o_6_3 t47_0
  else
    letk (!mark10) fun t66 =>
    bif t66 then
      chk ((((⟨#[32]⟩:ByteArray).size + t47_0.size:Nat):Int) ≤ 9223372036854775807) <|
      letk ((⟨#[32]⟩:ByteArray) ++ t47_0) fun t68 =>
      Src.New.j1 text0 t14 t15 t16 r5_0_3 r5_1_3 r5_2_4 r5_3_3 r5_4_3 r5_5_3 r5_6_3 t68
    else
      Src.New.j1 text0 t14 t15 t16 r5_0_3 r5_1_3 r5_2_4 r5_3_3 r5_4_3 r5_5_3 r5_6_3 t47_0
noncomputable def Src.New.j2 (text0:ByteArray) (t14:(List ByteArray)) (t15 t16:Int) (t19:ByteArray) (r5_0_3:List api.Line) (r5_1_3:Int) (r5_2_3:Bool) (r5_3_3 r5_4_3:Int) (r5_5_3:ByteArray) (r5_6_3:Int):Option (((List api.Line) × Int × Bool × Int × Int × ByteArray × Int × Int × Int) ⊕ ((List api.Line) × Int × Int)) :=
  Option.bind (Strs.TrimLeft t19 ⟨#[32]⟩) fun t46 =>
  Option.bind (Strs.CutPrefix t46 ⟨#[38]⟩) fun (t47_0,t47_1) =>
  letk (!t47_1) fun t52 =>
  bif t52 then
    letk (r5_6_3 != (0:Int)) fun t58 =>
    Src.New.j3 text0 t14 t15 t16 r5_0_3 r5_1_3 r5_3_3 r5_4_3 r5_5_3 r5_6_3 t47_0 r5_2_3 t47_1 t58
  else
    Src.New.j3 text0 t14 t15 t16 r5_0_3 r5_1_3 r5_3_3 r5_4_3 r5_5_3 r5_6_3 t47_0 r5_2_3 t47_1 false
noncomputable def Src.New.j0 (text0:ByteArray) (t14:(List ByteArray)) (t15 on6 t16:Int) (t19:ByteArray) (r5_0_1:List api.Line) (r5_1_1:Int) (r5_2_1:Bool) (r5_3_1 r5_4_1:Int) (r5_5_1:ByteArray) (r5_6_1:Int):Option (((List api.Line) × Int × Bool × Int × Int × ByteArray × Int × Int × Int) ⊕ ((List api.Line) × Int × Int)) :=
  letk (decide (on6 > (0:Int))) fun t34 =>
  bif t34 then
    letk (r5_6_1 == (0:Int)) fun t39 =>
    bif t39 then
      Option.bind (Src.Comment t19 false) fun t42 =>
      bif t42 then
        letk (IntKind.i64.wrap (t16 + (1:Int))) fun t77_2 =>
        some (.inl (r5_0_1,r5_1_1,r5_2_1,r5_3_1,r5_4_1,r5_5_1,r5_6_1,on6,t77_2))
      else
        Src.New.j2 text0 t14 t15 t16 t19 r5_0_1 r5_1_1 r5_2_1 r5_3_1 r5_4_1 r5_5_1 r5_6_1
    else
      Src.New.j2 text0 t14 t15 t16 t19 r5_0_1 r5_1_1 r5_2_1 r5_3_1 r5_4_1 r5_5_1 r5_6_1
  else
    Src.New.j1 text0 t14 t15 t16 r5_0_1 r5_1_1 r5_2_1 r5_3_1 r5_4_1 r5_5_1 r5_6_1 t19
noncomputable def Src.New.j4 (text0:ByteArray) (t14:(List ByteArray)) (t15 on6 t16:Int) (t19:ByteArray) (r5_0_4:List api.Line) (r5_1_4:Int) (r5_2_5:Bool) (r5_3_4 r5_4_4:Int) (r5_5_4:ByteArray) (r5_6_4:Int) (t28:Bool):Option (((List api.Line) × Int × Bool × Int × Int × ByteArray × Int × Int × Int) ⊕ ((List api.Line) × Int × Int)) :=
  bif t28 then
    letk (IntKind.i64.wrap (t16 + (1:Int))) fun t31 =>
    Option.bind (Src.reader.fail r5_0_4 r5_1_4 r5_2_5 r5_3_4 r5_4_4 r5_5_4 r5_6_4 t31) fun (o_0_4,o_1_4,o_2_4,o_3_4,o_4_4,o_5_4,o_6_4) =>
    Src.New.j0 text0 t14 t15 on6 t16 t19 o_0_4 o_1_4 o_2_4 o_3_4 o_4_4 o_5_4 o_6_4
  else
    Src.New.j0 text0 t14 t15 on6 t16 t19 r5_0_4 r5_1_4 r5_2_5 r5_3_4 r5_4_4 r5_5_4 r5_6_4
noncomputable def Src.New.s0 (text0:ByteArray) (t14:(List ByteArray)) (t15:Int) (r5_0:List api.Line) (r5_1:Int) (r5_2:Bool) (r5_3 r5_4:Int) (r5_5:ByteArray) (r5_6 on6 t16:Int):Option (((List api.Line) × Int × Bool × Int × Int × ByteArray × Int × Int × Int) ⊕ ((List api.Line) × Int × Int)) :=
  letk (decide (t16 < t15)) fun t17 =>
  bif t17 then
    chk (0 ≤ t16) <|
    Option.bind (t14[t16.toNat]?) fun t19 =>
    Option.bind (Src.isText t19) fun t22 =>
    letk (!t22) fun t23 =>
    bif t23 then
      Src.New.j4 text0 t14 t15 on6 t16 t19 r5_0 r5_1 r5_2 r5_3 r5_4 r5_5 r5_6 true
    else
      letk ((t19.size:Int)) fun t26 =>
      letk (decide (t26 > (132:Int))) fun t27 =>
      Src.New.j4 text0 t14 t15 on6 t16 t19 r5_0 r5_1 r5_2 r5_3 r5_4 r5_5 r5_6 t27
  else
    ((
    letk (decide (on6 > (0:Int))) fun t79 =>
    bif t79 then
      Option.bind (Src.reader.fail r5_0 r5_1 r5_2 r5_3 r5_4 r5_5 r5_6 on6) fun (o_0,o_1,o_2,o_3,o_4,o_5,o_6) =>
      Option.bind (Src.reader.over_ o_0 o_1 o_2 o_3 o_4 o_5 o_6) fun (o_0_1,o_1_1,o_2_1,o_3_1,o_4_1,o_5_1,o_6_1) =>
      Option.bind (Src.reader.answer o_0_1 o_1_1 o_2_1 o_3_1 o_4_1 o_5_1 o_6_1 text0) fun (t87_0_1,t87_1_1,t87_2_1) =>
      some (t87_0_1,t87_1_1,t87_2_1)
    else
      Option.bind (Src.reader.answer r5_0 r5_1 r5_2 r5_3 r5_4 r5_5 r5_6 text0) fun (t87_0,t87_1,t87_2) =>
      some (t87_0,t87_1,t87_2))).map .inr
noncomputable def Src.New.l0 (text0:ByteArray) (t14:(List ByteArray)) (t15:Int) (r5_0:List api.Line) (r5_1:Int) (r5_2:Bool) (r5_3 r5_4:Int) (r5_5:ByteArray) (r5_6 on6 t16:Int):Option ((List api.Line) × Int × Int):=loopO (fun v:(List api.Line) × Int × Bool × Int × Int × ByteArray × Int × Int × Int=>Src.New.s0 text0 t14 t15 v.1 v.2.1 v.2.2.1 v.2.2.2.1 v.2.2.2.2.1 v.2.2.2.2.2.1 v.2.2.2.2.2.2.1 v.2.2.2.2.2.2.2.1 v.2.2.2.2.2.2.2.2) (r5_0,r5_1,r5_2,r5_3,r5_4,r5_5,r5_6,on6,t16)
noncomputable def Src.New (text0:ByteArray):Option ((List api.Line) × Int × Int) :=
  Option.bind (Src.lines text0) fun t14 =>
  letk ((t14.length:Int)) fun t15 =>
  Src.New.l0 text0 t14 t15 ([]) 0 false 0 0 (⟨#[]⟩) 0 0 0
theorem Src.New_ok {text0:ByteArray} {r:(List api.Line) × Int × Int} (h0:Src.New text0 = some r):Gives Tryz.prog 19 [.lit (.string text0)] (.tup [.vs 3 (r.1.map (api.Line.enc)),J r.2.1,J r.2.2]):=by
  unfold Src.New at h0
  refine ACalls.of_swp Tryz.func19 rfl (by decide) rfl (st0:=⟨91,[(0,.lit (.string text0))],[]⟩) rfl (bwp_ok (C:=[(0,8),(0,16),(0,10),(60,25),(38,15)]) ?_)
  conv=>whnf
  refine Gate.go ?_
  conv=>whnf
  refine Nm.mk ⟨[.nils,J 0,.lit (.bool false),J 0,J 0,.lit (.string (⟨#[]⟩)),.lit (.int .u8 0)],rfl,?_⟩
  conv=>whnf
  refine Nm.mk ⟨[.nils,J 0,.lit (.bool false),J 0,J 0,.lit (.string (⟨#[]⟩)),.lit (.int .u8 0)],rfl,?_⟩
  obtain ⟨t14,et14,h1⟩:=bind_elim h0
  conv=>whnf
  refine Gate.go ?_
  conv=>whnf
  refine CallN.by (v:=.vs 1 (t14.map (eS))) (Src.lines_ok et14) rfl rfl ?_
  obtain ⟨t15,et15,h2⟩:=letk_elim h1
  conv=>whnf
  refine Nm.mk ⟨t15,by rw [et15,List.length_map],?_⟩
  conv=>whnf
  unfold Src.New.l0 at h2
  refine LoopB.of (σ:=(List api.Line) × Int × Bool × Int × Int × ByteArray × Int × Int × Int) (ρ:=(List api.Line) × Int × Int) (fun v:(List api.Line) × Int × Bool × Int × Int × ByteArray × Int × Int × Int=>Src.New.s0 text0 t14 t15 v.1 v.2.1 v.2.2.1 v.2.2.2.1 v.2.2.2.2.1 v.2.2.2.2.2.1 v.2.2.2.2.2.2.1 v.2.2.2.2.2.2.2.1 v.2.2.2.2.2.2.2.2) (fun v=>(⟨91,[(0,.lit (.string text0)),(5,.ptr 0 0),(6,J v.2.2.2.2.2.2.2.1),(14,.vs 1 (t14.map (eS))),(15,J t15),(16,J v.2.2.2.2.2.2.2.2)],[.box [.ref 1 0 ((v.1.map (api.Line.enc)).length),J v.2.1,.lit (.bool v.2.2.1),J v.2.2.2.1,J v.2.2.2.2.1,.lit (.string v.2.2.2.2.2.1),.lit (.int .u8 v.2.2.2.2.2.2.1)],.arr 3 (v.1.map (api.Line.enc))]⟩:St)) ([],0,false,0,0,⟨#[]⟩,0,0,0) h2 (BackS.of (Sees.of (Weak.objs (keep:=[0]) (frz:=[]) (m:=1) (ts:=[(0,.lit (.string text0)),(5,.ptr 0 0),(6,J 0),(14,.vs 1 (t14.map (eS))),(15,J t15),(16,J 0)]) (hs:=[.box [.ref 1 0 ((([]).map (api.Line.enc)).length),J 0,.lit (.bool false),J 0,J 0,.lit (.string ((⟨#[]⟩))),.lit (.int .u8 0)],.arr 3 ((([])).map (api.Line.enc))]) rfl (by decide) rfl rfl ⟨⟨_,rfl,WO.boxs ⟨(.nilsRef 1 (by decide) (by decide)),(.same (J 0) rfl),(.same (.lit (.bool false)) rfl),(.same (J 0) rfl),(.same (J 0) rfl),(.same (.lit (.string (⟨#[]⟩))) rfl),(.same (.lit (.int .u8 0)) rfl),trivial⟩⟩,⟨rfl,fun _ ho=>by simp only [List.mem_cons,List.not_mem_nil,or_false] at ho; exact ⟨_,ho⟩⟩⟩ ⟨(.same (.lit (.string text0)) rfl),(.ptr _ _ 0 rfl),(.same (J 0) rfl),(.same (.vs 1 (t14.map (eS))) rfl),(.same (J t15) rfl),(.same (J 0) rfl),trivial⟩)) rfl) ?_
  rintro _ ⟨r5_0,r5_1,r5_2,r5_3,r5_4,r5_5,r5_6,on6,t16⟩ x1 hs0_0 hl1 hr1
  replace hs0_0:Src.New.s0 text0 t14 t15 r5_0 r5_1 r5_2 r5_3 r5_4 r5_5 r5_6 on6 t16 = some x1:=hs0_0
  unfold Src.New.s0 at hs0_0
  change bwp _ _ _ _ _ (⟨91,[(0,.lit (.string text0)),(5,.ptr 0 0),(6,J on6),(14,.vs 1 (t14.map (eS))),(15,J t15),(16,J t16)],[.box [.ref 1 0 ((r5_0.map (api.Line.enc)).length),J r5_1,.lit (.bool r5_2),J r5_3,J r5_4,.lit (.string r5_5),.lit (.int .u8 r5_6)],.arr 3 (r5_0.map (api.Line.enc))]⟩:St)
  obtain ⟨t17,et17,hs0_1⟩:=letk_elim hs0_0
  conv=>whnf
  refine Nm.mk ⟨t17,et17,?_⟩
  rcases t17 with _ | _
  · have hs0_2:=bif_f hs0_1
    obtain ⟨_,hs0_2u,ehs0_2_0⟩:=map_elim hs0_2
    have ehs0_2_0:=(hr1 _ ehs0_2_0.symm).symm
    subst ehs0_2_0
    obtain ⟨t79,et79,hs0_2u0⟩:=letk_elim hs0_2u
    conv=>whnf
    refine Nm.mk ⟨t79,et79,?_⟩
    rcases t79 with _ | _
    · have hs0_2u1:=bif_f hs0_2u0
      obtain ⟨⟨t87_0,t87_1,t87_2⟩,ee_t87,hs0_2u2⟩:=bind_elim hs0_2u1
      conv=>whnf
      refine Gate.weak (Sees.of (Weak.objs (keep:=[0,1]) (frz:=[]) (m:=0) (ts:=[(85,.ptr 0 0),(86,.lit (.string text0))]) (hs:=[.box [.ref 1 0 ((r5_0.map (api.Line.enc)).length),J r5_1,.lit (.bool r5_2),J r5_3,J r5_4,.lit (.string r5_5),.lit (.int .u8 r5_6)],.arr 3 (r5_0.map (api.Line.enc))]) rfl (by decide) rfl rfl ⟨⟨_,rfl,WO.boxs ⟨(.ref _ _ _ 1 rfl),(.same (J r5_1) rfl),(.same (.lit (.bool r5_2)) rfl),(.same (J r5_3) rfl),(.same (J r5_4) rfl),(.same (.lit (.string r5_5)) rfl),(.same (.lit (.int .u8 r5_6)) rfl),trivial⟩⟩,⟨⟨_,rfl,.arr _ _⟩,⟨rfl,fun _ h=>by cases h⟩⟩⟩ ⟨(.ptr _ _ 0 rfl),(.same (.lit (.string text0)) rfl),trivial⟩)) ?_
      conv=>whnf
      refine CallN.hand (k:=1) (v:=.tup [.vs 3 (t87_0.map (api.Line.enc)),J t87_1,J t87_2]) (hs':=[.box [.undef,.undef,.undef,.undef,.undef,.undef,.undef]]) (ts':=[(85,.ptr 0 0),(86,.lit (.string text0))]) (Src.reader.answer_ok ee_t87) rfl rfl ?_
      have ehs0_2u2_0:=Option.some.inj hs0_2u2
      subst ehs0_2u2_0
      conv=>whnf
      exact Returns.pure (r:=.tup [.vs 3 (t87_0.map (api.Line.enc)),J t87_1,J t87_2]) rfl rfl rfl rfl ⟨rfl,rfl⟩
    · have hs0_2u1:=bif_t hs0_2u0
      obtain ⟨⟨o_0,o_1,o_2,o_3,o_4,o_5,o_6⟩,ee_t82,hs0_2u2⟩:=bind_elim hs0_2u1
      conv=>whnf
      refine Gate.weak (Sees.of (Weak.objs (keep:=[0,1]) (frz:=[]) (m:=0) (ts:=[(0,.lit (.string text0)),(5,.ptr 0 0),(80,.ptr 0 0),(81,J on6)]) (hs:=[.box [.ref 1 0 ((r5_0.map (api.Line.enc)).length),J r5_1,.lit (.bool r5_2),J r5_3,J r5_4,.lit (.string r5_5),.lit (.int .u8 r5_6)],.arr 3 (r5_0.map (api.Line.enc))]) rfl (by decide) rfl rfl ⟨⟨_,rfl,WO.boxs ⟨(.ref _ _ _ 1 rfl),(.same (J r5_1) rfl),(.same (.lit (.bool r5_2)) rfl),(.same (J r5_3) rfl),(.same (J r5_4) rfl),(.same (.lit (.string r5_5)) rfl),(.same (.lit (.int .u8 r5_6)) rfl),trivial⟩⟩,⟨⟨_,rfl,.arr _ _⟩,⟨rfl,fun _ h=>by cases h⟩⟩⟩ ⟨(.same (.lit (.string text0)) rfl),(.ptr _ _ 0 rfl),(.ptr _ _ 0 rfl),(.same (J on6) rfl),trivial⟩)) ?_
      conv=>whnf
      refine CallN.hand (k:=1) (v:=.tup []) (hs':=[.box [.ref 1 0 ((o_0.map (api.Line.enc)).length),J o_1,.lit (.bool o_2),J o_3,J o_4,.lit (.string o_5),.lit (.int .u8 o_6)],.arr 3 (o_0.map (api.Line.enc))]) (ts':=[(0,.lit (.string text0)),(5,.ptr 0 0),(80,.ptr 0 0),(81,J on6)]) (Src.reader.fail_ok ee_t82) rfl rfl ?_
      obtain ⟨⟨o_0_1,o_1_1,o_2_1,o_3_1,o_4_1,o_5_1,o_6_1⟩,ee_t84,hs0_2u3⟩:=bind_elim hs0_2u2
      conv=>whnf
      refine Gate.weak (Sees.of (Weak.objs (keep:=[0,1]) (frz:=[]) (m:=0) (ts:=[(0,.lit (.string text0)),(5,.ptr 0 0),(83,.ptr 0 0)]) (hs:=[.box [.ref 1 0 ((o_0.map (api.Line.enc)).length),J o_1,.lit (.bool o_2),J o_3,J o_4,.lit (.string o_5),.lit (.int .u8 o_6)],.arr 3 (o_0.map (api.Line.enc))]) rfl (by decide) rfl rfl ⟨⟨_,rfl,WO.boxs ⟨(.ref _ _ _ 1 rfl),(.same (J o_1) rfl),(.same (.lit (.bool o_2)) rfl),(.same (J o_3) rfl),(.same (J o_4) rfl),(.same (.lit (.string o_5)) rfl),(.same (.lit (.int .u8 o_6)) rfl),trivial⟩⟩,⟨⟨_,rfl,.arr _ _⟩,⟨rfl,fun _ h=>by cases h⟩⟩⟩ ⟨(.same (.lit (.string text0)) rfl),(.ptr _ _ 0 rfl),(.ptr _ _ 0 rfl),trivial⟩)) ?_
      conv=>whnf
      refine CallN.hand (k:=1) (v:=.tup []) (hs':=[.box [.ref 1 0 ((o_0_1.map (api.Line.enc)).length),J o_1_1,.lit (.bool o_2_1),J o_3_1,J o_4_1,.lit (.string o_5_1),.lit (.int .u8 o_6_1)],.arr 3 (o_0_1.map (api.Line.enc))]) (ts':=[(0,.lit (.string text0)),(5,.ptr 0 0),(83,.ptr 0 0)]) (Src.reader.over__ok ee_t84) rfl rfl ?_
      obtain ⟨⟨t87_0_1,t87_1_1,t87_2_1⟩,ee_t87_1,hs0_2u4⟩:=bind_elim hs0_2u3
      conv=>whnf
      refine Gate.weak (Sees.of (Weak.objs (keep:=[0,1]) (frz:=[]) (m:=0) (ts:=[(85,.ptr 0 0),(86,.lit (.string text0))]) (hs:=[.box [.ref 1 0 ((o_0_1.map (api.Line.enc)).length),J o_1_1,.lit (.bool o_2_1),J o_3_1,J o_4_1,.lit (.string o_5_1),.lit (.int .u8 o_6_1)],.arr 3 (o_0_1.map (api.Line.enc))]) rfl (by decide) rfl rfl ⟨⟨_,rfl,WO.boxs ⟨(.ref _ _ _ 1 rfl),(.same (J o_1_1) rfl),(.same (.lit (.bool o_2_1)) rfl),(.same (J o_3_1) rfl),(.same (J o_4_1) rfl),(.same (.lit (.string o_5_1)) rfl),(.same (.lit (.int .u8 o_6_1)) rfl),trivial⟩⟩,⟨⟨_,rfl,.arr _ _⟩,⟨rfl,fun _ h=>by cases h⟩⟩⟩ ⟨(.ptr _ _ 0 rfl),(.same (.lit (.string text0)) rfl),trivial⟩)) ?_
      conv=>whnf
      refine CallN.hand (k:=1) (v:=.tup [.vs 3 (t87_0_1.map (api.Line.enc)),J t87_1_1,J t87_2_1]) (hs':=[.box [.undef,.undef,.undef,.undef,.undef,.undef,.undef]]) (ts':=[(85,.ptr 0 0),(86,.lit (.string text0))]) (Src.reader.answer_ok ee_t87_1) rfl rfl ?_
      have ehs0_2u4_0:=Option.some.inj hs0_2u4
      subst ehs0_2u4_0
      conv=>whnf
      exact Returns.pure (r:=.tup [.vs 3 (t87_0_1.map (api.Line.enc)),J t87_1_1,J t87_2_1]) rfl rfl rfl rfl ⟨rfl,rfl⟩
  · have hs0_2:=bif_t hs0_1
    obtain ⟨chs0_3,hs0_3⟩:=chk_elim hs0_2
    obtain ⟨t19,et19,hs0_4⟩:=bind_elim hs0_3
    conv=>whnf
    refine Side.mk chs0_3 ?_
    conv=>whnf
    refine At.by et19 ?_
    conv=>whnf
    refine CutN.of (fun s=>∃ (r5_0_1:List api.Line) (r5_1_1:Int) (r5_2_1:Bool) (r5_3_1 r5_4_1:Int) (r5_5_1:ByteArray) (r5_6_1:Int),Src.New.j0 text0 t14 t15 on6 t16 t19 r5_0_1 r5_1_1 r5_2_1 r5_3_1 r5_4_1 r5_5_1 r5_6_1 = some x1 ∧ s = (⟨91,[(0,.lit (.string text0)),(5,.ptr 0 0),(6,J on6),(7,J t16),(8,.lit (.string t19)),(14,.vs 1 (t14.map (eS))),(15,J t15),(16,J t16)],[.box [.ref 1 0 ((r5_0_1.map (api.Line.enc)).length),J r5_1_1,.lit (.bool r5_2_1),J r5_3_1,J r5_4_1,.lit (.string r5_5_1),.lit (.int .u8 r5_6_1)],.arr 3 (r5_0_1.map (api.Line.enc))]⟩:St)) ?_ ?_
    · conv=>whnf
      refine CutN.of (fun s=>∃ (r5_0_4:List api.Line) (r5_1_4:Int) (r5_2_5:Bool) (r5_3_4 r5_4_4:Int) (r5_5_4:ByteArray) (r5_6_4:Int) (t28:Bool),Src.New.j4 text0 t14 t15 on6 t16 t19 r5_0_4 r5_1_4 r5_2_5 r5_3_4 r5_4_4 r5_5_4 r5_6_4 t28 = some x1 ∧ s = (⟨91,[(0,.lit (.string text0)),(5,.ptr 0 0),(6,J on6),(7,J t16),(8,.lit (.string t19)),(14,.vs 1 (t14.map (eS))),(15,J t15),(16,J t16),(28,.lit (.bool t28))],[.box [.ref 1 0 ((r5_0_4.map (api.Line.enc)).length),J r5_1_4,.lit (.bool r5_2_5),J r5_3_4,J r5_4_4,.lit (.string r5_5_4),.lit (.int .u8 r5_6_4)],.arr 3 (r5_0_4.map (api.Line.enc))]⟩:St)) ?_ ?_
      · obtain ⟨t22,et22,hs0_5⟩:=bind_elim hs0_4
        conv=>whnf
        refine Gate.go ?_
        conv=>whnf
        refine CallN.by (v:=.lit (.bool t22)) (Src.isText_ok et22) rfl rfl ?_
        obtain ⟨t23,et23,hs0_6⟩:=letk_elim hs0_5
        conv=>whnf
        refine Nm.mk ⟨t23,et23,?_⟩
        rcases t23 with _ | _
        · have hs0_7:=bif_f hs0_6
          obtain ⟨t26,et26,hs0_8⟩:=letk_elim hs0_7
          conv=>whnf
          refine Nm.mk ⟨t26,et26,?_⟩
          obtain ⟨t27,et27,hs0_9⟩:=letk_elim hs0_8
          conv=>whnf
          refine Nm.mk ⟨t27,et27,?_⟩
          exact BackS.of (Sees.of (Weak.objs (keep:=[0,1]) (frz:=[]) (m:=0) (ts:=[(0,.lit (.string text0)),(5,.ptr 0 0),(6,J on6),(7,J t16),(8,.lit (.string t19)),(14,.vs 1 (t14.map (eS))),(15,J t15),(16,J t16),(28,.lit (.bool t27))]) (hs:=[.box [.ref 1 0 ((r5_0.map (api.Line.enc)).length),J r5_1,.lit (.bool r5_2),J r5_3,J r5_4,.lit (.string r5_5),.lit (.int .u8 r5_6)],.arr 3 (r5_0.map (api.Line.enc))]) rfl (by decide) rfl rfl ⟨⟨_,rfl,WO.boxs ⟨(.ref _ _ _ 1 rfl),(.same (J r5_1) rfl),(.same (.lit (.bool r5_2)) rfl),(.same (J r5_3) rfl),(.same (J r5_4) rfl),(.same (.lit (.string r5_5)) rfl),(.same (.lit (.int .u8 r5_6)) rfl),trivial⟩⟩,⟨⟨_,rfl,.arr _ _⟩,⟨rfl,fun _ h=>by cases h⟩⟩⟩ ⟨(.same (.lit (.string text0)) rfl),(.ptr _ _ 0 rfl),(.same (J on6) rfl),(.same (J t16) rfl),(.same (.lit (.string t19)) rfl),(.same (.vs 1 (t14.map (eS))) rfl),(.same (J t15) rfl),(.same (J t16) rfl),(.same (.lit (.bool t27)) rfl),trivial⟩)) ⟨_,_,_,_,_,_,_,_,hs0_9,rfl⟩
        · have hs0_7:=bif_t hs0_6
          exact BackS.of (Sees.of (Weak.objs (keep:=[0,1]) (frz:=[]) (m:=0) (ts:=[(0,.lit (.string text0)),(5,.ptr 0 0),(6,J on6),(7,J t16),(8,.lit (.string t19)),(14,.vs 1 (t14.map (eS))),(15,J t15),(16,J t16),(28,.lit (.bool true))]) (hs:=[.box [.ref 1 0 ((r5_0.map (api.Line.enc)).length),J r5_1,.lit (.bool r5_2),J r5_3,J r5_4,.lit (.string r5_5),.lit (.int .u8 r5_6)],.arr 3 (r5_0.map (api.Line.enc))]) rfl (by decide) rfl rfl ⟨⟨_,rfl,WO.boxs ⟨(.ref _ _ _ 1 rfl),(.same (J r5_1) rfl),(.same (.lit (.bool r5_2)) rfl),(.same (J r5_3) rfl),(.same (J r5_4) rfl),(.same (.lit (.string r5_5)) rfl),(.same (.lit (.int .u8 r5_6)) rfl),trivial⟩⟩,⟨⟨_,rfl,.arr _ _⟩,⟨rfl,fun _ h=>by cases h⟩⟩⟩ ⟨(.same (.lit (.string text0)) rfl),(.ptr _ _ 0 rfl),(.same (J on6) rfl),(.same (J t16) rfl),(.same (.lit (.string t19)) rfl),(.same (.vs 1 (t14.map (eS))) rfl),(.same (J t15) rfl),(.same (J t16) rfl),(.same (.lit (.bool true)) rfl),trivial⟩)) ⟨_,_,_,_,_,_,_,_,hs0_7,rfl⟩
      · clear hs0_4
        rintro s ⟨r5_0_4,r5_1_4,r5_2_5,r5_3_4,r5_4_4,r5_5_4,r5_6_4,t28,hj0,rfl⟩
        unfold Src.New.j4 at hj0
        rcases t28 with _ | _
        · have hj1:=bif_f hj0
          exact BackS.of (Sees.of (Weak.objs (keep:=[0,1]) (frz:=[]) (m:=0) (ts:=[(0,.lit (.string text0)),(5,.ptr 0 0),(6,J on6),(7,J t16),(8,.lit (.string t19)),(14,.vs 1 (t14.map (eS))),(15,J t15),(16,J t16)]) (hs:=[.box [.ref 1 0 ((r5_0_4.map (api.Line.enc)).length),J r5_1_4,.lit (.bool r5_2_5),J r5_3_4,J r5_4_4,.lit (.string r5_5_4),.lit (.int .u8 r5_6_4)],.arr 3 (r5_0_4.map (api.Line.enc))]) rfl (by decide) rfl rfl ⟨⟨_,rfl,WO.boxs ⟨(.ref _ _ _ 1 rfl),(.same (J r5_1_4) rfl),(.same (.lit (.bool r5_2_5)) rfl),(.same (J r5_3_4) rfl),(.same (J r5_4_4) rfl),(.same (.lit (.string r5_5_4)) rfl),(.same (.lit (.int .u8 r5_6_4)) rfl),trivial⟩⟩,⟨⟨_,rfl,.arr _ _⟩,⟨rfl,fun _ h=>by cases h⟩⟩⟩ ⟨(.same (.lit (.string text0)) rfl),(.ptr _ _ 0 rfl),(.same (J on6) rfl),(.same (J t16) rfl),(.same (.lit (.string t19)) rfl),(.same (.vs 1 (t14.map (eS))) rfl),(.same (J t15) rfl),(.same (J t16) rfl),trivial⟩)) ⟨_,_,_,_,_,_,_,hj1,rfl⟩
        · have hj1:=bif_t hj0
          obtain ⟨t31,et31,hj2⟩:=letk_elim hj1
          conv=>whnf
          refine Nm.mk ⟨t31,et31,?_⟩
          obtain ⟨⟨o_0_4,o_1_4,o_2_4,o_3_4,o_4_4,o_5_4,o_6_4⟩,ee_t32,hj3⟩:=bind_elim hj2
          conv=>whnf
          refine Gate.weak (Sees.of (Weak.objs (keep:=[0,1]) (frz:=[]) (m:=0) (ts:=[(0,.lit (.string text0)),(5,.ptr 0 0),(6,J on6),(7,J t16),(8,.lit (.string t19)),(14,.vs 1 (t14.map (eS))),(15,J t15),(16,J t16),(29,.ptr 0 0),(31,J t31)]) (hs:=[.box [.ref 1 0 ((r5_0_4.map (api.Line.enc)).length),J r5_1_4,.lit (.bool r5_2_5),J r5_3_4,J r5_4_4,.lit (.string r5_5_4),.lit (.int .u8 r5_6_4)],.arr 3 (r5_0_4.map (api.Line.enc))]) rfl (by decide) rfl rfl ⟨⟨_,rfl,WO.boxs ⟨(.ref _ _ _ 1 rfl),(.same (J r5_1_4) rfl),(.same (.lit (.bool r5_2_5)) rfl),(.same (J r5_3_4) rfl),(.same (J r5_4_4) rfl),(.same (.lit (.string r5_5_4)) rfl),(.same (.lit (.int .u8 r5_6_4)) rfl),trivial⟩⟩,⟨⟨_,rfl,.arr _ _⟩,⟨rfl,fun _ h=>by cases h⟩⟩⟩ ⟨(.same (.lit (.string text0)) rfl),(.ptr _ _ 0 rfl),(.same (J on6) rfl),(.same (J t16) rfl),(.same (.lit (.string t19)) rfl),(.same (.vs 1 (t14.map (eS))) rfl),(.same (J t15) rfl),(.same (J t16) rfl),(.ptr _ _ 0 rfl),(.same (J t31) rfl),trivial⟩)) ?_
          conv=>whnf
          refine CallN.hand (k:=1) (v:=.tup []) (hs':=[.box [.ref 1 0 ((o_0_4.map (api.Line.enc)).length),J o_1_4,.lit (.bool o_2_4),J o_3_4,J o_4_4,.lit (.string o_5_4),.lit (.int .u8 o_6_4)],.arr 3 (o_0_4.map (api.Line.enc))]) (ts':=[(0,.lit (.string text0)),(5,.ptr 0 0),(6,J on6),(7,J t16),(8,.lit (.string t19)),(14,.vs 1 (t14.map (eS))),(15,J t15),(16,J t16),(29,.ptr 0 0),(31,J t31)]) (Src.reader.fail_ok ee_t32) rfl rfl ?_
          exact BackS.of (Sees.of (Weak.objs (keep:=[0,1]) (frz:=[]) (m:=0) (ts:=[(0,.lit (.string text0)),(5,.ptr 0 0),(6,J on6),(7,J t16),(8,.lit (.string t19)),(14,.vs 1 (t14.map (eS))),(15,J t15),(16,J t16)]) (hs:=[.box [.ref 1 0 ((o_0_4.map (api.Line.enc)).length),J o_1_4,.lit (.bool o_2_4),J o_3_4,J o_4_4,.lit (.string o_5_4),.lit (.int .u8 o_6_4)],.arr 3 (o_0_4.map (api.Line.enc))]) rfl (by decide) rfl rfl ⟨⟨_,rfl,WO.boxs ⟨(.ref _ _ _ 1 rfl),(.same (J o_1_4) rfl),(.same (.lit (.bool o_2_4)) rfl),(.same (J o_3_4) rfl),(.same (J o_4_4) rfl),(.same (.lit (.string o_5_4)) rfl),(.same (.lit (.int .u8 o_6_4)) rfl),trivial⟩⟩,⟨⟨_,rfl,.arr _ _⟩,⟨rfl,fun _ h=>by cases h⟩⟩⟩ ⟨(.same (.lit (.string text0)) rfl),(.ptr _ _ 0 rfl),(.same (J on6) rfl),(.same (J t16) rfl),(.same (.lit (.string t19)) rfl),(.same (.vs 1 (t14.map (eS))) rfl),(.same (J t15) rfl),(.same (J t16) rfl),trivial⟩)) ⟨_,_,_,_,_,_,_,hj3,rfl⟩
    · clear hs0_4
      rintro s ⟨r5_0_1,r5_1_1,r5_2_1,r5_3_1,r5_4_1,r5_5_1,r5_6_1,hj0,rfl⟩
      unfold Src.New.j0 at hj0
      conv=>whnf
      refine CutN.of (fun s=>∃ (r5_0_2:List api.Line) (r5_1_2:Int) (r5_2_2:Bool) (r5_3_2 r5_4_2:Int) (r5_5_2:ByteArray) (r5_6_2:Int) (s8:ByteArray),Src.New.j1 text0 t14 t15 t16 r5_0_2 r5_1_2 r5_2_2 r5_3_2 r5_4_2 r5_5_2 r5_6_2 s8 = some x1 ∧ s = (⟨91,[(0,.lit (.string text0)),(5,.ptr 0 0),(7,J t16),(8,.lit (.string s8)),(14,.vs 1 (t14.map (eS))),(15,J t15),(16,J t16)],[.box [.ref 1 0 ((r5_0_2.map (api.Line.enc)).length),J r5_1_2,.lit (.bool r5_2_2),J r5_3_2,J r5_4_2,.lit (.string r5_5_2),.lit (.int .u8 r5_6_2)],.arr 3 (r5_0_2.map (api.Line.enc))]⟩:St)) ?_ ?_
      · obtain ⟨t34,et34,hj1⟩:=letk_elim hj0
        conv=>whnf
        refine Nm.mk ⟨t34,et34,?_⟩
        rcases t34 with _ | _
        · have hj2:=bif_f hj1
          exact BackS.of (Sees.of (Weak.objs (keep:=[0,1]) (frz:=[]) (m:=0) (ts:=[(0,.lit (.string text0)),(5,.ptr 0 0),(7,J t16),(8,.lit (.string t19)),(14,.vs 1 (t14.map (eS))),(15,J t15),(16,J t16)]) (hs:=[.box [.ref 1 0 ((r5_0_1.map (api.Line.enc)).length),J r5_1_1,.lit (.bool r5_2_1),J r5_3_1,J r5_4_1,.lit (.string r5_5_1),.lit (.int .u8 r5_6_1)],.arr 3 (r5_0_1.map (api.Line.enc))]) rfl (by decide) rfl rfl ⟨⟨_,rfl,WO.boxs ⟨(.ref _ _ _ 1 rfl),(.same (J r5_1_1) rfl),(.same (.lit (.bool r5_2_1)) rfl),(.same (J r5_3_1) rfl),(.same (J r5_4_1) rfl),(.same (.lit (.string r5_5_1)) rfl),(.same (.lit (.int .u8 r5_6_1)) rfl),trivial⟩⟩,⟨⟨_,rfl,.arr _ _⟩,⟨rfl,fun _ h=>by cases h⟩⟩⟩ ⟨(.same (.lit (.string text0)) rfl),(.ptr _ _ 0 rfl),(.same (J t16) rfl),(.same (.lit (.string t19)) rfl),(.same (.vs 1 (t14.map (eS))) rfl),(.same (J t15) rfl),(.same (J t16) rfl),trivial⟩)) ⟨_,_,_,_,_,_,_,_,hj2,rfl⟩
        · have hj2:=bif_t hj1
          conv=>whnf
          refine CutN.of (fun s=>∃ (r5_0_3:List api.Line) (r5_1_3:Int) (r5_2_3:Bool) (r5_3_3 r5_4_3:Int) (r5_5_3:ByteArray) (r5_6_3:Int),Src.New.j2 text0 t14 t15 t16 t19 r5_0_3 r5_1_3 r5_2_3 r5_3_3 r5_4_3 r5_5_3 r5_6_3 = some x1 ∧ s = (⟨91,[(0,.lit (.string text0)),(5,.ptr 0 0),(7,J t16),(8,.lit (.string t19)),(14,.vs 1 (t14.map (eS))),(15,J t15),(16,J t16)],[.box [.ref 1 0 ((r5_0_3.map (api.Line.enc)).length),J r5_1_3,.lit (.bool r5_2_3),J r5_3_3,J r5_4_3,.lit (.string r5_5_3),.lit (.int .u8 r5_6_3)],.arr 3 (r5_0_3.map (api.Line.enc))]⟩:St)) ?_ ?_
          · obtain ⟨t39,et39,hj3⟩:=letk_elim hj2
            conv=>whnf
            refine Nm.mk ⟨t39,et39,?_⟩
            rcases t39 with _ | _
            · have hj4:=bif_f hj3
              exact BackS.of (Sees.of (Weak.objs (keep:=[0,1]) (frz:=[]) (m:=0) (ts:=[(0,.lit (.string text0)),(5,.ptr 0 0),(7,J t16),(8,.lit (.string t19)),(14,.vs 1 (t14.map (eS))),(15,J t15),(16,J t16)]) (hs:=[.box [.ref 1 0 ((r5_0_1.map (api.Line.enc)).length),J r5_1_1,.lit (.bool r5_2_1),J r5_3_1,J r5_4_1,.lit (.string r5_5_1),.lit (.int .u8 r5_6_1)],.arr 3 (r5_0_1.map (api.Line.enc))]) rfl (by decide) rfl rfl ⟨⟨_,rfl,WO.boxs ⟨(.ref _ _ _ 1 rfl),(.same (J r5_1_1) rfl),(.same (.lit (.bool r5_2_1)) rfl),(.same (J r5_3_1) rfl),(.same (J r5_4_1) rfl),(.same (.lit (.string r5_5_1)) rfl),(.same (.lit (.int .u8 r5_6_1)) rfl),trivial⟩⟩,⟨⟨_,rfl,.arr _ _⟩,⟨rfl,fun _ h=>by cases h⟩⟩⟩ ⟨(.same (.lit (.string text0)) rfl),(.ptr _ _ 0 rfl),(.same (J t16) rfl),(.same (.lit (.string t19)) rfl),(.same (.vs 1 (t14.map (eS))) rfl),(.same (J t15) rfl),(.same (J t16) rfl),trivial⟩)) ⟨_,_,_,_,_,_,_,hj4,rfl⟩
            · have hj4:=bif_t hj3
              obtain ⟨t42,et42,hj5⟩:=bind_elim hj4
              conv=>whnf
              refine Gate.go ?_
              conv=>whnf
              refine CallN.by (v:=.lit (.bool t42)) (Src.Comment_ok et42) rfl rfl ?_
              rcases t42 with _ | _
              · have hj6:=bif_f hj5
                exact BackS.of (Sees.of (Weak.objs (keep:=[0,1]) (frz:=[]) (m:=0) (ts:=[(0,.lit (.string text0)),(5,.ptr 0 0),(7,J t16),(8,.lit (.string t19)),(14,.vs 1 (t14.map (eS))),(15,J t15),(16,J t16)]) (hs:=[.box [.ref 1 0 ((r5_0_1.map (api.Line.enc)).length),J r5_1_1,.lit (.bool r5_2_1),J r5_3_1,J r5_4_1,.lit (.string r5_5_1),.lit (.int .u8 r5_6_1)],.arr 3 (r5_0_1.map (api.Line.enc))]) rfl (by decide) rfl rfl ⟨⟨_,rfl,WO.boxs ⟨(.ref _ _ _ 1 rfl),(.same (J r5_1_1) rfl),(.same (.lit (.bool r5_2_1)) rfl),(.same (J r5_3_1) rfl),(.same (J r5_4_1) rfl),(.same (.lit (.string r5_5_1)) rfl),(.same (.lit (.int .u8 r5_6_1)) rfl),trivial⟩⟩,⟨⟨_,rfl,.arr _ _⟩,⟨rfl,fun _ h=>by cases h⟩⟩⟩ ⟨(.same (.lit (.string text0)) rfl),(.ptr _ _ 0 rfl),(.same (J t16) rfl),(.same (.lit (.string t19)) rfl),(.same (.vs 1 (t14.map (eS))) rfl),(.same (J t15) rfl),(.same (J t16) rfl),trivial⟩)) ⟨_,_,_,_,_,_,_,hj6,rfl⟩
              · have hj6:=bif_t hj5
                obtain ⟨t77_2,et77_2,hj7⟩:=letk_elim hj6
                conv=>whnf
                refine Nm.mk ⟨t77_2,et77_2,?_⟩
                exact BackS.of (Sees.of (Weak.objs (keep:=[0,1]) (frz:=[]) (m:=0) (ts:=[(0,.lit (.string text0)),(5,.ptr 0 0),(6,J on6),(14,.vs 1 (t14.map (eS))),(15,J t15),(16,J t77_2)]) (hs:=[.box [.ref 1 0 ((r5_0_1.map (api.Line.enc)).length),J r5_1_1,.lit (.bool r5_2_1),J r5_3_1,J r5_4_1,.lit (.string r5_5_1),.lit (.int .u8 r5_6_1)],.arr 3 (r5_0_1.map (api.Line.enc))]) rfl (by decide) rfl rfl ⟨⟨_,rfl,WO.boxs ⟨(.ref _ _ _ 1 rfl),(.same (J r5_1_1) rfl),(.same (.lit (.bool r5_2_1)) rfl),(.same (J r5_3_1) rfl),(.same (J r5_4_1) rfl),(.same (.lit (.string r5_5_1)) rfl),(.same (.lit (.int .u8 r5_6_1)) rfl),trivial⟩⟩,⟨⟨_,rfl,.arr _ _⟩,⟨rfl,fun _ h=>by cases h⟩⟩⟩ ⟨(.same (.lit (.string text0)) rfl),(.ptr _ _ 0 rfl),(.same (J on6) rfl),(.same (.vs 1 (t14.map (eS))) rfl),(.same (J t15) rfl),(.same (J t77_2) rfl),trivial⟩)) ⟨_,hl1 _ (Option.some.inj hj7).symm,rfl⟩
          · clear hj2
            rintro s ⟨r5_0_3,r5_1_3,r5_2_3,r5_3_3,r5_4_3,r5_5_3,r5_6_3,hj0,rfl⟩
            unfold Src.New.j2 at hj0
            obtain ⟨t46,et46,hj1⟩:=bind_elim hj0
            conv=>whnf
            refine Gate.go ?_
            conv=>whnf
            refine CallN.by (v:=.lit (.string t46)) (Strs.TrimLeft_ok et46) rfl rfl ?_
            obtain ⟨⟨t47_0,t47_1⟩,et47,hj2⟩:=bind_elim hj1
            conv=>whnf
            refine Gate.go ?_
            conv=>whnf
            refine CallN.by (v:=.tup [.lit (.string t47_0),.lit (.bool t47_1)]) (Strs.CutPrefix_ok et47) rfl rfl ?_
            conv=>whnf
            refine CutN.of (fun s=>∃ (r5_2_4 mark10 t50:Bool),Src.New.j3 text0 t14 t15 t16 r5_0_3 r5_1_3 r5_3_3 r5_4_3 r5_5_3 r5_6_3 t47_0 r5_2_4 mark10 t50 = some x1 ∧ s = (⟨91,[(0,.lit (.string text0)),(5,.ptr 0 0),(7,J t16),(9,.lit (.string t47_0)),(10,.lit (.bool mark10)),(14,.vs 1 (t14.map (eS))),(15,J t15),(16,J t16),(50,.lit (.bool t50))],[.box [.ref 1 0 ((r5_0_3.map (api.Line.enc)).length),J r5_1_3,.lit (.bool r5_2_4),J r5_3_3,J r5_4_3,.lit (.string r5_5_3),.lit (.int .u8 r5_6_3)],.arr 3 (r5_0_3.map (api.Line.enc))]⟩:St)) ?_ ?_
            · obtain ⟨t52,et52,hj3⟩:=letk_elim hj2
              conv=>whnf
              refine Nm.mk ⟨t52,et52,?_⟩
              rcases t52 with _ | _
              · have hj4:=bif_f hj3
                exact BackS.of (Sees.of (Weak.objs (keep:=[0,1]) (frz:=[]) (m:=0) (ts:=[(0,.lit (.string text0)),(5,.ptr 0 0),(7,J t16),(9,.lit (.string t47_0)),(10,.lit (.bool t47_1)),(14,.vs 1 (t14.map (eS))),(15,J t15),(16,J t16),(50,.lit (.bool false))]) (hs:=[.box [.ref 1 0 ((r5_0_3.map (api.Line.enc)).length),J r5_1_3,.lit (.bool r5_2_3),J r5_3_3,J r5_4_3,.lit (.string r5_5_3),.lit (.int .u8 r5_6_3)],.arr 3 (r5_0_3.map (api.Line.enc))]) rfl (by decide) rfl rfl ⟨⟨_,rfl,WO.boxs ⟨(.ref _ _ _ 1 rfl),(.same (J r5_1_3) rfl),(.same (.lit (.bool r5_2_3)) rfl),(.same (J r5_3_3) rfl),(.same (J r5_4_3) rfl),(.same (.lit (.string r5_5_3)) rfl),(.same (.lit (.int .u8 r5_6_3)) rfl),trivial⟩⟩,⟨⟨_,rfl,.arr _ _⟩,⟨rfl,fun _ h=>by cases h⟩⟩⟩ ⟨(.same (.lit (.string text0)) rfl),(.ptr _ _ 0 rfl),(.same (J t16) rfl),(.same (.lit (.string t47_0)) rfl),(.same (.lit (.bool t47_1)) rfl),(.same (.vs 1 (t14.map (eS))) rfl),(.same (J t15) rfl),(.same (J t16) rfl),(.same (.lit (.bool false)) rfl),trivial⟩)) ⟨_,_,_,hj4,rfl⟩
              · have hj4:=bif_t hj3
                obtain ⟨t58,et58,hj5⟩:=letk_elim hj4
                conv=>whnf
                refine Nm.mk ⟨t58,et58,?_⟩
                exact BackS.of (Sees.of (Weak.objs (keep:=[0,1]) (frz:=[]) (m:=0) (ts:=[(0,.lit (.string text0)),(5,.ptr 0 0),(7,J t16),(9,.lit (.string t47_0)),(10,.lit (.bool t47_1)),(14,.vs 1 (t14.map (eS))),(15,J t15),(16,J t16),(50,.lit (.bool t58))]) (hs:=[.box [.ref 1 0 ((r5_0_3.map (api.Line.enc)).length),J r5_1_3,.lit (.bool r5_2_3),J r5_3_3,J r5_4_3,.lit (.string r5_5_3),.lit (.int .u8 r5_6_3)],.arr 3 (r5_0_3.map (api.Line.enc))]) rfl (by decide) rfl rfl ⟨⟨_,rfl,WO.boxs ⟨(.ref _ _ _ 1 rfl),(.same (J r5_1_3) rfl),(.same (.lit (.bool r5_2_3)) rfl),(.same (J r5_3_3) rfl),(.same (J r5_4_3) rfl),(.same (.lit (.string r5_5_3)) rfl),(.same (.lit (.int .u8 r5_6_3)) rfl),trivial⟩⟩,⟨⟨_,rfl,.arr _ _⟩,⟨rfl,fun _ h=>by cases h⟩⟩⟩ ⟨(.same (.lit (.string text0)) rfl),(.ptr _ _ 0 rfl),(.same (J t16) rfl),(.same (.lit (.string t47_0)) rfl),(.same (.lit (.bool t47_1)) rfl),(.same (.vs 1 (t14.map (eS))) rfl),(.same (J t15) rfl),(.same (J t16) rfl),(.same (.lit (.bool t58)) rfl),trivial⟩)) ⟨_,_,_,hj5,rfl⟩
            · clear hj2
              rintro s ⟨r5_2_4,_,t50,hj0,rfl⟩
              unfold Src.New.j3 at hj0
              rcases t50 with _ | _
              · have hj1:=bif_f hj0
                obtain ⟨t66,et66,hj2⟩:=letk_elim hj1
                conv=>whnf
                refine Nm.mk ⟨t66,et66,?_⟩
                rcases t66 with _ | _
                · have hj3:=bif_f hj2
                  exact BackS.of (Sees.of (Weak.objs (keep:=[0,1]) (frz:=[]) (m:=0) (ts:=[(0,.lit (.string text0)),(5,.ptr 0 0),(7,J t16),(8,.lit (.string t47_0)),(14,.vs 1 (t14.map (eS))),(15,J t15),(16,J t16)]) (hs:=[.box [.ref 1 0 ((r5_0_3.map (api.Line.enc)).length),J r5_1_3,.lit (.bool r5_2_4),J r5_3_3,J r5_4_3,.lit (.string r5_5_3),.lit (.int .u8 r5_6_3)],.arr 3 (r5_0_3.map (api.Line.enc))]) rfl (by decide) rfl rfl ⟨⟨_,rfl,WO.boxs ⟨(.ref _ _ _ 1 rfl),(.same (J r5_1_3) rfl),(.same (.lit (.bool r5_2_4)) rfl),(.same (J r5_3_3) rfl),(.same (J r5_4_3) rfl),(.same (.lit (.string r5_5_3)) rfl),(.same (.lit (.int .u8 r5_6_3)) rfl),trivial⟩⟩,⟨⟨_,rfl,.arr _ _⟩,⟨rfl,fun _ h=>by cases h⟩⟩⟩ ⟨(.same (.lit (.string text0)) rfl),(.ptr _ _ 0 rfl),(.same (J t16) rfl),(.same (.lit (.string t47_0)) rfl),(.same (.vs 1 (t14.map (eS))) rfl),(.same (J t15) rfl),(.same (J t16) rfl),trivial⟩)) ⟨_,_,_,_,_,_,_,_,hj3,rfl⟩
                · have hj3:=bif_t hj2
                  obtain ⟨chj4,hj4⟩:=chk_elim hj3
                  obtain ⟨t68,et68,hj5⟩:=letk_elim hj4
                  conv=>whnf
                  refine Side.mk chj4 ?_
                  conv=>whnf
                  refine Nm.mk ⟨t68,et68,?_⟩
                  exact BackS.of (Sees.of (Weak.objs (keep:=[0,1]) (frz:=[]) (m:=0) (ts:=[(0,.lit (.string text0)),(5,.ptr 0 0),(7,J t16),(8,.lit (.string t68)),(14,.vs 1 (t14.map (eS))),(15,J t15),(16,J t16)]) (hs:=[.box [.ref 1 0 ((r5_0_3.map (api.Line.enc)).length),J r5_1_3,.lit (.bool r5_2_4),J r5_3_3,J r5_4_3,.lit (.string r5_5_3),.lit (.int .u8 r5_6_3)],.arr 3 (r5_0_3.map (api.Line.enc))]) rfl (by decide) rfl rfl ⟨⟨_,rfl,WO.boxs ⟨(.ref _ _ _ 1 rfl),(.same (J r5_1_3) rfl),(.same (.lit (.bool r5_2_4)) rfl),(.same (J r5_3_3) rfl),(.same (J r5_4_3) rfl),(.same (.lit (.string r5_5_3)) rfl),(.same (.lit (.int .u8 r5_6_3)) rfl),trivial⟩⟩,⟨⟨_,rfl,.arr _ _⟩,⟨rfl,fun _ h=>by cases h⟩⟩⟩ ⟨(.same (.lit (.string text0)) rfl),(.ptr _ _ 0 rfl),(.same (J t16) rfl),(.same (.lit (.string t68)) rfl),(.same (.vs 1 (t14.map (eS))) rfl),(.same (J t15) rfl),(.same (J t16) rfl),trivial⟩)) ⟨_,_,_,_,_,_,_,_,hj5,rfl⟩
              · have hj1:=bif_t hj0
                obtain ⟨t62,et62,hj2⟩:=letk_elim hj1
                conv=>whnf
                refine Nm.mk ⟨t62,et62,?_⟩
                obtain ⟨⟨o_0_3,o_1_3,o_2_3,o_3_3,o_4_3,o_5_3,o_6_3⟩,ee_t63,hj3⟩:=bind_elim hj2
                conv=>whnf
                refine Gate.weak (Sees.of (Weak.objs (keep:=[0,1]) (frz:=[]) (m:=0) (ts:=[(0,.lit (.string text0)),(5,.ptr 0 0),(7,J t16),(9,.lit (.string t47_0)),(14,.vs 1 (t14.map (eS))),(15,J t15),(16,J t16),(60,.ptr 0 0),(62,J t62)]) (hs:=[.box [.ref 1 0 ((r5_0_3.map (api.Line.enc)).length),J r5_1_3,.lit (.bool r5_2_4),J r5_3_3,J r5_4_3,.lit (.string r5_5_3),.lit (.int .u8 r5_6_3)],.arr 3 (r5_0_3.map (api.Line.enc))]) rfl (by decide) rfl rfl ⟨⟨_,rfl,WO.boxs ⟨(.ref _ _ _ 1 rfl),(.same (J r5_1_3) rfl),(.same (.lit (.bool r5_2_4)) rfl),(.same (J r5_3_3) rfl),(.same (J r5_4_3) rfl),(.same (.lit (.string r5_5_3)) rfl),(.same (.lit (.int .u8 r5_6_3)) rfl),trivial⟩⟩,⟨⟨_,rfl,.arr _ _⟩,⟨rfl,fun _ h=>by cases h⟩⟩⟩ ⟨(.same (.lit (.string text0)) rfl),(.ptr _ _ 0 rfl),(.same (J t16) rfl),(.same (.lit (.string t47_0)) rfl),(.same (.vs 1 (t14.map (eS))) rfl),(.same (J t15) rfl),(.same (J t16) rfl),(.ptr _ _ 0 rfl),(.same (J t62) rfl),trivial⟩)) ?_
                conv=>whnf
                refine CallN.hand (k:=1) (v:=.tup []) (hs':=[.box [.ref 1 0 ((o_0_3.map (api.Line.enc)).length),J o_1_3,.lit (.bool o_2_3),J o_3_3,J o_4_3,.lit (.string o_5_3),.lit (.int .u8 o_6_3)],.arr 3 (o_0_3.map (api.Line.enc))]) (ts':=[(0,.lit (.string text0)),(5,.ptr 0 0),(7,J t16),(9,.lit (.string t47_0)),(14,.vs 1 (t14.map (eS))),(15,J t15),(16,J t16),(60,.ptr 0 0),(62,J t62)]) (Src.reader.fail_ok ee_t63) rfl rfl ?_
                exact BackS.of (Sees.of (Weak.objs (keep:=[0,1]) (frz:=[]) (m:=0) (ts:=[(0,.lit (.string text0)),(5,.ptr 0 0),(7,J t16),(8,.lit (.string t47_0)),(14,.vs 1 (t14.map (eS))),(15,J t15),(16,J t16)]) (hs:=[.box [.ref 1 0 ((o_0_3.map (api.Line.enc)).length),J o_1_3,.lit (.bool o_2_3),J o_3_3,J o_4_3,.lit (.string o_5_3),.lit (.int .u8 o_6_3)],.arr 3 (o_0_3.map (api.Line.enc))]) rfl (by decide) rfl rfl ⟨⟨_,rfl,WO.boxs ⟨(.ref _ _ _ 1 rfl),(.same (J o_1_3) rfl),(.same (.lit (.bool o_2_3)) rfl),(.same (J o_3_3) rfl),(.same (J o_4_3) rfl),(.same (.lit (.string o_5_3)) rfl),(.same (.lit (.int .u8 o_6_3)) rfl),trivial⟩⟩,⟨⟨_,rfl,.arr _ _⟩,⟨rfl,fun _ h=>by cases h⟩⟩⟩ ⟨(.same (.lit (.string text0)) rfl),(.ptr _ _ 0 rfl),(.same (J t16) rfl),(.same (.lit (.string t47_0)) rfl),(.same (.vs 1 (t14.map (eS))) rfl),(.same (J t15) rfl),(.same (J t16) rfl),trivial⟩)) ⟨_,_,_,_,_,_,_,_,hj3,rfl⟩
      · clear hj0
        rintro s ⟨r5_0_2,r5_1_2,r5_2_2,r5_3_2,r5_4_2,r5_5_2,r5_6_2,s8,hj0,rfl⟩
        unfold Src.New.j1 at hj0
        obtain ⟨t72,et72,hj1⟩:=letk_elim hj0
        conv=>whnf
        refine Nm.mk ⟨t72,et72,?_⟩
        obtain ⟨⟨o_0_2,o_1_2,o_2_2,o_3_2,o_4_2,o_5_2,o_6_2,t74⟩,ee_t74,hj2⟩:=bind_elim hj1
        conv=>whnf
        refine Gate.weak (Sees.of (Weak.objs (keep:=[0,1]) (frz:=[]) (m:=0) (ts:=[(0,.lit (.string text0)),(5,.ptr 0 0),(6,J 0),(7,J t16),(14,.vs 1 (t14.map (eS))),(15,J t15),(16,J t16),(70,.ptr 0 0),(72,J t72),(73,.lit (.string s8))]) (hs:=[.box [.ref 1 0 ((r5_0_2.map (api.Line.enc)).length),J r5_1_2,.lit (.bool r5_2_2),J r5_3_2,J r5_4_2,.lit (.string r5_5_2),.lit (.int .u8 r5_6_2)],.arr 3 (r5_0_2.map (api.Line.enc))]) rfl (by decide) rfl rfl ⟨⟨_,rfl,WO.boxs ⟨(.ref _ _ _ 1 rfl),(.same (J r5_1_2) rfl),(.same (.lit (.bool r5_2_2)) rfl),(.same (J r5_3_2) rfl),(.same (J r5_4_2) rfl),(.same (.lit (.string r5_5_2)) rfl),(.same (.lit (.int .u8 r5_6_2)) rfl),trivial⟩⟩,⟨⟨_,rfl,.arr _ _⟩,⟨rfl,fun _ h=>by cases h⟩⟩⟩ ⟨(.same (.lit (.string text0)) rfl),(.ptr _ _ 0 rfl),(.same (J 0) rfl),(.same (J t16) rfl),(.same (.vs 1 (t14.map (eS))) rfl),(.same (J t15) rfl),(.same (J t16) rfl),(.ptr _ _ 0 rfl),(.same (J t72) rfl),(.same (.lit (.string s8)) rfl),trivial⟩)) ?_
        conv=>whnf
        refine CallN.hand (k:=1) (v:=.lit (.bool t74)) (hs':=[.box [.ref 1 0 ((o_0_2.map (api.Line.enc)).length),J o_1_2,.lit (.bool o_2_2),J o_3_2,J o_4_2,.lit (.string o_5_2),.lit (.int .u8 o_6_2)],.arr 3 (o_0_2.map (api.Line.enc))]) (ts':=[(0,.lit (.string text0)),(5,.ptr 0 0),(6,J 0),(7,J t16),(14,.vs 1 (t14.map (eS))),(15,J t15),(16,J t16),(70,.ptr 0 0),(72,J t72),(73,.lit (.string s8))]) (Src.reader.fresh_ok ee_t74) rfl rfl ?_
        rcases t74 with _ | _
        · have hj3:=bif_f hj2
          obtain ⟨t77,et77,hj4⟩:=letk_elim hj3
          conv=>whnf
          refine Nm.mk ⟨t77,et77,?_⟩
          exact BackS.of (Sees.of (Weak.objs (keep:=[0,1]) (frz:=[]) (m:=0) (ts:=[(0,.lit (.string text0)),(5,.ptr 0 0),(6,J 0),(14,.vs 1 (t14.map (eS))),(15,J t15),(16,J t77)]) (hs:=[.box [.ref 1 0 ((o_0_2.map (api.Line.enc)).length),J o_1_2,.lit (.bool o_2_2),J o_3_2,J o_4_2,.lit (.string o_5_2),.lit (.int .u8 o_6_2)],.arr 3 (o_0_2.map (api.Line.enc))]) rfl (by decide) rfl rfl ⟨⟨_,rfl,WO.boxs ⟨(.ref _ _ _ 1 rfl),(.same (J o_1_2) rfl),(.same (.lit (.bool o_2_2)) rfl),(.same (J o_3_2) rfl),(.same (J o_4_2) rfl),(.same (.lit (.string o_5_2)) rfl),(.same (.lit (.int .u8 o_6_2)) rfl),trivial⟩⟩,⟨⟨_,rfl,.arr _ _⟩,⟨rfl,fun _ h=>by cases h⟩⟩⟩ ⟨(.same (.lit (.string text0)) rfl),(.ptr _ _ 0 rfl),(.same (J 0) rfl),(.same (.vs 1 (t14.map (eS))) rfl),(.same (J t15) rfl),(.same (J t77) rfl),trivial⟩)) ⟨_,hl1 _ (Option.some.inj hj4).symm,rfl⟩
        · have hj3:=bif_t hj2
          obtain ⟨t76,et76,hj4⟩:=letk_elim hj3
          conv=>whnf
          refine Nm.mk ⟨t76,et76,?_⟩
          obtain ⟨t77_1,et77_1,hj5⟩:=letk_elim hj4
          conv=>whnf
          refine Nm.mk ⟨t77_1,et77_1,?_⟩
          exact BackS.of (Sees.of (Weak.objs (keep:=[0,1]) (frz:=[]) (m:=0) (ts:=[(0,.lit (.string text0)),(5,.ptr 0 0),(6,J t76),(14,.vs 1 (t14.map (eS))),(15,J t15),(16,J t77_1)]) (hs:=[.box [.ref 1 0 ((o_0_2.map (api.Line.enc)).length),J o_1_2,.lit (.bool o_2_2),J o_3_2,J o_4_2,.lit (.string o_5_2),.lit (.int .u8 o_6_2)],.arr 3 (o_0_2.map (api.Line.enc))]) rfl (by decide) rfl rfl ⟨⟨_,rfl,WO.boxs ⟨(.ref _ _ _ 1 rfl),(.same (J o_1_2) rfl),(.same (.lit (.bool o_2_2)) rfl),(.same (J o_3_2) rfl),(.same (J o_4_2) rfl),(.same (.lit (.string o_5_2)) rfl),(.same (.lit (.int .u8 o_6_2)) rfl),trivial⟩⟩,⟨⟨_,rfl,.arr _ _⟩,⟨rfl,fun _ h=>by cases h⟩⟩⟩ ⟨(.same (.lit (.string text0)) rfl),(.ptr _ _ 0 rfl),(.same (J t76) rfl),(.same (.vs 1 (t14.map (eS))) rfl),(.same (J t15) rfl),(.same (J t77_1) rfl),trivial⟩)) ⟨_,hl1 _ (Option.some.inj hj5).symm,rfl⟩
end Go.Q
