import Derived.Test.YtoecgpemlfoogaaGreatDoorGN3
import Derived.Test.YtoecgpemlfoogaaGreatDoorFX
import Derived.Test.YtoecgpemlfoogaaGreatDoorProg
namespace Go.Q
open Go Go.Proofs
set_option maxRecDepth 10000
set_option maxHeartbeats 2000000
noncomputable def Ref3.marks.j0 (s0:ByteArray) (open1_1:Int) (out5:List Int) (i6:Int) (t15:Bool):Option ((Int × (List Int) × Int) ⊕ ((List Int))) :=
  bif t15 then
    chk (0 ≤ i6 ∧ i6 < (s0.size:Int)) <|
    letk (bt s0 i6) fun t32 =>
    chk ((out5.length + ([t32]).length) * 1 ≤ 140737488355328) <|
    letk (out5 ++ ([t32])) fun t46_3 =>
    letk (IntKind.i64.wrap (i6 + (1:Int))) fun t14_3 =>
    some (.inl (t32,t46_3,t14_3))
  else
    letk (open1_1 != (0:Int)) fun t35 =>
    bif t35 then
      chk (0 ≤ i6 ∧ i6 < (s0.size:Int)) <|
      letk (bt s0 i6) fun t39 =>
      letk (t39 == open1_1) fun t41 =>
      bif t41 then
        chk ((out5.length + ([0]).length) * 1 ≤ 140737488355328) <|
        letk (out5 ++ ([0])) fun t46_2 =>
        letk (IntKind.i64.wrap (i6 + (1:Int))) fun t14_2 =>
        some (.inl (0,t46_2,t14_2))
      else
        chk ((out5.length + ([open1_1]).length) * 1 ≤ 140737488355328) <|
        letk (out5 ++ ([open1_1])) fun t46_1 =>
        letk (IntKind.i64.wrap (i6 + (1:Int))) fun t14_1 =>
        some (.inl (open1_1,t46_1,t14_1))
    else
      chk ((out5.length + ([open1_1]).length) * 1 ≤ 140737488355328) <|
      letk (out5 ++ ([open1_1])) fun t46 =>
      letk (IntKind.i64.wrap (i6 + (1:Int))) fun t14 =>
      some (.inl (open1_1,t46,t14))
noncomputable def Ref3.marks.s0 (s0:ByteArray) (open1_1:Int) (out5:List Int) (i6:Int):Option ((Int × (List Int) × Int) ⊕ ((List Int))) :=
  letk ((s0.size:Int)) fun t11 =>
  letk (decide (i6 < t11)) fun t12 =>
  bif t12 then
    letk (open1_1 == (0:Int)) fun t17 =>
    bif t17 then
      chk (0 ≤ i6 ∧ i6 < (s0.size:Int)) <|
      letk (bt s0 i6) fun t21 =>
      letk (t21 == (39:Int)) fun t22 =>
      bif t22 then
        Ref3.marks.j0 s0 open1_1 out5 i6 true
      else
        chk (0 ≤ i6 ∧ i6 < (s0.size:Int)) <|
        letk (bt s0 i6) fun t26 =>
        letk (t26 == (34:Int)) fun t27 =>
        Ref3.marks.j0 s0 open1_1 out5 i6 t27
    else
      Ref3.marks.j0 s0 open1_1 out5 i6 false
  else
    some (.inr out5)
noncomputable def Ref3.marks.l0 (s0:ByteArray) (open1_1:Int) (out5:List Int) (i6:Int):Option ((List Int)):=loopO (fun v:Int × (List Int) × Int=>Ref3.marks.s0 s0 v.1 v.2.1 v.2.2) (open1_1,out5,i6)
theorem Ref3.marks.l0_eq (s0:ByteArray) (open1_1:Int) (out5:List Int) (i6:Int):Ref3.marks.l0 s0 open1_1 out5 i6 = (Ref3.marks.s0 s0 open1_1 out5 i6).bind (Sum.elim (fun v=>Ref3.marks.l0 s0 v.1 v.2.1 v.2.2) some):=loopO_eq _ _
noncomputable def Ref3.marks (s0:ByteArray) (open1:Int):Option ((List Int)) :=
  Ref3.marks.l0 s0 open1 ([open1]) 0
theorem Ref3.marks_ok {s0:ByteArray} {open1:Int} {r:(List Int)} (h0:Ref3.marks s0 open1 = some r):Gives Tryz.prog 35 [.lit (.string s0),.lit (.int .u8 open1)] (.vs 1 (r.map (eI .u8))):=by
  unfold Ref3.marks at h0
  refine ACalls.of_swp Tryz.func35 rfl (by decide) rfl (st0:=⟨48,[(0,.lit (.string s0)),(1,.lit (.int .u8 open1))],[]⟩) rfl (bwp_ok (C:=[(25,13)]) ?_)
  conv=>whnf
  refine Gate.go ?_
  conv=>whnf
  refine Nm.mk ⟨([open1]).map (eI .u8),rfl,?_⟩
  conv=>whnf
  unfold Ref3.marks.l0 at h0
  refine LoopB.of (σ:=Int × (List Int) × Int) (ρ:=(List Int)) (fun v:Int × (List Int) × Int=>Ref3.marks.s0 s0 v.1 v.2.1 v.2.2) (fun v=>(⟨48,[(0,.lit (.string s0)),(1,.lit (.int .u8 v.1)),(5,.ref 0 0 ((v.2.1.map (eI .u8)).length)),(6,J v.2.2)],[.arr 1 (v.2.1.map (eI .u8))]⟩:St)) (open1,[open1],0) h0 (BackS.of (Sees.of (Weak.objs (keep:=[0]) (frz:=[]) (m:=0) (ts:=[(0,.lit (.string s0)),(1,.lit (.int .u8 open1)),(5,.ref 0 0 ((([open1]).map (eI .u8)).length)),(6,J 0)]) (hs:=[.arr 1 ((([open1])).map (eI .u8))]) rfl (by decide) rfl rfl ⟨⟨_,rfl,.arr _ _⟩,⟨rfl,fun _ h=>by cases h⟩⟩ ⟨(.same (.lit (.string s0)) rfl),(.same (.lit (.int .u8 open1)) rfl),(.ref _ _ _ 0 rfl),(.same (J 0) rfl),trivial⟩)) rfl) ?_
  rintro _ ⟨open1_1,out5,i6⟩ x1 hs0_0 hl1 hr1
  replace hs0_0:Ref3.marks.s0 s0 open1_1 out5 i6 = some x1:=hs0_0
  unfold Ref3.marks.s0 at hs0_0
  change bwp _ _ _ _ _ (⟨48,[(0,.lit (.string s0)),(1,.lit (.int .u8 open1_1)),(5,.ref 0 0 ((out5.map (eI .u8)).length)),(6,J i6)],[.arr 1 (out5.map (eI .u8))]⟩:St)
  obtain ⟨t11,et11,hs0_1⟩:=letk_elim hs0_0
  conv=>whnf
  refine Nm.mk ⟨t11,et11,?_⟩
  obtain ⟨t12,et12,hs0_2⟩:=letk_elim hs0_1
  conv=>whnf
  refine Nm.mk ⟨t12,et12,?_⟩
  rcases t12 with _ | _
  · have hs0_3:=bif_f hs0_2
    have ehs0_3u_0:=hr1 _ (Option.some.inj hs0_3).symm
    have hs0_3u:=congrArg some ehs0_3u_0
    have ehs0_3u_0:=Option.some.inj hs0_3u
    subst ehs0_3u_0
    conv=>whnf
    exact Returns.frozen (r:=.vs 1 (out5.map (eI .u8))) [0] rfl rfl (WV.all (k:=0) (by decide) rfl) ⟨rfl,rfl⟩
  · have hs0_3:=bif_t hs0_2
    conv=>whnf
    refine CutN.of (fun s=>∃ (t15:Bool),Ref3.marks.j0 s0 open1_1 out5 i6 t15 = some x1 ∧ s = (⟨48,[(0,.lit (.string s0)),(1,.lit (.int .u8 open1_1)),(5,.ref 0 0 ((out5.map (eI .u8)).length)),(6,J i6),(15,.lit (.bool t15))],[.arr 1 (out5.map (eI .u8))]⟩:St)) ?_ ?_
    · obtain ⟨t17,et17,hs0_4⟩:=letk_elim hs0_3
      conv=>whnf
      refine Nm.mk ⟨t17,et17,?_⟩
      rcases t17 with _ | _
      · have hs0_5:=bif_f hs0_4
        exact BackS.of (Sees.of (Weak.objs (keep:=[0]) (frz:=[]) (m:=0) (ts:=[(0,.lit (.string s0)),(1,.lit (.int .u8 open1_1)),(5,.ref 0 0 ((out5.map (eI .u8)).length)),(6,J i6),(15,.lit (.bool false))]) (hs:=[.arr 1 (out5.map (eI .u8))]) rfl (by decide) rfl rfl ⟨⟨_,rfl,.arr _ _⟩,⟨rfl,fun _ h=>by cases h⟩⟩ ⟨(.same (.lit (.string s0)) rfl),(.same (.lit (.int .u8 open1_1)) rfl),(.ref _ _ _ 0 rfl),(.same (J i6) rfl),(.same (.lit (.bool false)) rfl),trivial⟩)) ⟨_,hs0_5,rfl⟩
      · have hs0_5:=bif_t hs0_4
        obtain ⟨chs0_6,hs0_6⟩:=chk_elim hs0_5
        obtain ⟨t21,et21,hs0_7⟩:=letk_elim hs0_6
        conv=>whnf
        refine Side.mk chs0_6 ?_
        conv=>whnf
        refine Nm.mk ⟨t21,et21,?_⟩
        obtain ⟨t22,et22,hs0_8⟩:=letk_elim hs0_7
        conv=>whnf
        refine Nm.mk ⟨t22,et22,?_⟩
        rcases t22 with _ | _
        · have hs0_9:=bif_f hs0_8
          obtain ⟨chs0_10,hs0_10⟩:=chk_elim hs0_9
          obtain ⟨t26,et26,hs0_11⟩:=letk_elim hs0_10
          conv=>whnf
          refine Side.mk chs0_10 ?_
          conv=>whnf
          refine Nm.mk ⟨t26,et26,?_⟩
          obtain ⟨t27,et27,hs0_12⟩:=letk_elim hs0_11
          conv=>whnf
          refine Nm.mk ⟨t27,et27,?_⟩
          exact BackS.of (Sees.of (Weak.objs (keep:=[0]) (frz:=[]) (m:=0) (ts:=[(0,.lit (.string s0)),(1,.lit (.int .u8 open1_1)),(5,.ref 0 0 ((out5.map (eI .u8)).length)),(6,J i6),(15,.lit (.bool t27))]) (hs:=[.arr 1 (out5.map (eI .u8))]) rfl (by decide) rfl rfl ⟨⟨_,rfl,.arr _ _⟩,⟨rfl,fun _ h=>by cases h⟩⟩ ⟨(.same (.lit (.string s0)) rfl),(.same (.lit (.int .u8 open1_1)) rfl),(.ref _ _ _ 0 rfl),(.same (J i6) rfl),(.same (.lit (.bool t27)) rfl),trivial⟩)) ⟨_,hs0_12,rfl⟩
        · have hs0_9:=bif_t hs0_8
          exact BackS.of (Sees.of (Weak.objs (keep:=[0]) (frz:=[]) (m:=0) (ts:=[(0,.lit (.string s0)),(1,.lit (.int .u8 open1_1)),(5,.ref 0 0 ((out5.map (eI .u8)).length)),(6,J i6),(15,.lit (.bool true))]) (hs:=[.arr 1 (out5.map (eI .u8))]) rfl (by decide) rfl rfl ⟨⟨_,rfl,.arr _ _⟩,⟨rfl,fun _ h=>by cases h⟩⟩ ⟨(.same (.lit (.string s0)) rfl),(.same (.lit (.int .u8 open1_1)) rfl),(.ref _ _ _ 0 rfl),(.same (J i6) rfl),(.same (.lit (.bool true)) rfl),trivial⟩)) ⟨_,hs0_9,rfl⟩
    · clear hs0_3
      rintro s ⟨t15,hj0,rfl⟩
      unfold Ref3.marks.j0 at hj0
      rcases t15 with _ | _
      · have hj1:=bif_f hj0
        obtain ⟨t35,et35,hj2⟩:=letk_elim hj1
        conv=>whnf
        refine Nm.mk ⟨t35,et35,?_⟩
        rcases t35 with _ | _
        · have hj3:=bif_f hj2
          conv=>whnf
          refine Gate.go ?_
          conv=>whnf
          refine Nm.mk ⟨([open1_1]).map (eI .u8),rfl,?_⟩
          obtain ⟨chj4,hj4⟩:=chk_elim hj3
          obtain ⟨t46,et46,hj5⟩:=letk_elim hj4
          conv=>whnf
          refine Gate.go ?_
          conv=>whnf
          refine Side.mk (full_le _) ?_
          conv=>whnf
          refine Side.mk ⟨full_le _,one_map (fun _ _ hc=>by simp only [AV.cells,List.mem_singleton] at hc; subst hc; rfl)⟩ ?_
          conv=>whnf
          refine Side.mk (side_rr (by decide) chj4) ?_
          conv=>whnf
          refine Nm.mk ⟨t46.map (eI .u8),by rw [et46]; exact app_rr (m:=[open1_1]),?_⟩
          obtain ⟨t14,et14,hj6⟩:=letk_elim hj5
          conv=>whnf
          refine Nm.mk ⟨t14,et14,?_⟩
          exact BackS.of (Sees.of (Weak.objs (keep:=[2]) (frz:=[]) (m:=0) (ts:=[(0,.lit (.string s0)),(1,.lit (.int .u8 open1_1)),(5,.ref 0 0 ((t46.map (eI .u8)).length)),(6,J t14)]) (hs:=[.arr 1 (t46.map (eI .u8))]) rfl (by decide) rfl rfl ⟨⟨_,rfl,.arr _ _⟩,⟨rfl,fun _ h=>by cases h⟩⟩ ⟨(.same (.lit (.string s0)) rfl),(.same (.lit (.int .u8 open1_1)) rfl),(.ref _ _ _ 0 rfl),(.same (J t14) rfl),trivial⟩)) ⟨_,hl1 _ (Option.some.inj hj6).symm,rfl⟩
        · have hj3:=bif_t hj2
          obtain ⟨chj4,hj4⟩:=chk_elim hj3
          obtain ⟨t39,et39,hj5⟩:=letk_elim hj4
          conv=>whnf
          refine Side.mk chj4 ?_
          conv=>whnf
          refine Nm.mk ⟨t39,et39,?_⟩
          obtain ⟨t41,et41,hj6⟩:=letk_elim hj5
          conv=>whnf
          refine Nm.mk ⟨t41,et41,?_⟩
          rcases t41 with _ | _
          · have hj7:=bif_f hj6
            conv=>whnf
            refine Gate.go ?_
            conv=>whnf
            refine Nm.mk ⟨([open1_1]).map (eI .u8),rfl,?_⟩
            obtain ⟨chj8,hj8⟩:=chk_elim hj7
            obtain ⟨t46_1,et46_1,hj9⟩:=letk_elim hj8
            conv=>whnf
            refine Gate.go ?_
            conv=>whnf
            refine Side.mk (full_le _) ?_
            conv=>whnf
            refine Side.mk ⟨full_le _,one_map (fun _ _ hc=>by simp only [AV.cells,List.mem_singleton] at hc; subst hc; rfl)⟩ ?_
            conv=>whnf
            refine Side.mk (side_rr (by decide) chj8) ?_
            conv=>whnf
            refine Nm.mk ⟨t46_1.map (eI .u8),by rw [et46_1]; exact app_rr (m:=[open1_1]),?_⟩
            obtain ⟨t14_1,et14_1,hj10⟩:=letk_elim hj9
            conv=>whnf
            refine Nm.mk ⟨t14_1,et14_1,?_⟩
            exact BackS.of (Sees.of (Weak.objs (keep:=[2]) (frz:=[]) (m:=0) (ts:=[(0,.lit (.string s0)),(1,.lit (.int .u8 open1_1)),(5,.ref 0 0 ((t46_1.map (eI .u8)).length)),(6,J t14_1)]) (hs:=[.arr 1 (t46_1.map (eI .u8))]) rfl (by decide) rfl rfl ⟨⟨_,rfl,.arr _ _⟩,⟨rfl,fun _ h=>by cases h⟩⟩ ⟨(.same (.lit (.string s0)) rfl),(.same (.lit (.int .u8 open1_1)) rfl),(.ref _ _ _ 0 rfl),(.same (J t14_1) rfl),trivial⟩)) ⟨_,hl1 _ (Option.some.inj hj10).symm,rfl⟩
          · have hj7:=bif_t hj6
            conv=>whnf
            refine Gate.go ?_
            conv=>whnf
            refine Nm.mk ⟨([0]).map (eI .u8),rfl,?_⟩
            obtain ⟨chj8,hj8⟩:=chk_elim hj7
            obtain ⟨t46_2,et46_2,hj9⟩:=letk_elim hj8
            conv=>whnf
            refine Gate.go ?_
            conv=>whnf
            refine Side.mk (full_le _) ?_
            conv=>whnf
            refine Side.mk ⟨full_le _,one_map (fun _ _ hc=>by simp only [AV.cells,List.mem_singleton] at hc; subst hc; rfl)⟩ ?_
            conv=>whnf
            refine Side.mk (side_rr (by decide) chj8) ?_
            conv=>whnf
            refine Nm.mk ⟨t46_2.map (eI .u8),by rw [et46_2]; exact app_rr (m:=[0]),?_⟩
            obtain ⟨t14_2,et14_2,hj10⟩:=letk_elim hj9
            conv=>whnf
            refine Nm.mk ⟨t14_2,et14_2,?_⟩
            exact BackS.of (Sees.of (Weak.objs (keep:=[2]) (frz:=[]) (m:=0) (ts:=[(0,.lit (.string s0)),(1,.lit (.int .u8 0)),(5,.ref 0 0 ((t46_2.map (eI .u8)).length)),(6,J t14_2)]) (hs:=[.arr 1 (t46_2.map (eI .u8))]) rfl (by decide) rfl rfl ⟨⟨_,rfl,.arr _ _⟩,⟨rfl,fun _ h=>by cases h⟩⟩ ⟨(.same (.lit (.string s0)) rfl),(.same (.lit (.int .u8 0)) rfl),(.ref _ _ _ 0 rfl),(.same (J t14_2) rfl),trivial⟩)) ⟨_,hl1 _ (Option.some.inj hj10).symm,rfl⟩
      · have hj1:=bif_t hj0
        obtain ⟨chj2,hj2⟩:=chk_elim hj1
        obtain ⟨t32,et32,hj3⟩:=letk_elim hj2
        conv=>whnf
        refine Side.mk chj2 ?_
        conv=>whnf
        refine Nm.mk ⟨t32,et32,?_⟩
        conv=>whnf
        refine Gate.go ?_
        conv=>whnf
        refine Nm.mk ⟨([t32]).map (eI .u8),rfl,?_⟩
        obtain ⟨chj4,hj4⟩:=chk_elim hj3
        obtain ⟨t46_3,et46_3,hj5⟩:=letk_elim hj4
        conv=>whnf
        refine Gate.go ?_
        conv=>whnf
        refine Side.mk (full_le _) ?_
        conv=>whnf
        refine Side.mk ⟨full_le _,one_map (fun _ _ hc=>by simp only [AV.cells,List.mem_singleton] at hc; subst hc; rfl)⟩ ?_
        conv=>whnf
        refine Side.mk (side_rr (by decide) chj4) ?_
        conv=>whnf
        refine Nm.mk ⟨t46_3.map (eI .u8),by rw [et46_3]; exact app_rr (m:=[t32]),?_⟩
        obtain ⟨t14_3,et14_3,hj6⟩:=letk_elim hj5
        conv=>whnf
        refine Nm.mk ⟨t14_3,et14_3,?_⟩
        exact BackS.of (Sees.of (Weak.objs (keep:=[2]) (frz:=[]) (m:=0) (ts:=[(0,.lit (.string s0)),(1,.lit (.int .u8 t32)),(5,.ref 0 0 ((t46_3.map (eI .u8)).length)),(6,J t14_3)]) (hs:=[.arr 1 (t46_3.map (eI .u8))]) rfl (by decide) rfl rfl ⟨⟨_,rfl,.arr _ _⟩,⟨rfl,fun _ h=>by cases h⟩⟩ ⟨(.same (.lit (.string s0)) rfl),(.same (.lit (.int .u8 t32)) rfl),(.ref _ _ _ 0 rfl),(.same (J t14_3) rfl),trivial⟩)) ⟨_,hl1 _ (Option.some.inj hj6).symm,rfl⟩
noncomputable def Ref3.outside.s0 (s0:ByteArray) (c2:Int) (t11:(List Int)) (i8:Int):Option (Int ⊕ Int) :=
  letk ((s0.size:Int)) fun t14 =>
  letk (decide (i8 < t14)) fun t15 =>
  bif t15 then
    chk (0 ≤ i8 ∧ i8 < (s0.size:Int)) <|
    letk (bt s0 i8) fun t20 =>
    letk (t20 == c2) fun t22 =>
    bif t22 then
      chk (0 ≤ i8) <|
      Option.bind (t11[i8.toNat]?) fun t26 =>
      letk (t26 == (0:Int)) fun t28 =>
      bif t28 then
        some (.inr i8)
      else
        letk (IntKind.i64.wrap (i8 + (1:Int))) fun t17_1 =>
        some (.inl t17_1)
    else
      letk (IntKind.i64.wrap (i8 + (1:Int))) fun t17 =>
      some (.inl t17)
  else
    some (.inr (-1))
noncomputable def Ref3.outside.l0 (s0:ByteArray) (c2:Int) (t11:(List Int)) (i8:Int):Option Int:=loopO (fun v:Int=>Ref3.outside.s0 s0 c2 t11 v) i8
theorem Ref3.outside.l0_eq (s0:ByteArray) (c2:Int) (t11:(List Int)) (i8:Int):Ref3.outside.l0 s0 c2 t11 i8 = (Ref3.outside.s0 s0 c2 t11 i8).bind (Sum.elim (fun v=>Ref3.outside.l0 s0 c2 t11 v) some):=loopO_eq _ _
noncomputable def Ref3.outside (s0:ByteArray) (open1 c2:Int):Option Int :=
  Option.bind (Ref3.marks s0 open1) fun t11 =>
  Ref3.outside.l0 s0 c2 t11 0
theorem Ref3.outside_ok {s0:ByteArray} {open1 c2 r:Int} (h0:Ref3.outside s0 open1 c2 = some r):Gives Tryz.prog 36 [.lit (.string s0),.lit (.int .u8 open1),.lit (.int .u8 c2)] (J r):=by
  unfold Ref3.outside at h0
  refine ACalls.of_swp Tryz.func36 rfl (by decide) rfl (st0:=⟨31,[(0,.lit (.string s0)),(1,.lit (.int .u8 open1)),(2,.lit (.int .u8 c2))],[]⟩) rfl (bwp_ok (C:=[]) ?_)
  obtain ⟨t11,et11,h1⟩:=bind_elim h0
  conv=>whnf
  refine Gate.go ?_
  conv=>whnf
  refine CallN.by (v:=.vs 1 (t11.map (eI .u8))) (Ref3.marks_ok et11) rfl rfl ?_
  conv=>whnf
  unfold Ref3.outside.l0 at h1
  refine LoopB.of (σ:=Int) (ρ:=Int) (fun v:Int=>Ref3.outside.s0 s0 c2 t11 v) (fun v=>(⟨31,[(0,.lit (.string s0)),(2,.lit (.int .u8 c2)),(7,.vs 1 (t11.map (eI .u8))),(8,J v)],[]⟩:St)) 0 h1 (BackS.of (Sees.of (Weak.objs (keep:=[]) (frz:=[]) (m:=0) (ts:=[(0,.lit (.string s0)),(2,.lit (.int .u8 c2)),(7,.vs 1 (t11.map (eI .u8))),(8,J 0)]) (hs:=[]) rfl (by decide) rfl rfl ⟨rfl,fun _ h=>by cases h⟩ ⟨(.same (.lit (.string s0)) rfl),(.same (.lit (.int .u8 c2)) rfl),(.same (.vs 1 (t11.map (eI .u8))) rfl),(.same (J 0) rfl),trivial⟩)) rfl) ?_
  rintro K1 i8 x1 hs0_0 hl1 hr1
  replace hs0_0:Ref3.outside.s0 s0 c2 t11 i8 = some x1:=hs0_0
  unfold Ref3.outside.s0 at hs0_0
  change bwp _ _ _ _ _ (⟨31,[(0,.lit (.string s0)),(2,.lit (.int .u8 c2)),(7,.vs 1 (t11.map (eI .u8))),(8,J i8)],[]⟩:St)
  obtain ⟨t14,et14,hs0_1⟩:=letk_elim hs0_0
  conv=>whnf
  refine Nm.mk ⟨t14,et14,?_⟩
  obtain ⟨t15,et15,hs0_2⟩:=letk_elim hs0_1
  conv=>whnf
  refine Nm.mk ⟨t15,et15,?_⟩
  rcases t15 with _ | _
  · have hs0_3:=bif_f hs0_2
    have ehs0_3u_0:=hr1 _ (Option.some.inj hs0_3).symm
    have hs0_3u:=congrArg some ehs0_3u_0
    have ehs0_3u_0:=Option.some.inj hs0_3u
    subst ehs0_3u_0
    conv=>whnf
    exact Returns.pure (r:=J ((-1))) rfl rfl rfl rfl ⟨rfl,rfl⟩
  · have hs0_3:=bif_t hs0_2
    obtain ⟨chs0_4,hs0_4⟩:=chk_elim hs0_3
    obtain ⟨t20,et20,hs0_5⟩:=letk_elim hs0_4
    conv=>whnf
    refine Side.mk chs0_4 ?_
    conv=>whnf
    refine Nm.mk ⟨t20,et20,?_⟩
    obtain ⟨t22,et22,hs0_6⟩:=letk_elim hs0_5
    conv=>whnf
    refine Nm.mk ⟨t22,et22,?_⟩
    rcases t22 with _ | _
    · have hs0_7:=bif_f hs0_6
      obtain ⟨t17,et17,hs0_8⟩:=letk_elim hs0_7
      conv=>whnf
      refine Nm.mk ⟨t17,et17,?_⟩
      exact BackS.of (Sees.of (Weak.objs (keep:=[]) (frz:=[]) (m:=0) (ts:=[(0,.lit (.string s0)),(2,.lit (.int .u8 c2)),(7,.vs 1 (t11.map (eI .u8))),(8,J t17)]) (hs:=[]) rfl (by decide) rfl rfl ⟨rfl,fun _ h=>by cases h⟩ ⟨(.same (.lit (.string s0)) rfl),(.same (.lit (.int .u8 c2)) rfl),(.same (.vs 1 (t11.map (eI .u8))) rfl),(.same (J t17) rfl),trivial⟩)) ⟨_,hl1 _ (Option.some.inj hs0_8).symm,rfl⟩
    · have hs0_7:=bif_t hs0_6
      obtain ⟨chs0_8,hs0_8⟩:=chk_elim hs0_7
      obtain ⟨_,et26,hs0_9⟩:=bind_elim hs0_8
      conv=>whnf
      refine Side.mk chs0_8 ?_
      conv=>whnf
      refine At.by et26 ?_
      obtain ⟨t28,et28,hs0_10⟩:=letk_elim hs0_9
      conv=>whnf
      refine Nm.mk ⟨t28,et28,?_⟩
      rcases t28 with _ | _
      · have hs0_11:=bif_f hs0_10
        obtain ⟨t17_1,et17_1,hs0_12⟩:=letk_elim hs0_11
        conv=>whnf
        refine Nm.mk ⟨t17_1,et17_1,?_⟩
        exact BackS.of (Sees.of (Weak.objs (keep:=[]) (frz:=[]) (m:=0) (ts:=[(0,.lit (.string s0)),(2,.lit (.int .u8 c2)),(7,.vs 1 (t11.map (eI .u8))),(8,J t17_1)]) (hs:=[]) rfl (by decide) rfl rfl ⟨rfl,fun _ h=>by cases h⟩ ⟨(.same (.lit (.string s0)) rfl),(.same (.lit (.int .u8 c2)) rfl),(.same (.vs 1 (t11.map (eI .u8))) rfl),(.same (J t17_1) rfl),trivial⟩)) ⟨_,hl1 _ (Option.some.inj hs0_12).symm,rfl⟩
      · have hs0_11:=bif_t hs0_10
        have ehs0_11_0:=hr1 _ (Option.some.inj hs0_11).symm
        subst ehs0_11_0
        conv=>whnf
        exact Returns.pure (r:=J i8) rfl rfl rfl rfl ⟨rfl,rfl⟩
noncomputable def Ref3.isDigit (c0:Int):Option Bool :=
  letk (decide (c0 ≥ (48:Int))) fun t4 =>
  bif t4 then
    letk (decide (c0 ≤ (57:Int))) fun t7 =>
    some t7
  else
    some false
theorem Ref3.isDigit_ok {c0:Int} {r:Bool} (h0:Ref3.isDigit c0 = some r):Gives Tryz.prog 60 [.lit (.int .u8 c0)] (.lit (.bool r)):=by
  unfold Ref3.isDigit at h0
  refine ACalls.of_swp Tryz.func60 rfl (by decide) rfl (st0:=⟨9,[(0,.lit (.int .u8 c0))],[]⟩) rfl (bwp_ok (C:=[]) ?_)
  obtain ⟨t4,et4,h1⟩:=letk_elim h0
  conv=>whnf
  refine Nm.mk ⟨t4,et4,?_⟩
  rcases t4 with _ | _
  · have h2:=bif_f h1
    have eh2_0:=Option.some.inj h2
    subst eh2_0
    conv=>whnf
    exact Returns.pure (r:=.lit (.bool false)) rfl rfl rfl rfl ⟨rfl,rfl⟩
  · have h2:=bif_t h1
    obtain ⟨t7,et7,h3⟩:=letk_elim h2
    conv=>whnf
    refine Nm.mk ⟨t7,et7,?_⟩
    have eh3_0:=Option.some.inj h3
    subst eh3_0
    conv=>whnf
    exact Returns.pure (r:=.lit (.bool t7)) rfl rfl rfl rfl ⟨rfl,rfl⟩
noncomputable def Ref3.digits.s0 (s0:ByteArray) (n3:Int):Option (Int ⊕ Int) :=
  letk ((s0.size:Int)) fun t6 =>
  letk (decide (n3 < t6)) fun t7 =>
  bif t7 then
    chk (0 ≤ n3 ∧ n3 < (s0.size:Int)) <|
    letk (bt s0 n3) fun t11 =>
    Option.bind (Ref3.isDigit t11) fun t12 =>
    bif t12 then
      letk (IntKind.i64.wrap (n3 + (1:Int))) fun t15 =>
      some (.inl t15)
    else
      some (.inr n3)
  else
    some (.inr n3)
noncomputable def Ref3.digits.l0 (s0:ByteArray) (n3:Int):Option Int:=loopO (fun v:Int=>Ref3.digits.s0 s0 v) n3
theorem Ref3.digits.l0_eq (s0:ByteArray) (n3:Int):Ref3.digits.l0 s0 n3 = (Ref3.digits.s0 s0 n3).bind (Sum.elim (fun v=>Ref3.digits.l0 s0 v) some):=loopO_eq _ _
noncomputable def Ref3.digits (s0:ByteArray):Option Int :=
  Ref3.digits.l0 s0 0
theorem Ref3.digits_ok {s0:ByteArray} {r:Int} (h0:Ref3.digits s0 = some r):Gives Tryz.prog 70 [.lit (.string s0)] (J r):=by
  unfold Ref3.digits at h0
  refine ACalls.of_swp Tryz.func70 rfl (by decide) rfl (st0:=⟨17,[(0,.lit (.string s0))],[]⟩) rfl (bwp_ok (C:=[]) ?_)
  conv=>whnf
  unfold Ref3.digits.l0 at h0
  refine LoopB.of (σ:=Int) (ρ:=Int) (fun v:Int=>Ref3.digits.s0 s0 v) (fun v=>(⟨17,[(0,.lit (.string s0)),(3,J v)],[]⟩:St)) 0 h0 (BackS.of (Sees.of (Weak.objs (keep:=[]) (frz:=[]) (m:=0) (ts:=[(0,.lit (.string s0)),(3,J 0)]) (hs:=[]) rfl (by decide) rfl rfl ⟨rfl,fun _ h=>by cases h⟩ ⟨(.same (.lit (.string s0)) rfl),(.same (J 0) rfl),trivial⟩)) rfl) ?_
  rintro K1 n3 x1 hs0_0 hl1 hr1
  replace hs0_0:Ref3.digits.s0 s0 n3 = some x1:=hs0_0
  unfold Ref3.digits.s0 at hs0_0
  change bwp _ _ _ _ _ (⟨17,[(0,.lit (.string s0)),(3,J n3)],[]⟩:St)
  obtain ⟨t6,et6,hs0_1⟩:=letk_elim hs0_0
  conv=>whnf
  refine Nm.mk ⟨t6,et6,?_⟩
  obtain ⟨t7,et7,hs0_2⟩:=letk_elim hs0_1
  conv=>whnf
  refine Nm.mk ⟨t7,et7,?_⟩
  rcases t7 with _ | _
  · have hs0_3:=bif_f hs0_2
    have ehs0_3u_0:=hr1 _ (Option.some.inj hs0_3).symm
    have hs0_3u:=congrArg some ehs0_3u_0
    have ehs0_3u_0:=Option.some.inj hs0_3u
    subst ehs0_3u_0
    conv=>whnf
    exact Returns.pure (r:=J n3) rfl rfl rfl rfl ⟨rfl,rfl⟩
  · have hs0_3:=bif_t hs0_2
    obtain ⟨chs0_4,hs0_4⟩:=chk_elim hs0_3
    obtain ⟨t11,et11,hs0_5⟩:=letk_elim hs0_4
    conv=>whnf
    refine Side.mk chs0_4 ?_
    conv=>whnf
    refine Nm.mk ⟨t11,et11,?_⟩
    obtain ⟨t12,et12,hs0_6⟩:=bind_elim hs0_5
    conv=>whnf
    refine Gate.go ?_
    conv=>whnf
    refine CallN.by (v:=.lit (.bool t12)) (Ref3.isDigit_ok et12) rfl rfl ?_
    rcases t12 with _ | _
    · have hs0_7:=bif_f hs0_6
      have ehs0_7u_0:=hr1 _ (Option.some.inj hs0_7).symm
      have hs0_7u:=congrArg some ehs0_7u_0
      have ehs0_7u_0:=Option.some.inj hs0_7u
      subst ehs0_7u_0
      conv=>whnf
      exact Returns.pure (r:=J n3) rfl rfl rfl rfl ⟨rfl,rfl⟩
    · have hs0_7:=bif_t hs0_6
      obtain ⟨t15,et15,hs0_8⟩:=letk_elim hs0_7
      conv=>whnf
      refine Nm.mk ⟨t15,et15,?_⟩
      exact BackS.of (Sees.of (Weak.objs (keep:=[]) (frz:=[]) (m:=0) (ts:=[(0,.lit (.string s0)),(3,J t15)]) (hs:=[]) rfl (by decide) rfl rfl ⟨rfl,fun _ h=>by cases h⟩ ⟨(.same (.lit (.string s0)) rfl),(.same (J t15) rfl),trivial⟩)) ⟨_,hl1 _ (Option.some.inj hs0_8).symm,rfl⟩
noncomputable def Ref3.IsText.j1 (s0:ByteArray):Option Bool :=
  Option.bind (Ref3.digits s0) fun t57 =>
  letk (t57 == (0:Int)) fun t59 =>
  bif t59 then
    some true
  else
    letk ((s0.size:Int)) fun t63 =>
    letk (t57 == t63) fun t64 =>
    bif t64 then
      some true
    else
      chk (0 ≤ t57 ∧ t57 < (s0.size:Int)) <|
      letk (bt s0 t57) fun t69 =>
      letk (t69 != (32:Int)) fun t70 =>
      some t70
noncomputable def Ref3.IsText.s0 (s0:ByteArray) (i3:Int):Option (Int ⊕ Bool) :=
  letk ((s0.size:Int)) fun t16 =>
  letk (decide (i3 < t16)) fun t17 =>
  bif t17 then
    chk (0 ≤ i3 ∧ i3 < (s0.size:Int)) <|
    letk (bt s0 i3) fun t22 =>
    letk (decide (t22 < (32:Int))) fun t23 =>
    bif t23 then
      some (.inr false)
    else
      chk (0 ≤ i3 ∧ i3 < (s0.size:Int)) <|
      letk (bt s0 i3) fun t27 =>
      letk (decide (t27 > (126:Int))) fun t28 =>
      bif t28 then
        some (.inr false)
      else
        letk (IntKind.i64.wrap (i3 + (1:Int))) fun t19 =>
        some (.inl t19)
  else
    ((
    Option.bind (Ref3.marks s0 0) fun t31 =>
    letk ((s0.size:Int)) fun t34 =>
    chk (0 ≤ t34) <|
    Option.bind (t31[t34.toNat]?) fun t35 =>
    letk (t35 != (0:Int)) fun t37 =>
    bif t37 then
      some false
    else
      Option.bind (Ref3.outside s0 0 59) fun t40 =>
      letk (decide (t40 ≥ (0:Int))) fun t41 =>
      bif t41 then
        some false
      else
        Option.bind (Ref3.outside s0 0 33) fun t45 =>
        letk (decide (t45 ≥ (0:Int))) fun t46 =>
        bif t46 then
          some false
        else
          letk ((s0.size:Int)) fun t51 =>
          letk (IntKind.i64.wrap (t51 - (1:Int))) fun t52 =>
          chk (0 ≤ t52 ∧ t52 < (s0.size:Int)) <|
          letk (bt s0 t52) fun t53 =>
          letk (t53 == (38:Int)) fun t54 =>
          bif t54 then
            some false
          else
            Ref3.IsText.j1 s0)).map .inr
noncomputable def Ref3.IsText.l0 (s0:ByteArray) (i3:Int):Option Bool:=loopO (fun v:Int=>Ref3.IsText.s0 s0 v) i3
theorem Ref3.IsText.l0_eq (s0:ByteArray) (i3:Int):Ref3.IsText.l0 s0 i3 = (Ref3.IsText.s0 s0 i3).bind (Sum.elim (fun v=>Ref3.IsText.l0 s0 v) some):=loopO_eq _ _
noncomputable def Ref3.IsText.j0 (s0:ByteArray):Option Bool :=
  Ref3.IsText.l0 s0 0
noncomputable def Ref3.IsText (s0:ByteArray):Option Bool :=
  letk (s0.toList == (⟨#[]⟩:ByteArray).toList) fun t7 =>
  bif t7 then
    some false
  else
    Option.bind (Ref3.trim s0) fun t10 =>
    letk (!(t10.toList == s0.toList)) fun t12 =>
    bif t12 then
      some false
    else
      Ref3.IsText.j0 s0
theorem Ref3.IsText_ok {s0:ByteArray} {r:Bool} (h0:Ref3.IsText s0 = some r):Gives Tryz.prog 45 [.lit (.string s0)] (.lit (.bool r)):=by
  unfold Ref3.IsText at h0
  refine ACalls.of_swp Tryz.func45 rfl (by decide) rfl (st0:=⟨72,[(0,.lit (.string s0))],[]⟩) rfl (bwp_ok (C:=[(0,3),(0,11)]) ?_)
  conv=>whnf
  refine CutN.of (fun s=>Ref3.IsText.j0 s0 = some r ∧ s = (⟨72,[(0,.lit (.string s0))],[]⟩:St)) ?_ ?_
  · obtain ⟨t7,et7,h1⟩:=letk_elim h0
    conv=>whnf
    refine Nm.mk ⟨t7,et7,?_⟩
    rcases t7 with _ | _
    · have h2:=bif_f h1
      obtain ⟨t10,et10,h3⟩:=bind_elim h2
      conv=>whnf
      refine Gate.go ?_
      conv=>whnf
      refine CallN.by (v:=.lit (.string t10)) (Ref3.trim_ok et10) rfl rfl ?_
      obtain ⟨t12,et12,h4⟩:=letk_elim h3
      conv=>whnf
      refine Nm.mk ⟨t12,et12,?_⟩
      rcases t12 with _ | _
      · have h5:=bif_f h4
        exact BackS.of (Sees.of (Weak.objs (keep:=[]) (frz:=[]) (m:=0) (ts:=[(0,.lit (.string s0))]) (hs:=[]) rfl (by decide) rfl rfl ⟨rfl,fun _ h=>by cases h⟩ ⟨(.same (.lit (.string s0)) rfl),trivial⟩)) ⟨h5,rfl⟩
      · have h5:=bif_t h4
        have eh5_0:=Option.some.inj h5
        subst eh5_0
        conv=>whnf
        exact Returns.pure (r:=.lit (.bool false)) rfl rfl rfl rfl ⟨rfl,rfl⟩
    · have h2:=bif_t h1
      have eh2_0:=Option.some.inj h2
      subst eh2_0
      conv=>whnf
      exact Returns.pure (r:=.lit (.bool false)) rfl rfl rfl rfl ⟨rfl,rfl⟩
  · clear h0
    rintro s ⟨hj0,rfl⟩
    unfold Ref3.IsText.j0 at hj0
    conv=>whnf
    unfold Ref3.IsText.l0 at hj0
    refine LoopB.of (σ:=Int) (ρ:=Bool) (fun v:Int=>Ref3.IsText.s0 s0 v) (fun v=>(⟨72,[(0,.lit (.string s0)),(3,J v)],[]⟩:St)) 0 hj0 (BackS.of (Sees.of (Weak.objs (keep:=[]) (frz:=[]) (m:=0) (ts:=[(0,.lit (.string s0)),(3,J 0)]) (hs:=[]) rfl (by decide) rfl rfl ⟨rfl,fun _ h=>by cases h⟩ ⟨(.same (.lit (.string s0)) rfl),(.same (J 0) rfl),trivial⟩)) rfl) ?_
    rintro K1 i3 x1 hs0_0 hl1 hr1
    replace hs0_0:Ref3.IsText.s0 s0 i3 = some x1:=hs0_0
    unfold Ref3.IsText.s0 at hs0_0
    change bwp _ _ _ _ _ (⟨72,[(0,.lit (.string s0)),(3,J i3)],[]⟩:St)
    obtain ⟨t16,et16,hs0_1⟩:=letk_elim hs0_0
    conv=>whnf
    refine Nm.mk ⟨t16,et16,?_⟩
    obtain ⟨t17,et17,hs0_2⟩:=letk_elim hs0_1
    conv=>whnf
    refine Nm.mk ⟨t17,et17,?_⟩
    rcases t17 with _ | _
    · have hs0_3:=bif_f hs0_2
      obtain ⟨_,hs0_3u,ehs0_3_0⟩:=map_elim hs0_3
      have ehs0_3_0:=(hr1 _ ehs0_3_0.symm).symm
      subst ehs0_3_0
      obtain ⟨t31,et31,hs0_3u0⟩:=bind_elim hs0_3u
      conv=>whnf
      refine Gate.go ?_
      conv=>whnf
      refine CallN.by (v:=.vs 1 (t31.map (eI .u8))) (Ref3.marks_ok et31) rfl rfl ?_
      conv=>whnf
      refine CutN.of (fun s=>Ref3.IsText.j1 s0 = some r ∧ s = (⟨72,[(0,.lit (.string s0))],[]⟩:St)) ?_ ?_
      · obtain ⟨t34,et34,hs0_3u1⟩:=letk_elim hs0_3u0
        conv=>whnf
        refine Nm.mk ⟨t34,et34,?_⟩
        obtain ⟨chs0_3u2,hs0_3u2⟩:=chk_elim hs0_3u1
        obtain ⟨_,et35,hs0_3u3⟩:=bind_elim hs0_3u2
        conv=>whnf
        refine Side.mk chs0_3u2 ?_
        conv=>whnf
        refine At.by et35 ?_
        obtain ⟨t37,et37,hs0_3u4⟩:=letk_elim hs0_3u3
        conv=>whnf
        refine Nm.mk ⟨t37,et37,?_⟩
        rcases t37 with _ | _
        · have hs0_3u5:=bif_f hs0_3u4
          obtain ⟨t40,et40,hs0_3u6⟩:=bind_elim hs0_3u5
          conv=>whnf
          refine Gate.go ?_
          conv=>whnf
          refine CallN.by (v:=J t40) (Ref3.outside_ok et40) rfl rfl ?_
          obtain ⟨t41,et41,hs0_3u7⟩:=letk_elim hs0_3u6
          conv=>whnf
          refine Nm.mk ⟨t41,et41,?_⟩
          rcases t41 with _ | _
          · have hs0_3u8:=bif_f hs0_3u7
            obtain ⟨t45,et45,hs0_3u9⟩:=bind_elim hs0_3u8
            conv=>whnf
            refine Gate.go ?_
            conv=>whnf
            refine CallN.by (v:=J t45) (Ref3.outside_ok et45) rfl rfl ?_
            obtain ⟨t46,et46,hs0_3u10⟩:=letk_elim hs0_3u9
            conv=>whnf
            refine Nm.mk ⟨t46,et46,?_⟩
            rcases t46 with _ | _
            · have hs0_3u11:=bif_f hs0_3u10
              obtain ⟨t51,et51,hs0_3u12⟩:=letk_elim hs0_3u11
              conv=>whnf
              refine Nm.mk ⟨t51,et51,?_⟩
              obtain ⟨t52,et52,hs0_3u13⟩:=letk_elim hs0_3u12
              conv=>whnf
              refine Nm.mk ⟨t52,et52,?_⟩
              obtain ⟨chs0_3u14,hs0_3u14⟩:=chk_elim hs0_3u13
              obtain ⟨t53,et53,hs0_3u15⟩:=letk_elim hs0_3u14
              conv=>whnf
              refine Side.mk chs0_3u14 ?_
              conv=>whnf
              refine Nm.mk ⟨t53,et53,?_⟩
              obtain ⟨t54,et54,hs0_3u16⟩:=letk_elim hs0_3u15
              conv=>whnf
              refine Nm.mk ⟨t54,et54,?_⟩
              rcases t54 with _ | _
              · have hs0_3u17:=bif_f hs0_3u16
                exact BackS.of (Sees.of (Weak.objs (keep:=[]) (frz:=[]) (m:=0) (ts:=[(0,.lit (.string s0))]) (hs:=[]) rfl (by decide) rfl rfl ⟨rfl,fun _ h=>by cases h⟩ ⟨(.same (.lit (.string s0)) rfl),trivial⟩)) ⟨hs0_3u17,rfl⟩
              · have hs0_3u17:=bif_t hs0_3u16
                have ehs0_3u17_0:=Option.some.inj hs0_3u17
                subst ehs0_3u17_0
                conv=>whnf
                exact Returns.pure (r:=.lit (.bool false)) rfl rfl rfl rfl ⟨rfl,rfl⟩
            · have hs0_3u11:=bif_t hs0_3u10
              have ehs0_3u11_0:=Option.some.inj hs0_3u11
              subst ehs0_3u11_0
              conv=>whnf
              exact Returns.pure (r:=.lit (.bool false)) rfl rfl rfl rfl ⟨rfl,rfl⟩
          · have hs0_3u8:=bif_t hs0_3u7
            have ehs0_3u8_0:=Option.some.inj hs0_3u8
            subst ehs0_3u8_0
            conv=>whnf
            exact Returns.pure (r:=.lit (.bool false)) rfl rfl rfl rfl ⟨rfl,rfl⟩
        · have hs0_3u5:=bif_t hs0_3u4
          have ehs0_3u5_0:=Option.some.inj hs0_3u5
          subst ehs0_3u5_0
          conv=>whnf
          exact Returns.pure (r:=.lit (.bool false)) rfl rfl rfl rfl ⟨rfl,rfl⟩
      · clear hs0_3u0
        rintro s ⟨hj0,rfl⟩
        unfold Ref3.IsText.j1 at hj0
        obtain ⟨t57,et57,hj1⟩:=bind_elim hj0
        conv=>whnf
        refine Gate.go ?_
        conv=>whnf
        refine CallN.by (v:=J t57) (Ref3.digits_ok et57) rfl rfl ?_
        obtain ⟨t59,et59,hj2⟩:=letk_elim hj1
        conv=>whnf
        refine Nm.mk ⟨t59,et59,?_⟩
        rcases t59 with _ | _
        · have hj3:=bif_f hj2
          obtain ⟨t63,et63,hj4⟩:=letk_elim hj3
          conv=>whnf
          refine Nm.mk ⟨t63,et63,?_⟩
          obtain ⟨t64,et64,hj5⟩:=letk_elim hj4
          conv=>whnf
          refine Nm.mk ⟨t64,et64,?_⟩
          rcases t64 with _ | _
          · have hj6:=bif_f hj5
            obtain ⟨chj7,hj7⟩:=chk_elim hj6
            obtain ⟨t69,et69,hj8⟩:=letk_elim hj7
            conv=>whnf
            refine Side.mk chj7 ?_
            conv=>whnf
            refine Nm.mk ⟨t69,et69,?_⟩
            obtain ⟨t70,et70,hj9⟩:=letk_elim hj8
            conv=>whnf
            refine Nm.mk ⟨t70,et70,?_⟩
            have ehj9_0:=Option.some.inj hj9
            subst ehj9_0
            conv=>whnf
            exact Returns.pure (r:=.lit (.bool t70)) rfl rfl rfl rfl ⟨rfl,rfl⟩
          · have hj6:=bif_t hj5
            have ehj6_0:=Option.some.inj hj6
            subst ehj6_0
            conv=>whnf
            exact Returns.pure (r:=.lit (.bool true)) rfl rfl rfl rfl ⟨rfl,rfl⟩
        · have hj3:=bif_t hj2
          have ehj3_0:=Option.some.inj hj3
          subst ehj3_0
          conv=>whnf
          exact Returns.pure (r:=.lit (.bool true)) rfl rfl rfl rfl ⟨rfl,rfl⟩
    · have hs0_3:=bif_t hs0_2
      obtain ⟨chs0_4,hs0_4⟩:=chk_elim hs0_3
      obtain ⟨t22,et22,hs0_5⟩:=letk_elim hs0_4
      conv=>whnf
      refine Side.mk chs0_4 ?_
      conv=>whnf
      refine Nm.mk ⟨t22,et22,?_⟩
      obtain ⟨t23,et23,hs0_6⟩:=letk_elim hs0_5
      conv=>whnf
      refine Nm.mk ⟨t23,et23,?_⟩
      rcases t23 with _ | _
      · have hs0_7:=bif_f hs0_6
        obtain ⟨chs0_8,hs0_8⟩:=chk_elim hs0_7
        obtain ⟨t27,et27,hs0_9⟩:=letk_elim hs0_8
        conv=>whnf
        refine Side.mk chs0_8 ?_
        conv=>whnf
        refine Nm.mk ⟨t27,et27,?_⟩
        obtain ⟨t28,et28,hs0_10⟩:=letk_elim hs0_9
        conv=>whnf
        refine Nm.mk ⟨t28,et28,?_⟩
        rcases t28 with _ | _
        · have hs0_11:=bif_f hs0_10
          obtain ⟨t19,et19,hs0_12⟩:=letk_elim hs0_11
          conv=>whnf
          refine Nm.mk ⟨t19,et19,?_⟩
          exact BackS.of (Sees.of (Weak.objs (keep:=[]) (frz:=[]) (m:=0) (ts:=[(0,.lit (.string s0)),(3,J t19)]) (hs:=[]) rfl (by decide) rfl rfl ⟨rfl,fun _ h=>by cases h⟩ ⟨(.same (.lit (.string s0)) rfl),(.same (J t19) rfl),trivial⟩)) ⟨_,hl1 _ (Option.some.inj hs0_12).symm,rfl⟩
        · have hs0_11:=bif_t hs0_10
          have ehs0_11_0:=hr1 _ (Option.some.inj hs0_11).symm
          subst ehs0_11_0
          conv=>whnf
          exact Returns.pure (r:=.lit (.bool false)) rfl rfl rfl rfl ⟨rfl,rfl⟩
      · have hs0_7:=bif_t hs0_6
        have ehs0_7_0:=hr1 _ (Option.some.inj hs0_7).symm
        subst ehs0_7_0
        conv=>whnf
        exact Returns.pure (r:=.lit (.bool false)) rfl rfl rfl rfl ⟨rfl,rfl⟩
noncomputable def Ref3.reader.ends.j0 (r0_0:List api.Line) (r0_1 r0_3 r0_5:Int) (t16:ByteArray) (t33:Bool):Option ((List api.Line) × Int × ByteArray × Int × Bool × Int) :=
  bif t33 then
    some (r0_0,r0_1,t16,r0_3,false,r0_5)
  else
    Option.bind (Ref3.IsText t16) fun t54 =>
    letk (!t54) fun t55 =>
    bif t55 then
      Option.bind (Ref3.reader.wrong r0_0 r0_1 t16 r0_3 false r0_5 r0_3) fun (o_0,o_1,o_2,o_3,o_4,o_5) =>
      some (o_0,o_1,o_2,o_3,o_4,o_5)
    else
      chk ((r0_0.length + ([(⟨r0_1,t16,r0_3⟩:api.Line)]).length) * 32 ≤ 140737488355328) <|
      letk (r0_0 ++ ([(⟨r0_1,t16,r0_3⟩:api.Line)])) fun t30 =>
      some (t30,r0_1,t16,r0_3,false,r0_5)
noncomputable def Ref3.reader.ends (r0_0:List api.Line) (r0_1:Int) (r0_2:ByteArray) (r0_3:Int) (r0_4:Bool) (r0_5:Int):Option ((List api.Line) × Int × ByteArray × Int × Bool × Int) :=
  letk (!r0_4) fun t6 =>
  bif t6 then
    some (r0_0,r0_1,r0_2,r0_3,r0_4,r0_5)
  else
    Option.bind (Ref3.trim r0_2) fun t16 =>
    letk (t16.toList == (⟨#[]⟩:ByteArray).toList) fun t39 =>
    bif t39 then
      letk (r0_1 == (0:Int)) fun t46 =>
      Ref3.reader.ends.j0 r0_0 r0_1 r0_3 r0_5 t16 t46
    else
      Ref3.reader.ends.j0 r0_0 r0_1 r0_3 r0_5 t16 false
end Go.Q
