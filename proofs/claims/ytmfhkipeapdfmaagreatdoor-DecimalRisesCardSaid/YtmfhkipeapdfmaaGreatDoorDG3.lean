import Derived.Test.YtmfhkipeapdfmaaGreatDoorDG2
import Derived.Test.YtmfhkipeapdfmaaGreatDoorFX
import Derived.Test.YtmfhkipeapdfmaaGreatDoorFY
import Derived.Test.YtmfhkipeapdfmaaGreatDoorProg
namespace Go.Q
open Go Go.Proofs
set_option maxRecDepth 10000
set_option maxHeartbeats 2000000
noncomputable def Flt.shape.add.j1 (mode1:Int) (s4_0_1:Int) (s4_1_1:Int) (x6_0_1:Int) (x6_1_1:Int) (x6_2_1:Int) (x6_3_1:Int) (y7_0_1:Int) (y7_1_1:Int) (y7_2_1:Int) (y7_3_1:Int):Option (Int × Int) :=
  Option.bind (Flt.shape.sum (⟨s4_0_1,s4_1_1⟩:float.shape) mode1 (⟨x6_0_1,x6_1_1,x6_2_1,x6_3_1⟩:float.number) (⟨y7_0_1,y7_1_1,y7_2_1,y7_3_1⟩:float.number)) fun (t130_0,t130_1) =>
  some (t130_0,t130_1)
noncomputable def Flt.shape.add.j0 (mode1:Int) (s4_0:Int) (s4_1:Int) (x6_0:Int) (x6_1:Int) (x6_2:Int) (x6_3:Int) (y7_0:Int) (y7_1:Int) (y7_2:Int) (y7_3:Int):Option (Int × Int) :=
  letk (decide (x6_3 < y7_3)) fun t123 =>
  bif t123 then
    Flt.shape.add.j1 mode1 s4_0 s4_1 y7_0 y7_1 y7_2 y7_3 x6_0 x6_1 x6_2 x6_3
  else
    Flt.shape.add.j1 mode1 s4_0 s4_1 x6_0 x6_1 x6_2 x6_3 y7_0 y7_1 y7_2 y7_3
noncomputable def Flt.shape.add.j5 (s0:float.shape) (mode1:Int) (x2:float.number) (y3:float.number) (t75:Bool):Option (Int × Int) :=
  bif t75 then
    Option.bind (Flt.shape.none (⟨s0.p,s0.w⟩:float.shape) mode1) fun t86 =>
    some (t86,0)
  else
    letk (x2.class_ == (0:Int)) fun t90 =>
    bif t90 then
      Option.bind (Flt.shape.round (⟨s0.p,s0.w⟩:float.shape) mode1 y3.sign (⟨0,y3.m,y3.e,false⟩:float.exact)) fun (t100_0,t100_1) =>
      some (t100_0,t100_1)
    else
      letk (y3.class_ == (0:Int)) fun t106 =>
      bif t106 then
        Option.bind (Flt.shape.round (⟨s0.p,s0.w⟩:float.shape) mode1 x2.sign (⟨0,x2.m,x2.e,false⟩:float.exact)) fun (t116_0,t116_1) =>
        some (t116_0,t116_1)
      else
        Flt.shape.add.j0 mode1 s0.p s0.w x2.class_ x2.sign x2.m x2.e y3.class_ y3.sign y3.m y3.e
noncomputable def Flt.shape.add.j4 (s0:float.shape) (mode1:Int) (x2:float.number) (y3:float.number) (t55:Bool):Option (Int × Int) :=
  bif t55 then
    Option.bind (Flt.shape.zero (⟨s0.p,s0.w⟩:float.shape) x2.sign) fun t74 =>
    some (t74,0)
  else
    letk (x2.class_ == (0:Int)) fun t78 =>
    bif t78 then
      letk (y3.class_ == (0:Int)) fun t82 =>
      Flt.shape.add.j5 s0 mode1 x2 y3 t82
    else
      Flt.shape.add.j5 s0 mode1 x2 y3 false
noncomputable def Flt.shape.add.j3 (s0:float.shape) (mode1:Int) (x2:float.number) (y3:float.number) (t21:Bool):Option (Int × Int) :=
  bif t21 then
    Option.bind (Flt.shape.quiet (⟨s0.p,s0.w⟩:float.shape)) fun t38 =>
    some (t38,1)
  else
    letk (x2.class_ == (2:Int)) fun t42 =>
    bif t42 then
      Option.bind (Flt.shape.infinite (⟨s0.p,s0.w⟩:float.shape) x2.sign) fun t46 =>
      some (t46,0)
    else
      letk (y3.class_ == (2:Int)) fun t50 =>
      bif t50 then
        Option.bind (Flt.shape.infinite (⟨s0.p,s0.w⟩:float.shape) y3.sign) fun t54 =>
        some (t54,0)
      else
        letk (x2.class_ == (0:Int)) fun t58 =>
        bif t58 then
          letk (y3.class_ == (0:Int)) fun t62 =>
          bif t62 then
            letk (x2.sign == y3.sign) fun t69 =>
            Flt.shape.add.j4 s0 mode1 x2 y3 t69
          else
            Flt.shape.add.j4 s0 mode1 x2 y3 false
        else
          Flt.shape.add.j4 s0 mode1 x2 y3 false
noncomputable def Flt.shape.add.j2 (s0:float.shape) (mode1:Int) (x2:float.number) (y3:float.number) (t10:Bool):Option (Int × Int) :=
  bif t10 then
    Option.bind (Flt.shape.quiet (⟨s0.p,s0.w⟩:float.shape)) fun t20 =>
    some (t20,0)
  else
    letk (x2.class_ == (2:Int)) fun t24 =>
    bif t24 then
      letk (y3.class_ == (2:Int)) fun t28 =>
      bif t28 then
        letk (x2.sign != y3.sign) fun t35 =>
        Flt.shape.add.j3 s0 mode1 x2 y3 t35
      else
        Flt.shape.add.j3 s0 mode1 x2 y3 false
    else
      Flt.shape.add.j3 s0 mode1 x2 y3 false
noncomputable def Flt.shape.add (s0:float.shape) (mode1:Int) (x2:float.number) (y3:float.number):Option (Int × Int) :=
  letk (x2.class_ == (3:Int)) fun t13 =>
  bif t13 then
    Flt.shape.add.j2 s0 mode1 x2 y3 true
  else
    letk (y3.class_ == (3:Int)) fun t17 =>
    Flt.shape.add.j2 s0 mode1 x2 y3 t17
theorem Flt.shape.add_ok {s0:float.shape} {mode1:Int} {x2:float.number} {y3:float.number} {r:Int × Int} (h0:Flt.shape.add s0 mode1 x2 y3 = some r):Gives Tryz.prog 149 [float.shape.enc s0,.lit (.int .i64 mode1),float.number.enc x2,float.number.enc y3] (.tup [.lit (.int .i64 r.1),.lit (.int .i64 r.2)]):=by
  unfold Flt.shape.add at h0
  refine ACalls.of_swp Tryz.func149 rfl (by decide) rfl (st0:=⟨133,[(0,float.shape.enc s0),(1,.lit (.int .i64 mode1)),(2,float.number.enc x2),(3,float.number.enc y3)],[]⟩) rfl (bwp_ok (C:=[(0,17),(0,19),(20,5),(31,9),(65,21),(85,25)]) ?_)
  conv=>whnf
  refine Nm.mk ⟨[.lit (.int .i64 s0.p),.lit (.int .i64 s0.w)],rfl,?_⟩
  conv=>whnf
  refine Nm.mk ⟨[.lit (.int .i64 x2.class_),.lit (.int .i64 x2.sign),.lit (.int .u64 x2.m),.lit (.int .i64 x2.e)],rfl,?_⟩
  conv=>whnf
  refine Nm.mk ⟨[.lit (.int .i64 y3.class_),.lit (.int .i64 y3.sign),.lit (.int .u64 y3.m),.lit (.int .i64 y3.e)],rfl,?_⟩
  conv=>whnf
  refine CutN.of (fun s=>∃ (s4_0:Int) (s4_1:Int) (x6_0:Int) (x6_1:Int) (x6_2:Int) (x6_3:Int) (y7_0:Int) (y7_1:Int) (y7_2:Int) (y7_3:Int),Flt.shape.add.j0 mode1 s4_0 s4_1 x6_0 x6_1 x6_2 x6_3 y7_0 y7_1 y7_2 y7_3 = some r ∧ s = (⟨133,[(1,.lit (.int .i64 mode1)),(4,.ptr 0 0),(6,.ptr 1 0),(7,.ptr 2 0)],[.box [.lit (.int .i64 s4_0),.lit (.int .i64 s4_1)],.box [.lit (.int .i64 x6_0),.lit (.int .i64 x6_1),.lit (.int .u64 x6_2),.lit (.int .i64 x6_3)],.box [.lit (.int .i64 y7_0),.lit (.int .i64 y7_1),.lit (.int .u64 y7_2),.lit (.int .i64 y7_3)]]⟩:St)) ?_ ?_
  · conv=>whnf
    refine CutN.of (fun s=>∃ (t10:Bool),Flt.shape.add.j2 s0 mode1 x2 y3 t10 = some r ∧ s = (⟨133,[(1,.lit (.int .i64 mode1)),(4,.ptr 0 0),(6,.ptr 1 0),(7,.ptr 2 0),(10,.lit (.bool t10))],[.box [.lit (.int .i64 s0.p),.lit (.int .i64 s0.w)],.box [.lit (.int .i64 x2.class_),.lit (.int .i64 x2.sign),.lit (.int .u64 x2.m),.lit (.int .i64 x2.e)],.box [.lit (.int .i64 y3.class_),.lit (.int .i64 y3.sign),.lit (.int .u64 y3.m),.lit (.int .i64 y3.e)]]⟩:St)) ?_ ?_
    · obtain ⟨t13,et13,h1⟩:=letk_elim h0; clear h0
      conv=>whnf
      refine Nm.mk ⟨t13,et13,?_⟩
      rcases t13 with _ | _
      · have h2:=bif_f h1
        clear h1
        obtain ⟨t17,et17,h3⟩:=letk_elim h2; clear h2
        conv=>whnf
        refine Nm.mk ⟨t17,et17,?_⟩
        exact BackS.by ⟨_,h3,rfl⟩ (Sees.of (Weak.objs (keep:=[0,1,2]) (frz:=[]) (m:=0) rfl (by decide) rfl rfl ⟨⟨_,rfl,WO.boxs ⟨.s,.s,trivial⟩⟩,⟨⟨_,rfl,WO.boxs ⟨.s,.s,.s,.s,trivial⟩⟩,⟨⟨_,rfl,WO.boxs ⟨.s,.s,.s,.s,trivial⟩⟩,⟨rfl,fun _ h=>by cases h⟩⟩⟩⟩ ⟨.s,(.ptr _ _ 0 rfl),(.ptr _ _ 1 rfl),(.ptr _ _ 2 rfl),.s,trivial⟩))
      have h2:=bif_t h1
      clear h1
      exact BackS.by ⟨_,h2,rfl⟩ (Sees.of (Weak.objs (keep:=[0,1,2]) (frz:=[]) (m:=0) rfl (by decide) rfl rfl ⟨⟨_,rfl,WO.boxs ⟨.s,.s,trivial⟩⟩,⟨⟨_,rfl,WO.boxs ⟨.s,.s,.s,.s,trivial⟩⟩,⟨⟨_,rfl,WO.boxs ⟨.s,.s,.s,.s,trivial⟩⟩,⟨rfl,fun _ h=>by cases h⟩⟩⟩⟩ ⟨.s,(.ptr _ _ 0 rfl),(.ptr _ _ 1 rfl),(.ptr _ _ 2 rfl),.s,trivial⟩))
    clear h0
    rintro s ⟨t10,hj0,rfl⟩
    unfold Flt.shape.add.j2 at hj0
    rcases t10 with _ | _
    · have hj1:=bif_f hj0
      clear hj0
      conv=>whnf
      refine CutN.of (fun s=>∃ (t21:Bool),Flt.shape.add.j3 s0 mode1 x2 y3 t21 = some r ∧ s = (⟨133,[(1,.lit (.int .i64 mode1)),(4,.ptr 0 0),(6,.ptr 1 0),(7,.ptr 2 0),(21,.lit (.bool t21))],[.box [.lit (.int .i64 s0.p),.lit (.int .i64 s0.w)],.box [.lit (.int .i64 x2.class_),.lit (.int .i64 x2.sign),.lit (.int .u64 x2.m),.lit (.int .i64 x2.e)],.box [.lit (.int .i64 y3.class_),.lit (.int .i64 y3.sign),.lit (.int .u64 y3.m),.lit (.int .i64 y3.e)]]⟩:St)) ?_ ?_
      · obtain ⟨t24,et24,hj2⟩:=letk_elim hj1; clear hj1
        conv=>whnf
        refine Nm.mk ⟨t24,et24,?_⟩
        rcases t24 with _ | _
        · have hj3:=bif_f hj2
          clear hj2
          exact BackS.by ⟨_,hj3,rfl⟩ (Sees.of (Weak.objs (keep:=[0,1,2]) (frz:=[]) (m:=0) rfl (by decide) rfl rfl ⟨⟨_,rfl,WO.boxs ⟨.s,.s,trivial⟩⟩,⟨⟨_,rfl,WO.boxs ⟨.s,.s,.s,.s,trivial⟩⟩,⟨⟨_,rfl,WO.boxs ⟨.s,.s,.s,.s,trivial⟩⟩,⟨rfl,fun _ h=>by cases h⟩⟩⟩⟩ ⟨.s,(.ptr _ _ 0 rfl),(.ptr _ _ 1 rfl),(.ptr _ _ 2 rfl),.s,trivial⟩))
        have hj3:=bif_t hj2
        clear hj2
        obtain ⟨t28,et28,hj4⟩:=letk_elim hj3; clear hj3
        conv=>whnf
        refine Nm.mk ⟨t28,et28,?_⟩
        rcases t28 with _ | _
        · have hj5:=bif_f hj4
          clear hj4
          exact BackS.by ⟨_,hj5,rfl⟩ (Sees.of (Weak.objs (keep:=[0,1,2]) (frz:=[]) (m:=0) rfl (by decide) rfl rfl ⟨⟨_,rfl,WO.boxs ⟨.s,.s,trivial⟩⟩,⟨⟨_,rfl,WO.boxs ⟨.s,.s,.s,.s,trivial⟩⟩,⟨⟨_,rfl,WO.boxs ⟨.s,.s,.s,.s,trivial⟩⟩,⟨rfl,fun _ h=>by cases h⟩⟩⟩⟩ ⟨.s,(.ptr _ _ 0 rfl),(.ptr _ _ 1 rfl),(.ptr _ _ 2 rfl),.s,trivial⟩))
        have hj5:=bif_t hj4
        clear hj4
        obtain ⟨t35,et35,hj6⟩:=letk_elim hj5; clear hj5
        conv=>whnf
        refine Nm.mk ⟨t35,et35,?_⟩
        exact BackS.by ⟨_,hj6,rfl⟩ (Sees.of (Weak.objs (keep:=[0,1,2]) (frz:=[]) (m:=0) rfl (by decide) rfl rfl ⟨⟨_,rfl,WO.boxs ⟨.s,.s,trivial⟩⟩,⟨⟨_,rfl,WO.boxs ⟨.s,.s,.s,.s,trivial⟩⟩,⟨⟨_,rfl,WO.boxs ⟨.s,.s,.s,.s,trivial⟩⟩,⟨rfl,fun _ h=>by cases h⟩⟩⟩⟩ ⟨.s,(.ptr _ _ 0 rfl),(.ptr _ _ 1 rfl),(.ptr _ _ 2 rfl),.s,trivial⟩))
      clear hj1
      rintro s ⟨t21,hj0,rfl⟩
      unfold Flt.shape.add.j3 at hj0
      rcases t21 with _ | _
      · have hj1:=bif_f hj0
        clear hj0
        obtain ⟨t42,et42,hj2⟩:=letk_elim hj1; clear hj1
        conv=>whnf
        refine Nm.mk ⟨t42,et42,?_⟩
        rcases t42 with _ | _
        · have hj3:=bif_f hj2
          clear hj2
          obtain ⟨t50,et50,hj4⟩:=letk_elim hj3; clear hj3
          conv=>whnf
          refine Nm.mk ⟨t50,et50,?_⟩
          rcases t50 with _ | _
          · have hj5:=bif_f hj4
            clear hj4
            conv=>whnf
            refine CutN.of (fun s=>∃ (t55:Bool),Flt.shape.add.j4 s0 mode1 x2 y3 t55 = some r ∧ s = (⟨133,[(1,.lit (.int .i64 mode1)),(4,.ptr 0 0),(6,.ptr 1 0),(7,.ptr 2 0),(55,.lit (.bool t55))],[.box [.lit (.int .i64 s0.p),.lit (.int .i64 s0.w)],.box [.lit (.int .i64 x2.class_),.lit (.int .i64 x2.sign),.lit (.int .u64 x2.m),.lit (.int .i64 x2.e)],.box [.lit (.int .i64 y3.class_),.lit (.int .i64 y3.sign),.lit (.int .u64 y3.m),.lit (.int .i64 y3.e)]]⟩:St)) ?_ ?_
            · obtain ⟨t58,et58,hj6⟩:=letk_elim hj5; clear hj5
              conv=>whnf
              refine Nm.mk ⟨t58,et58,?_⟩
              rcases t58 with _ | _
              · have hj7:=bif_f hj6
                clear hj6
                exact BackS.by ⟨_,hj7,rfl⟩ (Sees.of (Weak.objs (keep:=[0,1,2]) (frz:=[]) (m:=0) rfl (by decide) rfl rfl ⟨⟨_,rfl,WO.boxs ⟨.s,.s,trivial⟩⟩,⟨⟨_,rfl,WO.boxs ⟨.s,.s,.s,.s,trivial⟩⟩,⟨⟨_,rfl,WO.boxs ⟨.s,.s,.s,.s,trivial⟩⟩,⟨rfl,fun _ h=>by cases h⟩⟩⟩⟩ ⟨.s,(.ptr _ _ 0 rfl),(.ptr _ _ 1 rfl),(.ptr _ _ 2 rfl),.s,trivial⟩))
              have hj7:=bif_t hj6
              clear hj6
              obtain ⟨t62,et62,hj8⟩:=letk_elim hj7; clear hj7
              conv=>whnf
              refine Nm.mk ⟨t62,et62,?_⟩
              rcases t62 with _ | _
              · have hj9:=bif_f hj8
                clear hj8
                exact BackS.by ⟨_,hj9,rfl⟩ (Sees.of (Weak.objs (keep:=[0,1,2]) (frz:=[]) (m:=0) rfl (by decide) rfl rfl ⟨⟨_,rfl,WO.boxs ⟨.s,.s,trivial⟩⟩,⟨⟨_,rfl,WO.boxs ⟨.s,.s,.s,.s,trivial⟩⟩,⟨⟨_,rfl,WO.boxs ⟨.s,.s,.s,.s,trivial⟩⟩,⟨rfl,fun _ h=>by cases h⟩⟩⟩⟩ ⟨.s,(.ptr _ _ 0 rfl),(.ptr _ _ 1 rfl),(.ptr _ _ 2 rfl),.s,trivial⟩))
              have hj9:=bif_t hj8
              clear hj8
              obtain ⟨t69,et69,hj10⟩:=letk_elim hj9; clear hj9
              conv=>whnf
              refine Nm.mk ⟨t69,et69,?_⟩
              exact BackS.by ⟨_,hj10,rfl⟩ (Sees.of (Weak.objs (keep:=[0,1,2]) (frz:=[]) (m:=0) rfl (by decide) rfl rfl ⟨⟨_,rfl,WO.boxs ⟨.s,.s,trivial⟩⟩,⟨⟨_,rfl,WO.boxs ⟨.s,.s,.s,.s,trivial⟩⟩,⟨⟨_,rfl,WO.boxs ⟨.s,.s,.s,.s,trivial⟩⟩,⟨rfl,fun _ h=>by cases h⟩⟩⟩⟩ ⟨.s,(.ptr _ _ 0 rfl),(.ptr _ _ 1 rfl),(.ptr _ _ 2 rfl),.s,trivial⟩))
            clear hj5
            rintro s ⟨t55,hj0,rfl⟩
            unfold Flt.shape.add.j4 at hj0
            rcases t55 with _ | _
            · have hj1:=bif_f hj0
              clear hj0
              conv=>whnf
              refine CutN.of (fun s=>∃ (t75:Bool),Flt.shape.add.j5 s0 mode1 x2 y3 t75 = some r ∧ s = (⟨133,[(1,.lit (.int .i64 mode1)),(4,.ptr 0 0),(6,.ptr 1 0),(7,.ptr 2 0),(75,.lit (.bool t75))],[.box [.lit (.int .i64 s0.p),.lit (.int .i64 s0.w)],.box [.lit (.int .i64 x2.class_),.lit (.int .i64 x2.sign),.lit (.int .u64 x2.m),.lit (.int .i64 x2.e)],.box [.lit (.int .i64 y3.class_),.lit (.int .i64 y3.sign),.lit (.int .u64 y3.m),.lit (.int .i64 y3.e)]]⟩:St)) ?_ ?_
              · obtain ⟨t78,et78,hj2⟩:=letk_elim hj1; clear hj1
                conv=>whnf
                refine Nm.mk ⟨t78,et78,?_⟩
                rcases t78 with _ | _
                · have hj3:=bif_f hj2
                  clear hj2
                  exact BackS.by ⟨_,hj3,rfl⟩ (Sees.of (Weak.objs (keep:=[0,1,2]) (frz:=[]) (m:=0) rfl (by decide) rfl rfl ⟨⟨_,rfl,WO.boxs ⟨.s,.s,trivial⟩⟩,⟨⟨_,rfl,WO.boxs ⟨.s,.s,.s,.s,trivial⟩⟩,⟨⟨_,rfl,WO.boxs ⟨.s,.s,.s,.s,trivial⟩⟩,⟨rfl,fun _ h=>by cases h⟩⟩⟩⟩ ⟨.s,(.ptr _ _ 0 rfl),(.ptr _ _ 1 rfl),(.ptr _ _ 2 rfl),.s,trivial⟩))
                have hj3:=bif_t hj2
                clear hj2
                obtain ⟨t82,et82,hj4⟩:=letk_elim hj3; clear hj3
                conv=>whnf
                refine Nm.mk ⟨t82,et82,?_⟩
                exact BackS.by ⟨_,hj4,rfl⟩ (Sees.of (Weak.objs (keep:=[0,1,2]) (frz:=[]) (m:=0) rfl (by decide) rfl rfl ⟨⟨_,rfl,WO.boxs ⟨.s,.s,trivial⟩⟩,⟨⟨_,rfl,WO.boxs ⟨.s,.s,.s,.s,trivial⟩⟩,⟨⟨_,rfl,WO.boxs ⟨.s,.s,.s,.s,trivial⟩⟩,⟨rfl,fun _ h=>by cases h⟩⟩⟩⟩ ⟨.s,(.ptr _ _ 0 rfl),(.ptr _ _ 1 rfl),(.ptr _ _ 2 rfl),.s,trivial⟩))
              clear hj1
              rintro s ⟨t75,hj0,rfl⟩
              unfold Flt.shape.add.j5 at hj0
              rcases t75 with _ | _
              · have hj1:=bif_f hj0
                clear hj0
                obtain ⟨t90,et90,hj2⟩:=letk_elim hj1; clear hj1
                conv=>whnf
                refine Nm.mk ⟨t90,et90,?_⟩
                rcases t90 with _ | _
                · have hj3:=bif_f hj2
                  clear hj2
                  obtain ⟨t106,et106,hj4⟩:=letk_elim hj3; clear hj3
                  conv=>whnf
                  refine Nm.mk ⟨t106,et106,?_⟩
                  rcases t106 with _ | _
                  · have hj5:=bif_f hj4
                    clear hj4
                    exact BackS.by ⟨_,_,_,_,_,_,_,_,_,_,hj5,rfl⟩ (Sees.of (Weak.objs (keep:=[0,1,2]) (frz:=[]) (m:=0) rfl (by decide) rfl rfl ⟨⟨_,rfl,WO.boxs ⟨.s,.s,trivial⟩⟩,⟨⟨_,rfl,WO.boxs ⟨.s,.s,.s,.s,trivial⟩⟩,⟨⟨_,rfl,WO.boxs ⟨.s,.s,.s,.s,trivial⟩⟩,⟨rfl,fun _ h=>by cases h⟩⟩⟩⟩ ⟨.s,(.ptr _ _ 0 rfl),(.ptr _ _ 1 rfl),(.ptr _ _ 2 rfl),trivial⟩))
                  have hj5:=bif_t hj4
                  clear hj4
                  conv=>whnf
                  refine Gate.go ?_
                  conv=>whnf
                  refine Nm.mk ⟨[.lit (.int .u64 0),.lit (.int .u64 x2.m),.lit (.int .i64 x2.e),.lit (.bool false)],rfl,?_⟩
                  obtain ⟨⟨t116_0,t116_1⟩,et116,hj6⟩:=bind_elim hj5; clear hj5
                  conv=>whnf
                  refine Gate.go ?_
                  conv=>whnf
                  refine CallN.by (v:=.tup [.lit (.int .i64 t116_0),.lit (.int .i64 t116_1)]) (Flt.shape.round_ok et116) rfl rfl ?_
                  have ehj6_0:=Option.some.inj hj6
                  subst ehj6_0
                  conv=>whnf
                  exact Returns.pure (r:=.tup [.lit (.int .i64 t116_0),.lit (.int .i64 t116_1)]) rfl rfl rfl rfl ⟨rfl,rfl⟩
                have hj3:=bif_t hj2
                clear hj2
                conv=>whnf
                refine Gate.go ?_
                conv=>whnf
                refine Nm.mk ⟨[.lit (.int .u64 0),.lit (.int .u64 y3.m),.lit (.int .i64 y3.e),.lit (.bool false)],rfl,?_⟩
                obtain ⟨⟨t100_0,t100_1⟩,et100,hj4⟩:=bind_elim hj3; clear hj3
                conv=>whnf
                refine Gate.go ?_
                conv=>whnf
                refine CallN.by (v:=.tup [.lit (.int .i64 t100_0),.lit (.int .i64 t100_1)]) (Flt.shape.round_ok et100) rfl rfl ?_
                have ehj4_0:=Option.some.inj hj4
                subst ehj4_0
                conv=>whnf
                exact Returns.pure (r:=.tup [.lit (.int .i64 t100_0),.lit (.int .i64 t100_1)]) rfl rfl rfl rfl ⟨rfl,rfl⟩
              have hj1:=bif_t hj0
              clear hj0
              obtain ⟨t86,et86,hj2⟩:=bind_elim hj1; clear hj1
              conv=>whnf
              refine Gate.go ?_
              conv=>whnf
              refine CallN.by (v:=.lit (.int .i64 t86)) (Flt.shape.none_ok et86) rfl rfl ?_
              have ehj2_0:=Option.some.inj hj2
              subst ehj2_0
              conv=>whnf
              exact Returns.pure (r:=.tup [.lit (.int .i64 t86),.lit (.int .i64 0)]) rfl rfl rfl rfl ⟨rfl,rfl⟩
            have hj1:=bif_t hj0
            clear hj0
            obtain ⟨t74,et74,hj2⟩:=bind_elim hj1; clear hj1
            conv=>whnf
            refine Gate.go ?_
            conv=>whnf
            refine CallN.by (v:=.lit (.int .i64 t74)) (Flt.shape.zero_ok et74) rfl rfl ?_
            have ehj2_0:=Option.some.inj hj2
            subst ehj2_0
            conv=>whnf
            exact Returns.pure (r:=.tup [.lit (.int .i64 t74),.lit (.int .i64 0)]) rfl rfl rfl rfl ⟨rfl,rfl⟩
          have hj5:=bif_t hj4
          clear hj4
          obtain ⟨t54,et54,hj6⟩:=bind_elim hj5; clear hj5
          conv=>whnf
          refine Gate.go ?_
          conv=>whnf
          refine CallN.by (v:=.lit (.int .i64 t54)) (Flt.shape.infinite_ok et54) rfl rfl ?_
          have ehj6_0:=Option.some.inj hj6
          subst ehj6_0
          conv=>whnf
          exact Returns.pure (r:=.tup [.lit (.int .i64 t54),.lit (.int .i64 0)]) rfl rfl rfl rfl ⟨rfl,rfl⟩
        have hj3:=bif_t hj2
        clear hj2
        obtain ⟨t46,et46,hj4⟩:=bind_elim hj3; clear hj3
        conv=>whnf
        refine Gate.go ?_
        conv=>whnf
        refine CallN.by (v:=.lit (.int .i64 t46)) (Flt.shape.infinite_ok et46) rfl rfl ?_
        have ehj4_0:=Option.some.inj hj4
        subst ehj4_0
        conv=>whnf
        exact Returns.pure (r:=.tup [.lit (.int .i64 t46),.lit (.int .i64 0)]) rfl rfl rfl rfl ⟨rfl,rfl⟩
      have hj1:=bif_t hj0
      clear hj0
      obtain ⟨t38,et38,hj2⟩:=bind_elim hj1; clear hj1
      conv=>whnf
      refine Gate.go ?_
      conv=>whnf
      refine CallN.by (v:=.lit (.int .i64 t38)) (Flt.shape.quiet_ok et38) rfl rfl ?_
      have ehj2_0:=Option.some.inj hj2
      subst ehj2_0
      conv=>whnf
      exact Returns.pure (r:=.tup [.lit (.int .i64 t38),.lit (.int .i64 1)]) rfl rfl rfl rfl ⟨rfl,rfl⟩
    have hj1:=bif_t hj0
    clear hj0
    obtain ⟨t20,et20,hj2⟩:=bind_elim hj1; clear hj1
    conv=>whnf
    refine Gate.go ?_
    conv=>whnf
    refine CallN.by (v:=.lit (.int .i64 t20)) (Flt.shape.quiet_ok et20) rfl rfl ?_
    have ehj2_0:=Option.some.inj hj2
    subst ehj2_0
    conv=>whnf
    exact Returns.pure (r:=.tup [.lit (.int .i64 t20),.lit (.int .i64 0)]) rfl rfl rfl rfl ⟨rfl,rfl⟩
  clear h0
  rintro s ⟨s4_0,s4_1,x6_0,x6_1,x6_2,x6_3,y7_0,y7_1,y7_2,y7_3,hj0,rfl⟩
  unfold Flt.shape.add.j0 at hj0
  conv=>whnf
  refine CutN.of (fun s=>∃ (s4_0_1:Int) (s4_1_1:Int) (x6_0_1:Int) (x6_1_1:Int) (x6_2_1:Int) (x6_3_1:Int) (y7_0_1:Int) (y7_1_1:Int) (y7_2_1:Int) (y7_3_1:Int),Flt.shape.add.j1 mode1 s4_0_1 s4_1_1 x6_0_1 x6_1_1 x6_2_1 x6_3_1 y7_0_1 y7_1_1 y7_2_1 y7_3_1 = some r ∧ s = (⟨133,[(1,.lit (.int .i64 mode1)),(4,.ptr 0 0),(6,.ptr 1 0),(7,.ptr 2 0)],[.box [.lit (.int .i64 s4_0_1),.lit (.int .i64 s4_1_1)],.box [.lit (.int .i64 x6_0_1),.lit (.int .i64 x6_1_1),.lit (.int .u64 x6_2_1),.lit (.int .i64 x6_3_1)],.box [.lit (.int .i64 y7_0_1),.lit (.int .i64 y7_1_1),.lit (.int .u64 y7_2_1),.lit (.int .i64 y7_3_1)]]⟩:St)) ?_ ?_
  · obtain ⟨t123,et123,hj1⟩:=letk_elim hj0; clear hj0
    conv=>whnf
    refine Nm.mk ⟨t123,et123,?_⟩
    rcases t123 with _ | _
    · have hj2:=bif_f hj1
      clear hj1
      exact BackS.by ⟨_,_,_,_,_,_,_,_,_,_,hj2,rfl⟩ (Sees.of (Weak.objs (keep:=[0,1,2]) (frz:=[]) (m:=0) rfl (by decide) rfl rfl ⟨⟨_,rfl,WO.boxs ⟨.s,.s,trivial⟩⟩,⟨⟨_,rfl,WO.boxs ⟨.s,.s,.s,.s,trivial⟩⟩,⟨⟨_,rfl,WO.boxs ⟨.s,.s,.s,.s,trivial⟩⟩,⟨rfl,fun _ h=>by cases h⟩⟩⟩⟩ ⟨.s,(.ptr _ _ 0 rfl),(.ptr _ _ 1 rfl),(.ptr _ _ 2 rfl),trivial⟩))
    have hj2:=bif_t hj1
    clear hj1
    conv=>whnf
    refine Nm.mk ⟨[.lit (.int .i64 y7_0),.lit (.int .i64 y7_1),.lit (.int .u64 y7_2),.lit (.int .i64 y7_3)],rfl,?_⟩
    conv=>whnf
    refine Nm.mk ⟨[.lit (.int .i64 x6_0),.lit (.int .i64 x6_1),.lit (.int .u64 x6_2),.lit (.int .i64 x6_3)],rfl,?_⟩
    exact BackS.by ⟨_,_,_,_,_,_,_,_,_,_,hj2,rfl⟩ (Sees.of (Weak.objs (keep:=[0,1,2]) (frz:=[]) (m:=0) rfl (by decide) rfl rfl ⟨⟨_,rfl,WO.boxs ⟨.s,.s,trivial⟩⟩,⟨⟨_,rfl,WO.boxs ⟨.s,.s,.s,.s,trivial⟩⟩,⟨⟨_,rfl,WO.boxs ⟨.s,.s,.s,.s,trivial⟩⟩,⟨rfl,fun _ h=>by cases h⟩⟩⟩⟩ ⟨.s,(.ptr _ _ 0 rfl),(.ptr _ _ 1 rfl),(.ptr _ _ 2 rfl),trivial⟩))
  clear hj0
  rintro s ⟨s4_0_1,s4_1_1,x6_0_1,x6_1_1,x6_2_1,x6_3_1,y7_0_1,y7_1_1,y7_2_1,y7_3_1,hj0,rfl⟩
  unfold Flt.shape.add.j1 at hj0
  obtain ⟨⟨t130_0,t130_1⟩,et130,hj1⟩:=bind_elim hj0; clear hj0
  conv=>whnf
  refine Gate.go ?_
  conv=>whnf
  refine CallN.by (v:=.tup [.lit (.int .i64 t130_0),.lit (.int .i64 t130_1)]) (Flt.shape.sum_ok et130) rfl rfl ?_
  have ehj1_0:=Option.some.inj hj1
  subst ehj1_0
  conv=>whnf
  exact Returns.pure (r:=.tup [.lit (.int .i64 t130_0),.lit (.int .i64 t130_1)]) rfl rfl rfl rfl ⟨rfl,rfl⟩
noncomputable def Flt.Sub (kind0:Int) (mode1:Int) (a2:Int) (b3:Int):Option (Int × Int × Int) :=
  Option.bind (Flt.two kind0 mode1 a2 b3) fun (t20_0,t20_1,t20_2,t20_3) =>
  letk (!t20_3) fun t26 =>
  bif t26 then
    some (0,0,2)
  else
    letk (IntKind.i64.wrap ((1:Int) - t20_2.sign)) fun t29 =>
    Option.bind (Flt.shape.add (⟨t20_0.p,t20_0.w⟩:float.shape) mode1 (⟨t20_1.class_,t20_1.sign,t20_1.m,t20_1.e⟩:float.number) (⟨t20_2.class_,t29,t20_2.m,t20_2.e⟩:float.number)) fun (t36_0,t36_1) =>
    some (t36_0,t36_1,0)
theorem Flt.Sub_ok {kind0:Int} {mode1:Int} {a2:Int} {b3:Int} {r:Int × Int × Int} (h0:Flt.Sub kind0 mode1 a2 b3 = some r):Gives Tryz.prog 110 [.lit (.int .i64 kind0),.lit (.int .i64 mode1),.lit (.int .i64 a2),.lit (.int .i64 b3)] (.tup [.lit (.int .i64 r.1),.lit (.int .i64 r.2.1),.lit (.int .i64 r.2.2)]):=by
  unfold Flt.Sub at h0
  refine ACalls.of_swp Tryz.func110 rfl (by decide) rfl (st0:=⟨41,[(0,.lit (.int .i64 kind0)),(1,.lit (.int .i64 mode1)),(2,.lit (.int .i64 a2)),(3,.lit (.int .i64 b3))],[]⟩) rfl (bwp_ok (C:=[]) ?_)
  obtain ⟨⟨t20_0,t20_1,t20_2,t20_3⟩,et20,h1⟩:=bind_elim h0; clear h0
  conv=>whnf
  refine Gate.go ?_
  conv=>whnf
  refine CallN.by (v:=.tup [float.shape.enc t20_0,float.number.enc t20_1,float.number.enc t20_2,.lit (.bool t20_3)]) (Flt.two_ok et20) rfl rfl ?_
  conv=>whnf
  refine Nm.mk ⟨[.lit (.int .i64 0),.lit (.int .i64 0)],rfl,?_⟩
  conv=>whnf
  refine Nm.mk ⟨[.lit (.int .i64 0),.lit (.int .i64 0),.lit (.int .u64 0),.lit (.int .i64 0)],rfl,?_⟩
  conv=>whnf
  refine Nm.mk ⟨[.lit (.int .i64 0),.lit (.int .i64 0),.lit (.int .u64 0),.lit (.int .i64 0)],rfl,?_⟩
  conv=>whnf
  refine Nm.mk ⟨[.lit (.int .i64 t20_0.p),.lit (.int .i64 t20_0.w)],rfl,?_⟩
  conv=>whnf
  refine Nm.mk ⟨[.lit (.int .i64 t20_1.class_),.lit (.int .i64 t20_1.sign),.lit (.int .u64 t20_1.m),.lit (.int .i64 t20_1.e)],rfl,?_⟩
  conv=>whnf
  refine Nm.mk ⟨[.lit (.int .i64 t20_2.class_),.lit (.int .i64 t20_2.sign),.lit (.int .u64 t20_2.m),.lit (.int .i64 t20_2.e)],rfl,?_⟩
  obtain ⟨t26,et26,h2⟩:=letk_elim h1; clear h1
  conv=>whnf
  refine Nm.mk ⟨t26,et26,?_⟩
  rcases t26 with _ | _
  · have h3:=bif_f h2
    clear h2
    obtain ⟨t29,et29,h4⟩:=letk_elim h3; clear h3
    conv=>whnf
    refine Nm.mk ⟨t29,et29,?_⟩
    conv=>whnf
    refine Nm.mk ⟨[.lit (.int .i64 t20_2.class_),.lit (.int .i64 t29),.lit (.int .u64 t20_2.m),.lit (.int .i64 t20_2.e)],rfl,?_⟩
    obtain ⟨⟨t36_0,t36_1⟩,et36,h5⟩:=bind_elim h4; clear h4
    conv=>whnf
    refine Gate.go ?_
    conv=>whnf
    refine CallN.by (v:=.tup [.lit (.int .i64 t36_0),.lit (.int .i64 t36_1)]) (Flt.shape.add_ok et36) rfl rfl ?_
    have eh5_0:=Option.some.inj h5
    subst eh5_0
    conv=>whnf
    exact Returns.pure (r:=.tup [.lit (.int .i64 t36_0),.lit (.int .i64 t36_1),.lit (.int .i64 0)]) rfl rfl rfl rfl ⟨rfl,rfl⟩
  have h3:=bif_t h2
  clear h2
  have eh3_0:=Option.some.inj h3
  subst eh3_0
  conv=>whnf
  exact Returns.pure (r:=.tup [.lit (.int .i64 0),.lit (.int .i64 0),.lit (.int .i64 2)]) rfl rfl rfl rfl ⟨rfl,rfl⟩
noncomputable def Dec.word (kind0:Int) (p1:decimal.parsed):Option Int :=
  Option.bind (Flt.Make kind0 0 p1.sign 1 2000) fun (t12_0,t12_1,t12_2) =>
  letk (p1.word.toList == (⟨#[110,97,110]⟩:ByteArray).toList) fun t18 =>
  bif t18 then
    Option.bind (Flt.Sub kind0 0 t12_0 t12_0) fun (t23_0,t23_1,t23_2) =>
    some t23_0
  else
    some t12_0
theorem Dec.word_ok {kind0:Int} {p1:decimal.parsed} {r:Int} (h0:Dec.word kind0 p1 = some r):Gives Tryz.prog 54 [.lit (.int .i64 kind0),decimal.parsed.enc p1] (.lit (.int .i64 r)):=by
  unfold Dec.word at h0
  refine ACalls.of_swp Tryz.func54 rfl (by decide) rfl (st0:=⟨28,[(0,.lit (.int .i64 kind0)),(1,decimal.parsed.enc p1)],[]⟩) rfl (bwp_ok (C:=[]) ?_)
  conv=>whnf
  refine Nm.mk ⟨[.lit (.int .i64 p1.sign),.lit (.string p1.word),.lit (.string p1.digits),.lit (.int .i64 p1.x)],rfl,?_⟩
  obtain ⟨⟨t12_0,t12_1,t12_2⟩,et12,h1⟩:=bind_elim h0; clear h0
  conv=>whnf
  refine Gate.go ?_
  conv=>whnf
  refine CallN.by (v:=.tup [.lit (.int .i64 t12_0),.lit (.int .i64 t12_1),.lit (.int .i64 t12_2)]) (Flt.Make_ok et12) rfl rfl ?_
  obtain ⟨t18,et18,h2⟩:=letk_elim h1; clear h1
  conv=>whnf
  refine Nm.mk ⟨t18,et18,?_⟩
  rcases t18 with _ | _
  · have h3:=bif_f h2
    clear h2
    have eh3_0:=Option.some.inj h3
    subst eh3_0
    conv=>whnf
    exact Returns.pure (r:=.lit (.int .i64 t12_0)) rfl rfl rfl rfl ⟨rfl,rfl⟩
  have h3:=bif_t h2
  clear h2
  obtain ⟨⟨t23_0,t23_1,t23_2⟩,et23,h4⟩:=bind_elim h3; clear h3
  conv=>whnf
  refine Gate.go ?_
  conv=>whnf
  refine CallN.by (v:=.tup [.lit (.int .i64 t23_0),.lit (.int .i64 t23_1),.lit (.int .i64 t23_2)]) (Flt.Sub_ok et23) rfl rfl ?_
  have eh4_0:=Option.some.inj h4
  subst eh4_0
  conv=>whnf
  exact Returns.pure (r:=.lit (.int .i64 t23_0)) rfl rfl rfl rfl ⟨rfl,rfl⟩
noncomputable def Dec.big.trim.j0 (b0_1:List Int):Option (((List Int)) ⊕ ((List Int))) :=
  letk ((b0_1.length:Int)) fun t17 =>
  letk (IntKind.i64.wrap (t17 - (1:Int))) fun t18 =>
  chk (0 ≤ t18 ∧ t18 ≤ (b0_1.length:Int)) <|
  letk ((b0_1.drop 0).take (t18.toNat - 0)) fun t19 =>
  some (.inl t19)
noncomputable def Dec.big.trim.s0 (b0_1:List Int):Option (((List Int)) ⊕ ((List Int))) :=
  letk ((b0_1.length:Int)) fun t4 =>
  letk (decide (t4 > (0:Int))) fun t5 =>
  bif t5 then
    letk ((b0_1.length:Int)) fun t9 =>
    letk (IntKind.i64.wrap (t9 - (1:Int))) fun t10 =>
    chk (0 ≤ t10) <|
    Option.bind (b0_1[t10.toNat]?) fun t11 =>
    letk (t11 == (0:Int)) fun t13 =>
    bif t13 then
      Dec.big.trim.j0 b0_1
    else
      some (.inr b0_1)
  else
    some (.inr b0_1)
noncomputable def Dec.big.trim.l0 (b0_1:List Int):Option ((List Int)):=loopO (fun v:(List Int)=>Dec.big.trim.s0 v) b0_1
theorem Dec.big.trim.l0_eq (b0_1:List Int):Dec.big.trim.l0 b0_1 = (Dec.big.trim.s0 b0_1).bind (Sum.elim (fun v=>Dec.big.trim.l0 v) some):=loopO_eq _ _
noncomputable def Dec.big.trim (b0:List Int):Option ((List Int)) :=
  Dec.big.trim.l0 b0
theorem Dec.big.trim_ok {b0:List Int} {r:(List Int)} (h0:Dec.big.trim b0 = some r):Gives Tryz.prog 119 [.vs 1 (b0.map (eI .i64))] (.vs 1 (r.map (eI .i64))):=by
  unfold Dec.big.trim at h0
  refine ACalls.of_swp Tryz.func119 rfl (by decide) rfl (st0:=⟨21,[(0,.vs 1 (b0.map (eI .i64)))],[]⟩) rfl (bwp_ok (C:=[(1,1)]) ?_)
  conv=>whnf
  unfold Dec.big.trim.l0 at h0
  refine LoopB.of (σ:=(List Int)) (ρ:=(List Int)) (fun v:(List Int)=>Dec.big.trim.s0 v) (fun v=>(⟨21,[(0,.vs 1 (v.map (eI .i64)))],[]⟩:St)) b0 h0 (BackS.by rfl (Sees.e ⟨.s,trivial⟩)) ?_
  clear h0
  rintro K1 b0_1 x1 hs0_0 hl1 hr1
  replace hs0_0:Dec.big.trim.s0 b0_1 = some x1:=hs0_0
  unfold Dec.big.trim.s0 at hs0_0
  change bwp _ _ _ _ _ (⟨21,[(0,.vs 1 (b0_1.map (eI .i64)))],[]⟩:St)
  conv=>whnf
  refine CutN.of (fun s=>Dec.big.trim.j0 b0_1 = some x1 ∧ s = (⟨21,[(0,.vs 1 (b0_1.map (eI .i64)))],[]⟩:St)) ?_ ?_
  · obtain ⟨t4,et4,hs0_1⟩:=letk_elim hs0_0; clear hs0_0
    conv=>whnf
    refine Nm.mk ⟨t4,by rw [et4,List.length_map],?_⟩
    obtain ⟨t5,et5,hs0_2⟩:=letk_elim hs0_1; clear hs0_1
    conv=>whnf
    refine Nm.mk ⟨t5,et5,?_⟩
    rcases t5 with _ | _
    · have hs0_3:=bif_f hs0_2
      clear hs0_2
      have ehs0_3u_0:=hr1 _ (Option.some.inj hs0_3).symm
      have hs0_3u:=congrArg some ehs0_3u_0
      have ehs0_3u_0:=Option.some.inj hs0_3u
      subst ehs0_3u_0
      conv=>whnf
      exact Returns.pure (r:=.vs 1 (b0_1.map (eI .i64))) rfl rfl rfl rfl ⟨rfl,rfl⟩
    have hs0_3:=bif_t hs0_2
    clear hs0_2
    obtain ⟨t9,et9,hs0_4⟩:=letk_elim hs0_3; clear hs0_3
    conv=>whnf
    refine Nm.mk ⟨t9,by rw [et9,List.length_map],?_⟩
    obtain ⟨t10,et10,hs0_5⟩:=letk_elim hs0_4; clear hs0_4
    conv=>whnf
    refine Nm.mk ⟨t10,et10,?_⟩
    obtain ⟨chs0_6,hs0_6⟩:=chk_elim hs0_5; clear hs0_5
    obtain ⟨t11,et11,hs0_7⟩:=bind_elim hs0_6; clear hs0_6
    conv=>whnf
    refine Side.mk chs0_6 ?_
    conv=>whnf
    refine At.by et11 ?_
    obtain ⟨t13,et13,hs0_8⟩:=letk_elim hs0_7; clear hs0_7
    conv=>whnf
    refine Nm.mk ⟨t13,et13,?_⟩
    rcases t13 with _ | _
    · have hs0_9:=bif_f hs0_8
      clear hs0_8
      have ehs0_9u_0:=hr1 _ (Option.some.inj hs0_9).symm
      have hs0_9u:=congrArg some ehs0_9u_0
      have ehs0_9u_0:=Option.some.inj hs0_9u
      subst ehs0_9u_0
      conv=>whnf
      exact Returns.pure (r:=.vs 1 (b0_1.map (eI .i64))) rfl rfl rfl rfl ⟨rfl,rfl⟩
    have hs0_9:=bif_t hs0_8
    clear hs0_8
    exact BackS.by ⟨hs0_9,rfl⟩ (Sees.e ⟨.s,trivial⟩)
  clear hs0_0
  rintro s ⟨hj0,rfl⟩
  unfold Dec.big.trim.j0 at hj0
  obtain ⟨t17,et17,hj1⟩:=letk_elim hj0; clear hj0
  conv=>whnf
  refine Nm.mk ⟨t17,by rw [et17,List.length_map],?_⟩
  obtain ⟨t18,et18,hj2⟩:=letk_elim hj1; clear hj1
  conv=>whnf
  refine Nm.mk ⟨t18,et18,?_⟩
  obtain ⟨chj3,hj3⟩:=chk_elim hj2; clear hj2
  obtain ⟨t19,et19,hj4⟩:=letk_elim hj3; clear hj3
  conv=>whnf
  refine Side.mk (by simpa only [List.length_map] using chj3) ?_
  conv=>whnf
  refine Nm.mk ⟨t19.map (eI .i64),by rw [et19]; simp only [List.map_take,List.map_drop,List.length_map],?_⟩
  exact BackS.by ⟨_,hl1 _ (Option.some.inj hj4).symm,rfl⟩ (Sees.e ⟨.s,trivial⟩)
noncomputable def Dec.whole.s0 (digits0:ByteArray) (out3:List Int) (end4:Int):Option (((List Int) × Int) ⊕ ((List Int))) :=
  letk (decide (end4 > (0:Int))) fun t10 =>
  bif t10 then
    letk (IntKind.i64.wrap (end4 - (9:Int))) fun t16 =>
    letk (if t16 > 0 then t16 else 0) fun t17 =>
    chk (0 ≤ t17 ∧ t17 ≤ end4 ∧ end4 ≤ (digits0.size:Int)) <|
    letk (digits0.extract t17.toNat end4.toNat) fun t19 =>
    Option.bind (Strconv.Atoi t19) fun (t20_0,t20_1) =>
    chk ((out3.length + ([t20_0]).length) * 8 ≤ 140737488355328) <|
    letk (out3 ++ ([t20_0])) fun t26 =>
    letk (IntKind.i64.wrap (end4 - (9:Int))) fun t12 =>
    some (.inl (t26,t12))
  else
    ((
    Option.bind (Dec.big.trim out3) fun t28 =>
    some t28)).map .inr
noncomputable def Dec.whole.l0 (digits0:ByteArray) (out3:List Int) (end4:Int):Option ((List Int)):=loopO (fun v:(List Int) × Int=>Dec.whole.s0 digits0 v.1 v.2) (out3,end4)
noncomputable def Dec.whole (digits0:ByteArray):Option ((List Int)) :=
  letk ((digits0.size:Int)) fun t8 =>
  Dec.whole.l0 digits0 ([]) t8
theorem Dec.whole_ok {digits0:ByteArray} {r:(List Int)} (h0:Dec.whole digits0 = some r):Gives Tryz.prog 72 [.lit (.string digits0)] (.vs 1 (r.map (eI .i64))):=by
  unfold Dec.whole at h0
  refine ACalls.of_swp Tryz.func72 rfl (by decide) rfl (st0:=⟨29,[(0,.lit (.string digits0))],[]⟩) rfl (bwp_ok (C:=[]) ?_)
  obtain ⟨t8,et8,h1⟩:=letk_elim h0; clear h0
  conv=>whnf
  refine Nm.mk ⟨t8,et8,?_⟩
  conv=>whnf
  unfold Dec.whole.l0 at h1
  refine LoopB.of (σ:=(List Int) × Int) (ρ:=(List Int)) (fun v:(List Int) × Int=>Dec.whole.s0 digits0 v.1 v.2) (fun v=>(⟨29,[(0,.lit (.string digits0)),(3,.ref 0 0 ((v.1.map (eI .i64)).length)),(4,.lit (.int .i64 v.2))],[.arr 1 (v.1.map (eI .i64))]⟩:St)) ([],t8) h1 (BackS.by rfl (Sees.of (Weak.objs (keep:=[]) (frz:=[]) (m:=1) rfl (by decide) rfl rfl ⟨rfl,fun ob ho=>by simp only [List.mem_cons,List.not_mem_nil,or_false] at ho; exact ⟨_,ho⟩⟩ ⟨.s,(.nilsRef 0 (by decide) (by decide)),.s,trivial⟩))) ?_
  clear h1
  rintro K1 ⟨out3,end4⟩ x1 hs0_0 hl1 hr1
  replace hs0_0:Dec.whole.s0 digits0 out3 end4 = some x1:=hs0_0
  unfold Dec.whole.s0 at hs0_0
  change bwp _ _ _ _ _ (⟨29,[(0,.lit (.string digits0)),(3,.ref 0 0 ((out3.map (eI .i64)).length)),(4,.lit (.int .i64 end4))],[.arr 1 (out3.map (eI .i64))]⟩:St)
  obtain ⟨t10,et10,hs0_1⟩:=letk_elim hs0_0; clear hs0_0
  conv=>whnf
  refine Nm.mk ⟨t10,et10,?_⟩
  rcases t10 with _ | _
  · have hs0_2:=bif_f hs0_1
    clear hs0_1
    obtain ⟨yhs0_2_0,hs0_2u,ehs0_2_0⟩:=map_elim hs0_2
    have ehs0_2_0:=(hr1 _ ehs0_2_0.symm).symm
    subst ehs0_2_0
    obtain ⟨t28,et28,hs0_2u0⟩:=bind_elim hs0_2u; clear hs0_2u
    conv=>whnf
    refine Gate.weak (Sees.of (Weak.objs (k:=29) (keep:=[]) (frz:=[0]) (m:=0) (ts:=[(27,.vs 1 (out3.map (eI .i64)))]) (hs:=[]) rfl (by decide) rfl rfl ⟨rfl,fun _ h=>by cases h⟩ ⟨(WV.all (k:=0) (by decide) rfl),trivial⟩)) ?_
    conv=>whnf
    refine CallN.by (v:=.vs 1 (t28.map (eI .i64))) (Dec.big.trim_ok et28) rfl rfl ?_
    have ehs0_2u0_0:=Option.some.inj hs0_2u0
    subst ehs0_2u0_0
    conv=>whnf
    exact Returns.pure (r:=.vs 1 (t28.map (eI .i64))) rfl rfl rfl rfl ⟨rfl,rfl⟩
  have hs0_2:=bif_t hs0_1
  clear hs0_1
  obtain ⟨t16,et16,hs0_3⟩:=letk_elim hs0_2; clear hs0_2
  conv=>whnf
  refine Nm.mk ⟨t16,et16,?_⟩
  obtain ⟨t17,et17,hs0_4⟩:=letk_elim hs0_3; clear hs0_3
  conv=>whnf
  refine Nm.mk ⟨t17,et17,?_⟩
  obtain ⟨chs0_5,hs0_5⟩:=chk_elim hs0_4; clear hs0_4
  obtain ⟨t19,et19,hs0_6⟩:=letk_elim hs0_5; clear hs0_5
  conv=>whnf
  refine Side.mk chs0_5 ?_
  conv=>whnf
  refine Nm.mk ⟨t19,et19,?_⟩
  obtain ⟨⟨t20_0,t20_1⟩,et20,hs0_7⟩:=bind_elim hs0_6; clear hs0_6
  conv=>whnf
  refine Gate.go ?_
  conv=>whnf
  refine CallN.by (v:=.tup [.lit (.int .i64 t20_0),.lit Value.nilIface]) (Strconv.Atoi_ok et20) rfl rfl ?_
  conv=>whnf
  refine Gate.go ?_
  conv=>whnf
  refine Nm.mk ⟨([t20_0]).map (eI .i64),rfl,?_⟩
  obtain ⟨chs0_8,hs0_8⟩:=chk_elim hs0_7; clear hs0_7
  obtain ⟨t26,et26,hs0_9⟩:=letk_elim hs0_8; clear hs0_8
  conv=>whnf
  refine Gate.go ?_
  conv=>whnf
  refine Side.mk (full_le _) ?_
  conv=>whnf
  refine Side.mk ⟨full_le _,one_map (fun _ _ hc=>by simp only [AV.cells,List.mem_singleton] at hc; subst hc; rfl)⟩ ?_
  conv=>whnf
  refine Side.mk (side_rr (by decide) chs0_8) ?_
  conv=>whnf
  refine Nm.mk ⟨t26.map (eI .i64),by rw [et26]; exact app_rr (m:=[t20_0]),?_⟩
  obtain ⟨t12,et12,hs0_10⟩:=letk_elim hs0_9; clear hs0_9
  conv=>whnf
  refine Nm.mk ⟨t12,et12,?_⟩
  exact BackS.by ⟨_,hl1 _ (Option.some.inj hs0_10).symm,rfl⟩ (Sees.of (Weak.objs (keep:=[2]) (frz:=[]) (m:=0) rfl (by decide) rfl rfl ⟨⟨_,rfl,.arr _ _⟩,⟨rfl,fun _ h=>by cases h⟩⟩ ⟨.s,(.ref _ _ _ 0 rfl),.s,trivial⟩))
noncomputable def Dec.big.times.s1 (out5_1:List Int) (carry6_1:Int):Option (((List Int) × Int) ⊕ ((List Int))) :=
  letk (decide (carry6_1 > (0:Int))) fun t29 =>
  bif t29 then
    chk ((1000000000:Int) ≠ 0) <|
    letk (carry6_1.tmod (1000000000:Int)) fun t32 =>
    chk ((out5_1.length + ([t32]).length) * 8 ≤ 140737488355328) <|
    letk (out5_1 ++ ([t32])) fun t34 =>
    chk ((1000000000:Int) ≠ 0) <|
    letk (IntKind.i64.wrap (carry6_1.tdiv (1000000000:Int))) fun t36 =>
    some (.inl (t34,t36))
  else
    ((
    Option.bind (Dec.big.trim out5_1) fun t38 =>
    some t38)).map .inr
noncomputable def Dec.big.times.l1 (out5_1:List Int) (carry6_1:Int):Option ((List Int)):=loopO (fun v:(List Int) × Int=>Dec.big.times.s1 v.1 v.2) (out5_1,carry6_1)
noncomputable def Dec.big.times.s0 (b0:List Int) (n1:Int) (t10:Int) (out5:List Int) (carry6:Int) (t11:Int):Option (((List Int) × Int × Int) ⊕ ((List Int))) :=
  letk (decide (t11 < t10)) fun t12 =>
  bif t12 then
    chk (0 ≤ t11) <|
    Option.bind (b0[t11.toNat]?) fun t13 =>
    letk (IntKind.i64.wrap (t13 * n1)) fun t17 =>
    letk (IntKind.i64.wrap (t17 + carry6)) fun t19 =>
    chk ((1000000000:Int) ≠ 0) <|
    letk (t19.tmod (1000000000:Int)) fun t22 =>
    chk ((out5.length + ([t22]).length) * 8 ≤ 140737488355328) <|
    letk (out5 ++ ([t22])) fun t24 =>
    chk ((1000000000:Int) ≠ 0) <|
    letk (IntKind.i64.wrap (t19.tdiv (1000000000:Int))) fun t26 =>
    letk (IntKind.i64.wrap (t11 + (1:Int))) fun t27 =>
    some (.inl (t24,t26,t27))
  else
    (Dec.big.times.l1 out5 carry6).map .inr
noncomputable def Dec.big.times.l0 (b0:List Int) (n1:Int) (t10:Int) (out5:List Int) (carry6:Int) (t11:Int):Option ((List Int)):=loopO (fun v:(List Int) × Int × Int=>Dec.big.times.s0 b0 n1 t10 v.1 v.2.1 v.2.2) (out5,carry6,t11)
noncomputable def Dec.big.times (b0:List Int) (n1:Int):Option ((List Int)) :=
  letk ((b0.length:Int)) fun t10 =>
  Dec.big.times.l0 b0 n1 t10 ([]) 0 0
theorem Dec.big.times_ok {b0:List Int} {n1:Int} {r:(List Int)} (h0:Dec.big.times b0 n1 = some r):Gives Tryz.prog 120 [.vs 1 (b0.map (eI .i64)),.lit (.int .i64 n1)] (.vs 1 (r.map (eI .i64))):=by
  unfold Dec.big.times at h0
  refine ACalls.of_swp Tryz.func120 rfl (by decide) rfl (st0:=⟨39,[(0,.vs 1 (b0.map (eI .i64))),(1,.lit (.int .i64 n1))],[]⟩) rfl (bwp_ok (C:=[]) ?_)
  obtain ⟨t10,et10,h1⟩:=letk_elim h0; clear h0
  conv=>whnf
  refine Nm.mk ⟨t10,by rw [et10,List.length_map],?_⟩
  conv=>whnf
  unfold Dec.big.times.l0 at h1
  refine LoopB.of (σ:=(List Int) × Int × Int) (ρ:=(List Int)) (fun v:(List Int) × Int × Int=>Dec.big.times.s0 b0 n1 t10 v.1 v.2.1 v.2.2) (fun v=>(⟨39,[(1,.lit (.int .i64 n1)),(5,.ref 0 0 ((v.1.map (eI .i64)).length)),(6,.lit (.int .i64 v.2.1)),(9,.vs 1 (b0.map (eI .i64))),(10,.lit (.int .i64 t10)),(11,.lit (.int .i64 v.2.2))],[.arr 1 (v.1.map (eI .i64))]⟩:St)) ([],0,0) h1 (BackS.by rfl (Sees.of (Weak.objs (keep:=[]) (frz:=[]) (m:=1) rfl (by decide) rfl rfl ⟨rfl,fun ob ho=>by simp only [List.mem_cons,List.not_mem_nil,or_false] at ho; exact ⟨_,ho⟩⟩ ⟨.s,(.nilsRef 0 (by decide) (by decide)),.s,.s,.s,.s,trivial⟩))) ?_
  clear h1
  rintro K1 ⟨out5,carry6,t11⟩ x1 hs0_0 hl1 hr1
  replace hs0_0:Dec.big.times.s0 b0 n1 t10 out5 carry6 t11 = some x1:=hs0_0
  unfold Dec.big.times.s0 at hs0_0
  change bwp _ _ _ _ _ (⟨39,[(1,.lit (.int .i64 n1)),(5,.ref 0 0 ((out5.map (eI .i64)).length)),(6,.lit (.int .i64 carry6)),(9,.vs 1 (b0.map (eI .i64))),(10,.lit (.int .i64 t10)),(11,.lit (.int .i64 t11))],[.arr 1 (out5.map (eI .i64))]⟩:St)
  obtain ⟨t12,et12,hs0_1⟩:=letk_elim hs0_0; clear hs0_0
  conv=>whnf
  refine Nm.mk ⟨t12,et12,?_⟩
  rcases t12 with _ | _
  · have hs0_2:=bif_f hs0_1
    clear hs0_1
    obtain ⟨yhs0_2_0,hs0_2u,ehs0_2_0⟩:=map_elim hs0_2
    have ehs0_2_0:=(hr1 _ ehs0_2_0.symm).symm
    subst ehs0_2_0
    conv=>whnf
    unfold Dec.big.times.l1 at hs0_2u
    refine LoopB.of (σ:=(List Int) × Int) (ρ:=(List Int)) (fun v:(List Int) × Int=>Dec.big.times.s1 v.1 v.2) (fun v=>(⟨39,[(5,.ref 0 0 ((v.1.map (eI .i64)).length)),(6,.lit (.int .i64 v.2))],[.arr 1 (v.1.map (eI .i64))]⟩:St)) (out5,carry6) hs0_2u (BackS.by rfl (Sees.of (Weak.objs (keep:=[0]) (frz:=[]) (m:=0) rfl (by decide) rfl rfl ⟨⟨_,rfl,.arr _ _⟩,⟨rfl,fun _ h=>by cases h⟩⟩ ⟨(.ref _ _ _ 0 rfl),.s,trivial⟩))) ?_
    clear hs0_2u
    rintro K1 ⟨out5_1,carry6_1⟩ x1 hs1_0 hl1 hr1
    replace hs1_0:Dec.big.times.s1 out5_1 carry6_1 = some x1:=hs1_0
    unfold Dec.big.times.s1 at hs1_0
    change bwp _ _ _ _ _ (⟨39,[(5,.ref 0 0 ((out5_1.map (eI .i64)).length)),(6,.lit (.int .i64 carry6_1))],[.arr 1 (out5_1.map (eI .i64))]⟩:St)
    obtain ⟨t29,et29,hs1_1⟩:=letk_elim hs1_0; clear hs1_0
    conv=>whnf
    refine Nm.mk ⟨t29,et29,?_⟩
    rcases t29 with _ | _
    · have hs1_2:=bif_f hs1_1
      clear hs1_1
      obtain ⟨yhs1_2_0,hs1_2u,ehs1_2_0⟩:=map_elim hs1_2
      have ehs1_2_0:=(hr1 _ ehs1_2_0.symm).symm
      subst ehs1_2_0
      obtain ⟨t38,et38,hs1_2u0⟩:=bind_elim hs1_2u; clear hs1_2u
      conv=>whnf
      refine Gate.weak (Sees.of (Weak.objs (k:=39) (keep:=[]) (frz:=[0]) (m:=0) (ts:=[(37,.vs 1 (out5_1.map (eI .i64)))]) (hs:=[]) rfl (by decide) rfl rfl ⟨rfl,fun _ h=>by cases h⟩ ⟨(WV.all (k:=0) (by decide) rfl),trivial⟩)) ?_
      conv=>whnf
      refine CallN.by (v:=.vs 1 (t38.map (eI .i64))) (Dec.big.trim_ok et38) rfl rfl ?_
      have ehs1_2u0_0:=Option.some.inj hs1_2u0
      subst ehs1_2u0_0
      conv=>whnf
      exact Returns.pure (r:=.vs 1 (t38.map (eI .i64))) rfl rfl rfl rfl ⟨rfl,rfl⟩
    have hs1_2:=bif_t hs1_1
    clear hs1_1
    obtain ⟨chs1_3,hs1_3⟩:=chk_elim hs1_2; clear hs1_2
    obtain ⟨t32,et32,hs1_4⟩:=letk_elim hs1_3; clear hs1_3
    conv=>whnf
    refine Side.mk chs1_3 ?_
    conv=>whnf
    refine Nm.mk ⟨t32,et32,?_⟩
    conv=>whnf
    refine Gate.go ?_
    conv=>whnf
    refine Nm.mk ⟨([t32]).map (eI .i64),rfl,?_⟩
    obtain ⟨chs1_5,hs1_5⟩:=chk_elim hs1_4; clear hs1_4
    obtain ⟨t34,et34,hs1_6⟩:=letk_elim hs1_5; clear hs1_5
    conv=>whnf
    refine Gate.go ?_
    conv=>whnf
    refine Side.mk (full_le _) ?_
    conv=>whnf
    refine Side.mk ⟨full_le _,one_map (fun _ _ hc=>by simp only [AV.cells,List.mem_singleton] at hc; subst hc; rfl)⟩ ?_
    conv=>whnf
    refine Side.mk (side_rr (by decide) chs1_5) ?_
    conv=>whnf
    refine Nm.mk ⟨t34.map (eI .i64),by rw [et34]; exact app_rr (m:=[t32]),?_⟩
    obtain ⟨chs1_7,hs1_7⟩:=chk_elim hs1_6; clear hs1_6
    obtain ⟨t36,et36,hs1_8⟩:=letk_elim hs1_7; clear hs1_7
    conv=>whnf
    refine Side.mk chs1_7 ?_
    conv=>whnf
    refine Nm.mk ⟨t36,et36,?_⟩
    exact BackS.by ⟨_,hl1 _ (Option.some.inj hs1_8).symm,rfl⟩ (Sees.of (Weak.objs (keep:=[2]) (frz:=[]) (m:=0) rfl (by decide) rfl rfl ⟨⟨_,rfl,.arr _ _⟩,⟨rfl,fun _ h=>by cases h⟩⟩ ⟨(.ref _ _ _ 0 rfl),.s,trivial⟩))
  have hs0_2:=bif_t hs0_1
  clear hs0_1
  obtain ⟨chs0_3,hs0_3⟩:=chk_elim hs0_2; clear hs0_2
  obtain ⟨t13,et13,hs0_4⟩:=bind_elim hs0_3; clear hs0_3
  conv=>whnf
  refine Side.mk chs0_3 ?_
  conv=>whnf
  refine At.by et13 ?_
  obtain ⟨t17,et17,hs0_5⟩:=letk_elim hs0_4; clear hs0_4
  conv=>whnf
  refine Nm.mk ⟨t17,et17,?_⟩
  obtain ⟨t19,et19,hs0_6⟩:=letk_elim hs0_5; clear hs0_5
  conv=>whnf
  refine Nm.mk ⟨t19,et19,?_⟩
  obtain ⟨chs0_7,hs0_7⟩:=chk_elim hs0_6; clear hs0_6
  obtain ⟨t22,et22,hs0_8⟩:=letk_elim hs0_7; clear hs0_7
  conv=>whnf
  refine Side.mk chs0_7 ?_
  conv=>whnf
  refine Nm.mk ⟨t22,et22,?_⟩
  conv=>whnf
  refine Gate.go ?_
  conv=>whnf
  refine Nm.mk ⟨([t22]).map (eI .i64),rfl,?_⟩
  obtain ⟨chs0_9,hs0_9⟩:=chk_elim hs0_8; clear hs0_8
  obtain ⟨t24,et24,hs0_10⟩:=letk_elim hs0_9; clear hs0_9
  conv=>whnf
  refine Gate.go ?_
  conv=>whnf
  refine Side.mk (full_le _) ?_
  conv=>whnf
  refine Side.mk ⟨full_le _,one_map (fun _ _ hc=>by simp only [AV.cells,List.mem_singleton] at hc; subst hc; rfl)⟩ ?_
  conv=>whnf
  refine Side.mk (side_rr (by decide) chs0_9) ?_
  conv=>whnf
  refine Nm.mk ⟨t24.map (eI .i64),by rw [et24]; exact app_rr (m:=[t22]),?_⟩
  obtain ⟨chs0_11,hs0_11⟩:=chk_elim hs0_10; clear hs0_10
  obtain ⟨t26,et26,hs0_12⟩:=letk_elim hs0_11; clear hs0_11
  conv=>whnf
  refine Side.mk chs0_11 ?_
  conv=>whnf
  refine Nm.mk ⟨t26,et26,?_⟩
  obtain ⟨t27,et27,hs0_13⟩:=letk_elim hs0_12; clear hs0_12
  conv=>whnf
  refine Nm.mk ⟨t27,et27,?_⟩
  exact BackS.by ⟨_,hl1 _ (Option.some.inj hs0_13).symm,rfl⟩ (Sees.of (Weak.objs (keep:=[2]) (frz:=[]) (m:=0) rfl (by decide) rfl rfl ⟨⟨_,rfl,.arr _ _⟩,⟨rfl,fun _ h=>by cases h⟩⟩ ⟨.s,(.ref _ _ _ 0 rfl),.s,.s,.s,.s,trivial⟩))
noncomputable def Dec.big.power.s2 (n1:Int) (b0_2:List Int) (k2_2:Int):Option (((List Int) × Int) ⊕ ((List Int))) :=
  letk (decide (k2_2 > (0:Int))) fun t22 =>
  bif t22 then
    Option.bind (Dec.big.times b0_2 n1) fun t27 =>
    letk (IntKind.i64.wrap (k2_2 - (1:Int))) fun t24 =>
    some (.inl (t27,t24))
  else
    some (.inr b0_2)
noncomputable def Dec.big.power.l2 (n1:Int) (b0_2:List Int) (k2_2:Int):Option ((List Int)):=loopO (fun v:(List Int) × Int=>Dec.big.power.s2 n1 v.1 v.2) (b0_2,k2_2)
noncomputable def Dec.big.power.s1 (n1:Int) (great7:Int) (b0_1:List Int) (k2_1:Int):Option (((List Int) × Int) ⊕ ((List Int))) :=
  letk (decide (k2_1 ≥ (8:Int))) fun t15 =>
  bif t15 then
    Option.bind (Dec.big.times b0_1 great7) fun t20 =>
    letk (IntKind.i64.wrap (k2_1 - (8:Int))) fun t17 =>
    some (.inl (t20,t17))
  else
    (Dec.big.power.l2 n1 b0_1 k2_1).map .inr
noncomputable def Dec.big.power.l1 (n1:Int) (great7:Int) (b0_1:List Int) (k2_1:Int):Option ((List Int)):=loopO (fun v:(List Int) × Int=>Dec.big.power.s1 n1 great7 v.1 v.2) (b0_1,k2_1)
noncomputable def Dec.big.power.s0 (b0:List Int) (n1:Int) (k2:Int) (great7:Int) (t8:Int):Option ((Int × Int) ⊕ ((List Int))) :=
  letk (decide (t8 < (8:Int))) fun t9 =>
  bif t9 then
    letk (IntKind.i64.wrap (great7 * n1)) fun t12 =>
    letk (IntKind.i64.wrap (t8 + (1:Int))) fun t13 =>
    some (.inl (t12,t13))
  else
    (Dec.big.power.l1 n1 great7 b0 k2).map .inr
noncomputable def Dec.big.power.l0 (b0:List Int) (n1:Int) (k2:Int) (great7:Int) (t8:Int):Option ((List Int)):=loopO (fun v:Int × Int=>Dec.big.power.s0 b0 n1 k2 v.1 v.2) (great7,t8)
noncomputable def Dec.big.power (b0:List Int) (n1:Int) (k2:Int):Option ((List Int)) :=
  Dec.big.power.l0 b0 n1 k2 1 0
theorem Dec.big.power_ok {b0:List Int} {n1:Int} {k2:Int} {r:(List Int)} (h0:Dec.big.power b0 n1 k2 = some r):Gives Tryz.prog 73 [.vs 1 (b0.map (eI .i64)),.lit (.int .i64 n1),.lit (.int .i64 k2)] (.vs 1 (r.map (eI .i64))):=by
  unfold Dec.big.power at h0
  refine ACalls.of_swp Tryz.func73 rfl (by decide) rfl (st0:=⟨29,[(0,.vs 1 (b0.map (eI .i64))),(1,.lit (.int .i64 n1)),(2,.lit (.int .i64 k2))],[]⟩) rfl (bwp_ok (C:=[]) ?_)
  conv=>whnf
  unfold Dec.big.power.l0 at h0
  refine LoopB.of (σ:=Int × Int) (ρ:=(List Int)) (fun v:Int × Int=>Dec.big.power.s0 b0 n1 k2 v.1 v.2) (fun v=>(⟨29,[(0,.vs 1 (b0.map (eI .i64))),(1,.lit (.int .i64 n1)),(2,.lit (.int .i64 k2)),(7,.lit (.int .i64 v.1)),(8,.lit (.int .i64 v.2))],[]⟩:St)) (1,0) h0 (BackS.by rfl (Sees.e ⟨.s,.s,.s,.s,.s,trivial⟩)) ?_
  clear h0
  rintro K1 ⟨great7,t8⟩ x1 hs0_0 hl1 hr1
  replace hs0_0:Dec.big.power.s0 b0 n1 k2 great7 t8 = some x1:=hs0_0
  unfold Dec.big.power.s0 at hs0_0
  change bwp _ _ _ _ _ (⟨29,[(0,.vs 1 (b0.map (eI .i64))),(1,.lit (.int .i64 n1)),(2,.lit (.int .i64 k2)),(7,.lit (.int .i64 great7)),(8,.lit (.int .i64 t8))],[]⟩:St)
  obtain ⟨t9,et9,hs0_1⟩:=letk_elim hs0_0; clear hs0_0
  conv=>whnf
  refine Nm.mk ⟨t9,et9,?_⟩
  rcases t9 with _ | _
  · have hs0_2:=bif_f hs0_1
    clear hs0_1
    obtain ⟨yhs0_2_0,hs0_2u,ehs0_2_0⟩:=map_elim hs0_2
    have ehs0_2_0:=(hr1 _ ehs0_2_0.symm).symm
    subst ehs0_2_0
    conv=>whnf
    unfold Dec.big.power.l1 at hs0_2u
    refine LoopB.of (σ:=(List Int) × Int) (ρ:=(List Int)) (fun v:(List Int) × Int=>Dec.big.power.s1 n1 great7 v.1 v.2) (fun v=>(⟨29,[(0,.vs 1 (v.1.map (eI .i64))),(1,.lit (.int .i64 n1)),(2,.lit (.int .i64 v.2)),(7,.lit (.int .i64 great7))],[]⟩:St)) (b0,k2) hs0_2u (BackS.by rfl (Sees.e ⟨.s,.s,.s,.s,trivial⟩)) ?_
    clear hs0_2u
    rintro K1 ⟨b0_1,k2_1⟩ x1 hs1_0 hl1 hr1
    replace hs1_0:Dec.big.power.s1 n1 great7 b0_1 k2_1 = some x1:=hs1_0
    unfold Dec.big.power.s1 at hs1_0
    change bwp _ _ _ _ _ (⟨29,[(0,.vs 1 (b0_1.map (eI .i64))),(1,.lit (.int .i64 n1)),(2,.lit (.int .i64 k2_1)),(7,.lit (.int .i64 great7))],[]⟩:St)
    obtain ⟨t15,et15,hs1_1⟩:=letk_elim hs1_0; clear hs1_0
    conv=>whnf
    refine Nm.mk ⟨t15,et15,?_⟩
    rcases t15 with _ | _
    · have hs1_2:=bif_f hs1_1
      clear hs1_1
      obtain ⟨yhs1_2_0,hs1_2u,ehs1_2_0⟩:=map_elim hs1_2
      have ehs1_2_0:=(hr1 _ ehs1_2_0.symm).symm
      subst ehs1_2_0
      conv=>whnf
      unfold Dec.big.power.l2 at hs1_2u
      refine LoopB.of (σ:=(List Int) × Int) (ρ:=(List Int)) (fun v:(List Int) × Int=>Dec.big.power.s2 n1 v.1 v.2) (fun v=>(⟨29,[(0,.vs 1 (v.1.map (eI .i64))),(1,.lit (.int .i64 n1)),(2,.lit (.int .i64 v.2))],[]⟩:St)) (b0_1,k2_1) hs1_2u (BackS.by rfl (Sees.e ⟨.s,.s,.s,trivial⟩)) ?_
      clear hs1_2u
      rintro K1 ⟨b0_2,k2_2⟩ x1 hs2_0 hl1 hr1
      replace hs2_0:Dec.big.power.s2 n1 b0_2 k2_2 = some x1:=hs2_0
      unfold Dec.big.power.s2 at hs2_0
      change bwp _ _ _ _ _ (⟨29,[(0,.vs 1 (b0_2.map (eI .i64))),(1,.lit (.int .i64 n1)),(2,.lit (.int .i64 k2_2))],[]⟩:St)
      obtain ⟨t22,et22,hs2_1⟩:=letk_elim hs2_0; clear hs2_0
      conv=>whnf
      refine Nm.mk ⟨t22,et22,?_⟩
      rcases t22 with _ | _
      · have hs2_2:=bif_f hs2_1
        clear hs2_1
        have ehs2_2u_0:=hr1 _ (Option.some.inj hs2_2).symm
        have hs2_2u:=congrArg some ehs2_2u_0
        have ehs2_2u_0:=Option.some.inj hs2_2u
        subst ehs2_2u_0
        conv=>whnf
        exact Returns.pure (r:=.vs 1 (b0_2.map (eI .i64))) rfl rfl rfl rfl ⟨rfl,rfl⟩
      have hs2_2:=bif_t hs2_1
      clear hs2_1
      obtain ⟨t27,et27,hs2_3⟩:=bind_elim hs2_2; clear hs2_2
      conv=>whnf
      refine Gate.go ?_
      conv=>whnf
      refine CallN.by (v:=.vs 1 (t27.map (eI .i64))) (Dec.big.times_ok et27) rfl rfl ?_
      obtain ⟨t24,et24,hs2_4⟩:=letk_elim hs2_3; clear hs2_3
      conv=>whnf
      refine Nm.mk ⟨t24,et24,?_⟩
      exact BackS.by ⟨_,hl1 _ (Option.some.inj hs2_4).symm,rfl⟩ (Sees.e ⟨.s,.s,.s,trivial⟩)
    have hs1_2:=bif_t hs1_1
    clear hs1_1
    obtain ⟨t20,et20,hs1_3⟩:=bind_elim hs1_2; clear hs1_2
    conv=>whnf
    refine Gate.go ?_
    conv=>whnf
    refine CallN.by (v:=.vs 1 (t20.map (eI .i64))) (Dec.big.times_ok et20) rfl rfl ?_
    obtain ⟨t17,et17,hs1_4⟩:=letk_elim hs1_3; clear hs1_3
    conv=>whnf
    refine Nm.mk ⟨t17,et17,?_⟩
    exact BackS.by ⟨_,hl1 _ (Option.some.inj hs1_4).symm,rfl⟩ (Sees.e ⟨.s,.s,.s,.s,trivial⟩)
  have hs0_2:=bif_t hs0_1
  clear hs0_1
  obtain ⟨t12,et12,hs0_3⟩:=letk_elim hs0_2; clear hs0_2
  conv=>whnf
  refine Nm.mk ⟨t12,et12,?_⟩
  obtain ⟨t13,et13,hs0_4⟩:=letk_elim hs0_3; clear hs0_3
  conv=>whnf
  refine Nm.mk ⟨t13,et13,?_⟩
  exact BackS.by ⟨_,hl1 _ (Option.some.inj hs0_4).symm,rfl⟩ (Sees.e ⟨.s,.s,.s,.s,.s,trivial⟩)
noncomputable def Dec.big.compare.s0 (b0:List Int) (c1:List Int) (i5:Int):Option (Int ⊕ Int) :=
  letk (decide (i5 ≥ (0:Int))) fun t20 =>
  bif t20 then
    chk (0 ≤ i5) <|
    Option.bind (b0[i5.toNat]?) fun t25 =>
    chk (0 ≤ i5) <|
    Option.bind (c1[i5.toNat]?) fun t29 =>
    letk (t25 != t29) fun t31 =>
    bif t31 then
      chk (0 ≤ i5) <|
      Option.bind (b0[i5.toNat]?) fun t34 =>
      chk (0 ≤ i5) <|
      Option.bind (c1[i5.toNat]?) fun t38 =>
      letk (IntKind.i64.wrap (t34 - t38)) fun t40 =>
      some (.inr t40)
    else
      letk (IntKind.i64.wrap (i5 - (1:Int))) fun t22 =>
      some (.inl t22)
  else
    some (.inr 0)
noncomputable def Dec.big.compare.l0 (b0:List Int) (c1:List Int) (i5:Int):Option Int:=loopO (fun v:Int=>Dec.big.compare.s0 b0 c1 v) i5
noncomputable def Dec.big.compare (b0:List Int) (c1:List Int):Option Int :=
  letk ((b0.length:Int)) fun t7 =>
  letk ((c1.length:Int)) fun t9 =>
  letk (t7 != t9) fun t10 =>
  bif t10 then
    letk ((b0.length:Int)) fun t12 =>
    letk ((c1.length:Int)) fun t14 =>
    letk (IntKind.i64.wrap (t12 - t14)) fun t15 =>
    some t15
  else
    letk ((b0.length:Int)) fun t17 =>
    letk (IntKind.i64.wrap (t17 - (1:Int))) fun t18 =>
    Dec.big.compare.l0 b0 c1 t18
theorem Dec.big.compare_ok {b0:List Int} {c1:List Int} {r:Int} (h0:Dec.big.compare b0 c1 = some r):Gives Tryz.prog 127 [.vs 1 (b0.map (eI .i64)),.vs 1 (c1.map (eI .i64))] (.lit (.int .i64 r)):=by
  unfold Dec.big.compare at h0
  refine ACalls.of_swp Tryz.func127 rfl (by decide) rfl (st0:=⟨41,[(0,.vs 1 (b0.map (eI .i64))),(1,.vs 1 (c1.map (eI .i64)))],[]⟩) rfl (bwp_ok (C:=[]) ?_)
  obtain ⟨t7,et7,h1⟩:=letk_elim h0; clear h0
  conv=>whnf
  refine Nm.mk ⟨t7,by rw [et7,List.length_map],?_⟩
  obtain ⟨t9,et9,h2⟩:=letk_elim h1; clear h1
  conv=>whnf
  refine Nm.mk ⟨t9,by rw [et9,List.length_map],?_⟩
  obtain ⟨t10,et10,h3⟩:=letk_elim h2; clear h2
  conv=>whnf
  refine Nm.mk ⟨t10,et10,?_⟩
  rcases t10 with _ | _
  · have h4:=bif_f h3
    clear h3
    obtain ⟨t17,et17,h5⟩:=letk_elim h4; clear h4
    conv=>whnf
    refine Nm.mk ⟨t17,by rw [et17,List.length_map],?_⟩
    obtain ⟨t18,et18,h6⟩:=letk_elim h5; clear h5
    conv=>whnf
    refine Nm.mk ⟨t18,et18,?_⟩
    conv=>whnf
    unfold Dec.big.compare.l0 at h6
    refine LoopB.of (σ:=Int) (ρ:=Int) (fun v:Int=>Dec.big.compare.s0 b0 c1 v) (fun v=>(⟨41,[(0,.vs 1 (b0.map (eI .i64))),(1,.vs 1 (c1.map (eI .i64))),(5,.lit (.int .i64 v))],[]⟩:St)) t18 h6 (BackS.by rfl (Sees.e ⟨.s,.s,.s,trivial⟩)) ?_
    clear h6
    rintro K1 i5 x1 hs0_0 hl1 hr1
    replace hs0_0:Dec.big.compare.s0 b0 c1 i5 = some x1:=hs0_0
    unfold Dec.big.compare.s0 at hs0_0
    change bwp _ _ _ _ _ (⟨41,[(0,.vs 1 (b0.map (eI .i64))),(1,.vs 1 (c1.map (eI .i64))),(5,.lit (.int .i64 i5))],[]⟩:St)
    obtain ⟨t20,et20,hs0_1⟩:=letk_elim hs0_0; clear hs0_0
    conv=>whnf
    refine Nm.mk ⟨t20,et20,?_⟩
    rcases t20 with _ | _
    · have hs0_2:=bif_f hs0_1
      clear hs0_1
      have ehs0_2u_0:=hr1 _ (Option.some.inj hs0_2).symm
      have hs0_2u:=congrArg some ehs0_2u_0
      have ehs0_2u_0:=Option.some.inj hs0_2u
      subst ehs0_2u_0
      conv=>whnf
      exact Returns.pure (r:=.lit (.int .i64 0)) rfl rfl rfl rfl ⟨rfl,rfl⟩
    have hs0_2:=bif_t hs0_1
    clear hs0_1
    conv=>whnf
    refine DrawB.ofG [none,none,none,none,none,none,none,none,none] Tryz_mixed (by kernel_rfl) (by kernel_rfl) ?_
    conv=>whnf
    refine DNodeB.of (.vs 1 (b0.map (eI .i64))) ?_ ?_
    · conv=>whnf
      rfl
    conv=>whnf
    refine DNodeB.of (.lit (.int .i64 i5)) ?_ ?_
    · conv=>whnf
      rfl
    obtain ⟨chs0_3,hs0_3⟩:=chk_elim hs0_2; clear hs0_2
    obtain ⟨t25,et25,hs0_4⟩:=bind_elim hs0_3; clear hs0_3
    conv=>whnf
    refine DNodeB.of (.iptr (.lit (.int .i64 t25))) ?_ ?_
    · conv=>whnf
      refine Side.mk chs0_3 ?_
      conv=>whnf
      refine At.by et25 ?_
      conv=>whnf
      rfl
    conv=>whnf
    refine DNodeB.of (.lit (.int .i64 t25)) ?_ ?_
    · conv=>whnf
      rfl
    conv=>whnf
    refine DNodeB.of (.vs 1 (c1.map (eI .i64))) ?_ ?_
    · conv=>whnf
      rfl
    conv=>whnf
    refine DNodeB.of (.lit (.int .i64 i5)) ?_ ?_
    · conv=>whnf
      rfl
    obtain ⟨chs0_5,hs0_5⟩:=chk_elim hs0_4; clear hs0_4
    obtain ⟨t29,et29,hs0_6⟩:=bind_elim hs0_5; clear hs0_5
    conv=>whnf
    refine DNodeB.of (.iptr (.lit (.int .i64 t29))) ?_ ?_
    · conv=>whnf
      refine Side.mk chs0_5 ?_
      conv=>whnf
      refine At.by et29 ?_
      conv=>whnf
      rfl
    conv=>whnf
    refine DNodeB.of (.lit (.int .i64 t29)) ?_ ?_
    · conv=>whnf
      rfl
    obtain ⟨t31,et31,hs0_7⟩:=letk_elim hs0_6; clear hs0_6
    conv=>whnf
    refine DNodeB.of (.lit (.bool t31)) ?_ ?_
    · conv=>whnf
      refine Nm.mk ⟨t31,et31,?_⟩
      conv=>whnf
      rfl
    rcases t31 with _ | _
    · have hs0_8:=bif_f hs0_7
      clear hs0_7
      obtain ⟨t22,et22,hs0_9⟩:=letk_elim hs0_8; clear hs0_8
      conv=>whnf
      refine Nm.mk ⟨t22,et22,?_⟩
      exact BackS.by ⟨_,hl1 _ (Option.some.inj hs0_9).symm,rfl⟩ (Sees.e ⟨.s,.s,.s,trivial⟩)
    have hs0_8:=bif_t hs0_7
    clear hs0_7
    conv=>whnf
    refine DrawB.ofG [none,none,none,none,none,none,none,none,none,none] Tryz_mixed (by kernel_rfl) (by kernel_rfl) ?_
    conv=>whnf
    refine DNodeB.of (.vs 1 (b0.map (eI .i64))) ?_ ?_
    · conv=>whnf
      rfl
    conv=>whnf
    refine DNodeB.of (.lit (.int .i64 i5)) ?_ ?_
    · conv=>whnf
      rfl
    obtain ⟨chs0_9,hs0_9⟩:=chk_elim hs0_8; clear hs0_8
    obtain ⟨t34,et34,hs0_10⟩:=bind_elim hs0_9; clear hs0_9
    conv=>whnf
    refine DNodeB.of (.iptr (.lit (.int .i64 t34))) ?_ ?_
    · conv=>whnf
      refine Side.mk chs0_9 ?_
      conv=>whnf
      refine At.by et34 ?_
      conv=>whnf
      rfl
    conv=>whnf
    refine DNodeB.of (.lit (.int .i64 t34)) ?_ ?_
    · conv=>whnf
      rfl
    conv=>whnf
    refine DNodeB.of (.vs 1 (c1.map (eI .i64))) ?_ ?_
    · conv=>whnf
      rfl
    conv=>whnf
    refine DNodeB.of (.lit (.int .i64 i5)) ?_ ?_
    · conv=>whnf
      rfl
    obtain ⟨chs0_11,hs0_11⟩:=chk_elim hs0_10; clear hs0_10
    obtain ⟨t38,et38,hs0_12⟩:=bind_elim hs0_11; clear hs0_11
    conv=>whnf
    refine DNodeB.of (.iptr (.lit (.int .i64 t38))) ?_ ?_
    · conv=>whnf
      refine Side.mk chs0_11 ?_
      conv=>whnf
      refine At.by et38 ?_
      conv=>whnf
      rfl
    conv=>whnf
    refine DNodeB.of (.lit (.int .i64 t38)) ?_ ?_
    · conv=>whnf
      rfl
    obtain ⟨t40,et40,hs0_13⟩:=letk_elim hs0_12; clear hs0_12
    conv=>whnf
    refine DNodeB.of (.lit (.int .i64 t40)) ?_ ?_
    · conv=>whnf
      refine Nm.mk ⟨t40,et40,?_⟩
      conv=>whnf
      rfl
    conv=>whnf
    refine DNodeB.of (.lit (.int .i64 t40)) ?_ ?_
    · conv=>whnf
      rfl
    have ehs0_13_0:=hr1 _ (Option.some.inj hs0_13).symm
    subst ehs0_13_0
    conv=>whnf
    exact Returns.pure (r:=.lit (.int .i64 t40)) rfl rfl rfl rfl ⟨rfl,rfl⟩
  have h4:=bif_t h3
  clear h3
  obtain ⟨t12,et12,h5⟩:=letk_elim h4; clear h4
  conv=>whnf
  refine Nm.mk ⟨t12,by rw [et12,List.length_map],?_⟩
  obtain ⟨t14,et14,h6⟩:=letk_elim h5; clear h5
  conv=>whnf
  refine Nm.mk ⟨t14,by rw [et14,List.length_map],?_⟩
  obtain ⟨t15,et15,h7⟩:=letk_elim h6; clear h6
  conv=>whnf
  refine Nm.mk ⟨t15,et15,?_⟩
  have eh7_0:=Option.some.inj h7
  subst eh7_0
  conv=>whnf
  exact Returns.pure (r:=.lit (.int .i64 t15)) rfl rfl rfl rfl ⟨rfl,rfl⟩
noncomputable def Dec.big.less.j0 (b0:List Int) (c1:List Int) (t10:Int) (t11:Int) (out5_1:List Int) (x8:Int):Option (((List Int) × Int × Int) ⊕ ((List Int))) :=
  letk (decide (x8 < (0:Int))) fun t30 =>
  bif t30 then
    letk (IntKind.i64.wrap (x8 + (1000000000:Int))) fun t32 =>
    chk ((out5_1.length + ([t32]).length) * 8 ≤ 140737488355328) <|
    letk (out5_1 ++ ([t32])) fun t36_1 =>
    letk (IntKind.i64.wrap (t11 + (1:Int))) fun t37_1 =>
    some (.inl (t36_1,1,t37_1))
  else
    chk ((out5_1.length + ([x8]).length) * 8 ≤ 140737488355328) <|
    letk (out5_1 ++ ([x8])) fun t36 =>
    letk (IntKind.i64.wrap (t11 + (1:Int))) fun t37 =>
    some (.inl (t36,0,t37))
noncomputable def Dec.big.less.s0 (b0:List Int) (c1:List Int) (t10:Int) (out5:List Int) (borrow6:Int) (t11:Int):Option (((List Int) × Int × Int) ⊕ ((List Int))) :=
  letk (decide (t11 < t10)) fun t12 =>
  bif t12 then
    chk (0 ≤ t11) <|
    Option.bind (b0[t11.toNat]?) fun t14 =>
    letk (IntKind.i64.wrap (t14 - borrow6)) fun t18 =>
    letk ((c1.length:Int)) fun t21 =>
    letk (decide (t11 < t21)) fun t22 =>
    bif t22 then
      chk (0 ≤ t11) <|
      Option.bind (c1[t11.toNat]?) fun t26 =>
      letk (IntKind.i64.wrap (t18 - t26)) fun t28 =>
      Dec.big.less.j0 b0 c1 t10 t11 out5 t28
    else
      Dec.big.less.j0 b0 c1 t10 t11 out5 t18
  else
    ((
    Option.bind (Dec.big.trim out5) fun t39 =>
    some t39)).map .inr
noncomputable def Dec.big.less.l0 (b0:List Int) (c1:List Int) (t10:Int) (out5:List Int) (borrow6:Int) (t11:Int):Option ((List Int)):=loopO (fun v:(List Int) × Int × Int=>Dec.big.less.s0 b0 c1 t10 v.1 v.2.1 v.2.2) (out5,borrow6,t11)
noncomputable def Dec.big.less (b0:List Int) (c1:List Int):Option ((List Int)) :=
  letk ((b0.length:Int)) fun t10 =>
  Dec.big.less.l0 b0 c1 t10 ([]) 0 0
theorem Dec.big.less_ok {b0:List Int} {c1:List Int} {r:(List Int)} (h0:Dec.big.less b0 c1 = some r):Gives Tryz.prog 128 [.vs 1 (b0.map (eI .i64)),.vs 1 (c1.map (eI .i64))] (.vs 1 (r.map (eI .i64))):=by
  unfold Dec.big.less at h0
  refine ACalls.of_swp Tryz.func128 rfl (by decide) rfl (st0:=⟨40,[(0,.vs 1 (b0.map (eI .i64))),(1,.vs 1 (c1.map (eI .i64)))],[]⟩) rfl (bwp_ok (C:=[(0,9)]) ?_)
  obtain ⟨t10,et10,h1⟩:=letk_elim h0; clear h0
  conv=>whnf
  refine Nm.mk ⟨t10,by rw [et10,List.length_map],?_⟩
  conv=>whnf
  unfold Dec.big.less.l0 at h1
  refine LoopB.of (σ:=(List Int) × Int × Int) (ρ:=(List Int)) (fun v:(List Int) × Int × Int=>Dec.big.less.s0 b0 c1 t10 v.1 v.2.1 v.2.2) (fun v=>(⟨40,[(1,.vs 1 (c1.map (eI .i64))),(5,.ref 0 0 ((v.1.map (eI .i64)).length)),(6,.lit (.int .i64 v.2.1)),(9,.vs 1 (b0.map (eI .i64))),(10,.lit (.int .i64 t10)),(11,.lit (.int .i64 v.2.2))],[.arr 1 (v.1.map (eI .i64))]⟩:St)) ([],0,0) h1 (BackS.by rfl (Sees.of (Weak.objs (keep:=[]) (frz:=[]) (m:=1) rfl (by decide) rfl rfl ⟨rfl,fun ob ho=>by simp only [List.mem_cons,List.not_mem_nil,or_false] at ho; exact ⟨_,ho⟩⟩ ⟨.s,(.nilsRef 0 (by decide) (by decide)),.s,.s,.s,.s,trivial⟩))) ?_
  clear h1
  rintro K1 ⟨out5,borrow6,t11⟩ x1 hs0_0 hl1 hr1
  replace hs0_0:Dec.big.less.s0 b0 c1 t10 out5 borrow6 t11 = some x1:=hs0_0
  unfold Dec.big.less.s0 at hs0_0
  change bwp _ _ _ _ _ (⟨40,[(1,.vs 1 (c1.map (eI .i64))),(5,.ref 0 0 ((out5.map (eI .i64)).length)),(6,.lit (.int .i64 borrow6)),(9,.vs 1 (b0.map (eI .i64))),(10,.lit (.int .i64 t10)),(11,.lit (.int .i64 t11))],[.arr 1 (out5.map (eI .i64))]⟩:St)
  obtain ⟨t12,et12,hs0_1⟩:=letk_elim hs0_0; clear hs0_0
  conv=>whnf
  refine Nm.mk ⟨t12,et12,?_⟩
  rcases t12 with _ | _
  · have hs0_2:=bif_f hs0_1
    clear hs0_1
    obtain ⟨yhs0_2_0,hs0_2u,ehs0_2_0⟩:=map_elim hs0_2
    have ehs0_2_0:=(hr1 _ ehs0_2_0.symm).symm
    subst ehs0_2_0
    obtain ⟨t39,et39,hs0_2u0⟩:=bind_elim hs0_2u; clear hs0_2u
    conv=>whnf
    refine Gate.weak (Sees.of (Weak.objs (k:=40) (keep:=[]) (frz:=[0]) (m:=0) (ts:=[(38,.vs 1 (out5.map (eI .i64)))]) (hs:=[]) rfl (by decide) rfl rfl ⟨rfl,fun _ h=>by cases h⟩ ⟨(WV.all (k:=0) (by decide) rfl),trivial⟩)) ?_
    conv=>whnf
    refine CallN.by (v:=.vs 1 (t39.map (eI .i64))) (Dec.big.trim_ok et39) rfl rfl ?_
    have ehs0_2u0_0:=Option.some.inj hs0_2u0
    subst ehs0_2u0_0
    conv=>whnf
    exact Returns.pure (r:=.vs 1 (t39.map (eI .i64))) rfl rfl rfl rfl ⟨rfl,rfl⟩
  have hs0_2:=bif_t hs0_1
  clear hs0_1
  obtain ⟨chs0_3,hs0_3⟩:=chk_elim hs0_2; clear hs0_2
  obtain ⟨t14,et14,hs0_4⟩:=bind_elim hs0_3; clear hs0_3
  conv=>whnf
  refine Side.mk chs0_3 ?_
  conv=>whnf
  refine At.by et14 ?_
  obtain ⟨t18,et18,hs0_5⟩:=letk_elim hs0_4; clear hs0_4
  conv=>whnf
  refine Nm.mk ⟨t18,et18,?_⟩
  conv=>whnf
  refine CutN.of (fun s=>∃ (out5_1:List Int) (x8:Int),Dec.big.less.j0 b0 c1 t10 t11 out5_1 x8 = some x1 ∧ s = (⟨40,[(1,.vs 1 (c1.map (eI .i64))),(5,.ref 0 0 ((out5_1.map (eI .i64)).length)),(8,.lit (.int .i64 x8)),(9,.vs 1 (b0.map (eI .i64))),(10,.lit (.int .i64 t10)),(11,.lit (.int .i64 t11))],[.arr 1 (out5_1.map (eI .i64))]⟩:St)) ?_ ?_
  · obtain ⟨t21,et21,hs0_6⟩:=letk_elim hs0_5; clear hs0_5
    conv=>whnf
    refine Nm.mk ⟨t21,by rw [et21,List.length_map],?_⟩
    obtain ⟨t22,et22,hs0_7⟩:=letk_elim hs0_6; clear hs0_6
    conv=>whnf
    refine Nm.mk ⟨t22,et22,?_⟩
    rcases t22 with _ | _
    · have hs0_8:=bif_f hs0_7
      clear hs0_7
      exact BackS.by ⟨_,_,hs0_8,rfl⟩ (Sees.of (Weak.objs (keep:=[0]) (frz:=[]) (m:=0) rfl (by decide) rfl rfl ⟨⟨_,rfl,.arr _ _⟩,⟨rfl,fun _ h=>by cases h⟩⟩ ⟨.s,(.ref _ _ _ 0 rfl),.s,.s,.s,.s,trivial⟩))
    have hs0_8:=bif_t hs0_7
    clear hs0_7
    obtain ⟨chs0_9,hs0_9⟩:=chk_elim hs0_8; clear hs0_8
    obtain ⟨t26,et26,hs0_10⟩:=bind_elim hs0_9; clear hs0_9
    conv=>whnf
    refine Side.mk chs0_9 ?_
    conv=>whnf
    refine At.by et26 ?_
    obtain ⟨t28,et28,hs0_11⟩:=letk_elim hs0_10; clear hs0_10
    conv=>whnf
    refine Nm.mk ⟨t28,et28,?_⟩
    exact BackS.by ⟨_,_,hs0_11,rfl⟩ (Sees.of (Weak.objs (keep:=[0]) (frz:=[]) (m:=0) rfl (by decide) rfl rfl ⟨⟨_,rfl,.arr _ _⟩,⟨rfl,fun _ h=>by cases h⟩⟩ ⟨.s,(.ref _ _ _ 0 rfl),.s,.s,.s,.s,trivial⟩))
  clear hs0_5
  rintro s ⟨out5_1,x8,hj0,rfl⟩
  unfold Dec.big.less.j0 at hj0
  obtain ⟨t30,et30,hj1⟩:=letk_elim hj0; clear hj0
  conv=>whnf
  refine Nm.mk ⟨t30,et30,?_⟩
  rcases t30 with _ | _
  · have hj2:=bif_f hj1
    clear hj1
    conv=>whnf
    refine Gate.go ?_
    conv=>whnf
    refine Nm.mk ⟨([x8]).map (eI .i64),rfl,?_⟩
    obtain ⟨chj3,hj3⟩:=chk_elim hj2; clear hj2
    obtain ⟨t36,et36,hj4⟩:=letk_elim hj3; clear hj3
    conv=>whnf
    refine Gate.go ?_
    conv=>whnf
    refine Side.mk (full_le _) ?_
    conv=>whnf
    refine Side.mk ⟨full_le _,one_map (fun _ _ hc=>by simp only [AV.cells,List.mem_singleton] at hc; subst hc; rfl)⟩ ?_
    conv=>whnf
    refine Side.mk (side_rr (by decide) chj3) ?_
    conv=>whnf
    refine Nm.mk ⟨t36.map (eI .i64),by rw [et36]; exact app_rr (m:=[x8]),?_⟩
    obtain ⟨t37,et37,hj5⟩:=letk_elim hj4; clear hj4
    conv=>whnf
    refine Nm.mk ⟨t37,et37,?_⟩
    exact BackS.by ⟨_,hl1 _ (Option.some.inj hj5).symm,rfl⟩ (Sees.of (Weak.objs (keep:=[2]) (frz:=[]) (m:=0) rfl (by decide) rfl rfl ⟨⟨_,rfl,.arr _ _⟩,⟨rfl,fun _ h=>by cases h⟩⟩ ⟨.s,(.ref _ _ _ 0 rfl),.s,.s,.s,.s,trivial⟩))
  have hj2:=bif_t hj1
  clear hj1
  obtain ⟨t32,et32,hj3⟩:=letk_elim hj2; clear hj2
  conv=>whnf
  refine Nm.mk ⟨t32,et32,?_⟩
  conv=>whnf
  refine Gate.go ?_
  conv=>whnf
  refine Nm.mk ⟨([t32]).map (eI .i64),rfl,?_⟩
  obtain ⟨chj4,hj4⟩:=chk_elim hj3; clear hj3
  obtain ⟨t36_1,et36_1,hj5⟩:=letk_elim hj4; clear hj4
  conv=>whnf
  refine Gate.go ?_
  conv=>whnf
  refine Side.mk (full_le _) ?_
  conv=>whnf
  refine Side.mk ⟨full_le _,one_map (fun _ _ hc=>by simp only [AV.cells,List.mem_singleton] at hc; subst hc; rfl)⟩ ?_
  conv=>whnf
  refine Side.mk (side_rr (by decide) chj4) ?_
  conv=>whnf
  refine Nm.mk ⟨t36_1.map (eI .i64),by rw [et36_1]; exact app_rr (m:=[t32]),?_⟩
  obtain ⟨t37_1,et37_1,hj6⟩:=letk_elim hj5; clear hj5
  conv=>whnf
  refine Nm.mk ⟨t37_1,et37_1,?_⟩
  exact BackS.by ⟨_,hl1 _ (Option.some.inj hj6).symm,rfl⟩ (Sees.of (Weak.objs (keep:=[2]) (frz:=[]) (m:=0) rfl (by decide) rfl rfl ⟨⟨_,rfl,.arr _ _⟩,⟨rfl,fun _ h=>by cases h⟩⟩ ⟨.s,(.ref _ _ _ 0 rfl),.s,.s,.s,.s,trivial⟩))
noncomputable def Dec.quotient.s2 (c1_1:List Int) (e5_1:Int) (b0_2:List Int) (m4:Int) (i8:Int):Option (((List Int) × Int × Int) ⊕ (Int × Int × Bool)) :=
  letk (decide (i8 ≥ (0:Int))) fun t32 =>
  bif t32 then
    Option.bind (Dec.big.power c1_1 2 i8) fun t37 =>
    Option.bind (Dec.big.compare b0_2 t37) fun t40 =>
    letk (decide (t40 ≥ (0:Int))) fun t41 =>
    bif t41 then
      Option.bind (Dec.big.less b0_2 t37) fun t44 =>
      chk (0 ≤ i8) <|
      letk (IntKind.i64.wrap ((1:Int) * 2 ^ (min i8.toNat (IntKind.i64).bits))) fun t47 =>
      letk (IntKind.i64.wrap (BitVec.ofInt (IntKind.i64).bits m4 ||| BitVec.ofInt (IntKind.i64).bits t47).toNat) fun t48 =>
      letk (IntKind.i64.wrap (i8 - (1:Int))) fun t34_1 =>
      some (.inl (t44,t48,t34_1))
    else
      letk (IntKind.i64.wrap (i8 - (1:Int))) fun t34 =>
      some (.inl (b0_2,m4,t34))
  else
    ((
    letk ((b0_2.length:Int)) fun t52 =>
    letk (decide (t52 > (0:Int))) fun t53 =>
    some (m4,e5_1,t53))).map .inr
noncomputable def Dec.quotient.l2 (c1_1:List Int) (e5_1:Int) (b0_2:List Int) (m4:Int) (i8:Int):Option (Int × Int × Bool):=loopO (fun v:(List Int) × Int × Int=>Dec.quotient.s2 c1_1 e5_1 v.1 v.2.1 v.2.2) (b0_2,m4,i8)
noncomputable def Dec.quotient.s1 (b0_1:List Int) (c1_1:List Int) (e5_1:Int) (low7:List Int):Option (((List Int) × Int × (List Int)) ⊕ (Int × Int × Bool)) :=
  Option.bind (Dec.big.times low7 4) fun t22 =>
  Option.bind (Dec.big.compare b0_1 t22) fun t23 =>
  letk (decide (t23 ≥ (0:Int))) fun t24 =>
  bif t24 then
    Option.bind (Dec.big.times c1_1 2) fun t26 =>
    Option.bind (Dec.big.times low7 2) fun t28 =>
    letk (IntKind.i64.wrap (e5_1 + (1:Int))) fun t30 =>
    some (.inl (t26,t30,t28))
  else
    (Dec.quotient.l2 c1_1 e5_1 b0_1 0 61).map .inr
noncomputable def Dec.quotient.l1 (b0_1:List Int) (c1_1:List Int) (e5_1:Int) (low7:List Int):Option (Int × Int × Bool):=loopO (fun v:(List Int) × Int × (List Int)=>Dec.quotient.s1 b0_1 v.1 v.2.1 v.2.2) (c1_1,e5_1,low7)
noncomputable def Dec.quotient.s0 (c1:List Int) (t11:(List Int)) (b0_1:List Int) (e5:Int):Option (((List Int) × Int) ⊕ (Int × Int × Bool)) :=
  Option.bind (Dec.big.compare b0_1 t11) fun t14 =>
  letk (decide (t14 < (0:Int))) fun t15 =>
  bif t15 then
    Option.bind (Dec.big.times b0_1 2) fun t17 =>
    letk (IntKind.i64.wrap (e5 - (1:Int))) fun t19 =>
    some (.inl (t17,t19))
  else
    (Dec.quotient.l1 b0_1 c1 e5 t11).map .inr
noncomputable def Dec.quotient.l0 (c1:List Int) (t11:(List Int)) (b0_1:List Int) (e5:Int):Option (Int × Int × Bool):=loopO (fun v:(List Int) × Int=>Dec.quotient.s0 c1 t11 v.1 v.2) (b0_1,e5)
noncomputable def Dec.quotient (b0:List Int) (c1:List Int):Option (Int × Int × Bool) :=
  Option.bind (Dec.big.power c1 2 60) fun t11 =>
  Dec.quotient.l0 c1 t11 b0 0
theorem Dec.quotient_ok {b0:List Int} {c1:List Int} {r:Int × Int × Bool} (h0:Dec.quotient b0 c1 = some r):Gives Tryz.prog 77 [.vs 1 (b0.map (eI .i64)),.vs 1 (c1.map (eI .i64))] (.tup [.lit (.int .i64 r.1),.lit (.int .i64 r.2.1),.lit (.bool r.2.2)]):=by
  unfold Dec.quotient at h0
  refine ACalls.of_swp Tryz.func77 rfl (by decide) rfl (st0:=⟨54,[(0,.vs 1 (b0.map (eI .i64))),(1,.vs 1 (c1.map (eI .i64)))],[]⟩) rfl (bwp_ok (C:=[]) ?_)
  obtain ⟨t11,et11,h1⟩:=bind_elim h0; clear h0
  conv=>whnf
  refine Gate.go ?_
  conv=>whnf
  refine CallN.by (v:=.vs 1 (t11.map (eI .i64))) (Dec.big.power_ok et11) rfl rfl ?_
  conv=>whnf
  unfold Dec.quotient.l0 at h1
  refine LoopB.of (σ:=(List Int) × Int) (ρ:=Int × Int × Bool) (fun v:(List Int) × Int=>Dec.quotient.s0 c1 t11 v.1 v.2) (fun v=>(⟨54,[(0,.vs 1 (v.1.map (eI .i64))),(1,.vs 1 (c1.map (eI .i64))),(4,.lit (.int .i64 0)),(5,.lit (.int .i64 v.2)),(7,.vs 1 (t11.map (eI .i64)))],[]⟩:St)) (b0,0) h1 (BackS.by rfl (Sees.e ⟨.s,.s,.s,.s,.s,trivial⟩)) ?_
  clear h1
  rintro K1 ⟨b0_1,e5⟩ x1 hs0_0 hl1 hr1
  replace hs0_0:Dec.quotient.s0 c1 t11 b0_1 e5 = some x1:=hs0_0
  unfold Dec.quotient.s0 at hs0_0
  change bwp _ _ _ _ _ (⟨54,[(0,.vs 1 (b0_1.map (eI .i64))),(1,.vs 1 (c1.map (eI .i64))),(4,.lit (.int .i64 0)),(5,.lit (.int .i64 e5)),(7,.vs 1 (t11.map (eI .i64)))],[]⟩:St)
  obtain ⟨t14,et14,hs0_1⟩:=bind_elim hs0_0; clear hs0_0
  conv=>whnf
  refine Gate.go ?_
  conv=>whnf
  refine CallN.by (v:=.lit (.int .i64 t14)) (Dec.big.compare_ok et14) rfl rfl ?_
  obtain ⟨t15,et15,hs0_2⟩:=letk_elim hs0_1; clear hs0_1
  conv=>whnf
  refine Nm.mk ⟨t15,et15,?_⟩
  rcases t15 with _ | _
  · have hs0_3:=bif_f hs0_2
    clear hs0_2
    obtain ⟨yhs0_3_0,hs0_3u,ehs0_3_0⟩:=map_elim hs0_3
    have ehs0_3_0:=(hr1 _ ehs0_3_0.symm).symm
    subst ehs0_3_0
    conv=>whnf
    unfold Dec.quotient.l1 at hs0_3u
    refine LoopB.of (σ:=(List Int) × Int × (List Int)) (ρ:=Int × Int × Bool) (fun v:(List Int) × Int × (List Int)=>Dec.quotient.s1 b0_1 v.1 v.2.1 v.2.2) (fun v=>(⟨54,[(0,.vs 1 (b0_1.map (eI .i64))),(1,.vs 1 (v.1.map (eI .i64))),(4,.lit (.int .i64 0)),(5,.lit (.int .i64 v.2.1)),(7,.vs 1 (v.2.2.map (eI .i64)))],[]⟩:St)) (c1,e5,t11) hs0_3u (BackS.by rfl (Sees.e ⟨.s,.s,.s,.s,.s,trivial⟩)) ?_
    clear hs0_3u
    rintro K1 ⟨c1_1,e5_1,low7⟩ x1 hs1_0 hl1 hr1
    replace hs1_0:Dec.quotient.s1 b0_1 c1_1 e5_1 low7 = some x1:=hs1_0
    unfold Dec.quotient.s1 at hs1_0
    change bwp _ _ _ _ _ (⟨54,[(0,.vs 1 (b0_1.map (eI .i64))),(1,.vs 1 (c1_1.map (eI .i64))),(4,.lit (.int .i64 0)),(5,.lit (.int .i64 e5_1)),(7,.vs 1 (low7.map (eI .i64)))],[]⟩:St)
    obtain ⟨t22,et22,hs1_1⟩:=bind_elim hs1_0; clear hs1_0
    conv=>whnf
    refine Gate.go ?_
    conv=>whnf
    refine CallN.by (v:=.vs 1 (t22.map (eI .i64))) (Dec.big.times_ok et22) rfl rfl ?_
    obtain ⟨t23,et23,hs1_2⟩:=bind_elim hs1_1; clear hs1_1
    conv=>whnf
    refine Gate.go ?_
    conv=>whnf
    refine CallN.by (v:=.lit (.int .i64 t23)) (Dec.big.compare_ok et23) rfl rfl ?_
    obtain ⟨t24,et24,hs1_3⟩:=letk_elim hs1_2; clear hs1_2
    conv=>whnf
    refine Nm.mk ⟨t24,et24,?_⟩
    rcases t24 with _ | _
    · have hs1_4:=bif_f hs1_3
      clear hs1_3
      obtain ⟨yhs1_4_0,hs1_4u,ehs1_4_0⟩:=map_elim hs1_4
      have ehs1_4_0:=(hr1 _ ehs1_4_0.symm).symm
      subst ehs1_4_0
      conv=>whnf
      unfold Dec.quotient.l2 at hs1_4u
      refine LoopB.of (σ:=(List Int) × Int × Int) (ρ:=Int × Int × Bool) (fun v:(List Int) × Int × Int=>Dec.quotient.s2 c1_1 e5_1 v.1 v.2.1 v.2.2) (fun v=>(⟨54,[(0,.vs 1 (v.1.map (eI .i64))),(1,.vs 1 (c1_1.map (eI .i64))),(4,.lit (.int .i64 v.2.1)),(5,.lit (.int .i64 e5_1)),(8,.lit (.int .i64 v.2.2))],[]⟩:St)) (b0_1,0,61) hs1_4u (BackS.by rfl (Sees.e ⟨.s,.s,.s,.s,.s,trivial⟩)) ?_
      clear hs1_4u
      rintro K1 ⟨b0_2,m4,i8⟩ x1 hs2_0 hl1 hr1
      replace hs2_0:Dec.quotient.s2 c1_1 e5_1 b0_2 m4 i8 = some x1:=hs2_0
      unfold Dec.quotient.s2 at hs2_0
      change bwp _ _ _ _ _ (⟨54,[(0,.vs 1 (b0_2.map (eI .i64))),(1,.vs 1 (c1_1.map (eI .i64))),(4,.lit (.int .i64 m4)),(5,.lit (.int .i64 e5_1)),(8,.lit (.int .i64 i8))],[]⟩:St)
      obtain ⟨t32,et32,hs2_1⟩:=letk_elim hs2_0; clear hs2_0
      conv=>whnf
      refine Nm.mk ⟨t32,et32,?_⟩
      rcases t32 with _ | _
      · have hs2_2:=bif_f hs2_1
        clear hs2_1
        obtain ⟨yhs2_2_0,hs2_2u,ehs2_2_0⟩:=map_elim hs2_2
        have ehs2_2_0:=(hr1 _ ehs2_2_0.symm).symm
        subst ehs2_2_0
        obtain ⟨t52,et52,hs2_2u0⟩:=letk_elim hs2_2u; clear hs2_2u
        conv=>whnf
        refine Nm.mk ⟨t52,by rw [et52,List.length_map],?_⟩
        obtain ⟨t53,et53,hs2_2u1⟩:=letk_elim hs2_2u0; clear hs2_2u0
        conv=>whnf
        refine Nm.mk ⟨t53,et53,?_⟩
        have ehs2_2u1_0:=Option.some.inj hs2_2u1
        subst ehs2_2u1_0
        conv=>whnf
        exact Returns.pure (r:=.tup [.lit (.int .i64 m4),.lit (.int .i64 e5_1),.lit (.bool t53)]) rfl rfl rfl rfl ⟨rfl,rfl⟩
      have hs2_2:=bif_t hs2_1
      clear hs2_1
      obtain ⟨t37,et37,hs2_3⟩:=bind_elim hs2_2; clear hs2_2
      conv=>whnf
      refine Gate.go ?_
      conv=>whnf
      refine CallN.by (v:=.vs 1 (t37.map (eI .i64))) (Dec.big.power_ok et37) rfl rfl ?_
      obtain ⟨t40,et40,hs2_4⟩:=bind_elim hs2_3; clear hs2_3
      conv=>whnf
      refine Gate.go ?_
      conv=>whnf
      refine CallN.by (v:=.lit (.int .i64 t40)) (Dec.big.compare_ok et40) rfl rfl ?_
      obtain ⟨t41,et41,hs2_5⟩:=letk_elim hs2_4; clear hs2_4
      conv=>whnf
      refine Nm.mk ⟨t41,et41,?_⟩
      rcases t41 with _ | _
      · have hs2_6:=bif_f hs2_5
        clear hs2_5
        obtain ⟨t34,et34,hs2_7⟩:=letk_elim hs2_6; clear hs2_6
        conv=>whnf
        refine Nm.mk ⟨t34,et34,?_⟩
        exact BackS.by ⟨_,hl1 _ (Option.some.inj hs2_7).symm,rfl⟩ (Sees.e ⟨.s,.s,.s,.s,.s,trivial⟩)
      have hs2_6:=bif_t hs2_5
      clear hs2_5
      obtain ⟨t44,et44,hs2_7⟩:=bind_elim hs2_6; clear hs2_6
      conv=>whnf
      refine Gate.go ?_
      conv=>whnf
      refine CallN.by (v:=.vs 1 (t44.map (eI .i64))) (Dec.big.less_ok et44) rfl rfl ?_
      obtain ⟨chs2_8,hs2_8⟩:=chk_elim hs2_7; clear hs2_7
      obtain ⟨t47,et47,hs2_9⟩:=letk_elim hs2_8; clear hs2_8
      conv=>whnf
      refine Side.mk chs2_8 ?_
      conv=>whnf
      refine Nm.mk ⟨t47,et47,?_⟩
      obtain ⟨t48,et48,hs2_10⟩:=letk_elim hs2_9; clear hs2_9
      conv=>whnf
      refine Nm.mk ⟨t48,et48,?_⟩
      obtain ⟨t34_1,et34_1,hs2_11⟩:=letk_elim hs2_10; clear hs2_10
      conv=>whnf
      refine Nm.mk ⟨t34_1,et34_1,?_⟩
      exact BackS.by ⟨_,hl1 _ (Option.some.inj hs2_11).symm,rfl⟩ (Sees.e ⟨.s,.s,.s,.s,.s,trivial⟩)
    have hs1_4:=bif_t hs1_3
    clear hs1_3
    obtain ⟨t26,et26,hs1_5⟩:=bind_elim hs1_4; clear hs1_4
    conv=>whnf
    refine Gate.go ?_
    conv=>whnf
    refine CallN.by (v:=.vs 1 (t26.map (eI .i64))) (Dec.big.times_ok et26) rfl rfl ?_
    obtain ⟨t28,et28,hs1_6⟩:=bind_elim hs1_5; clear hs1_5
    conv=>whnf
    refine Gate.go ?_
    conv=>whnf
    refine CallN.by (v:=.vs 1 (t28.map (eI .i64))) (Dec.big.times_ok et28) rfl rfl ?_
    obtain ⟨t30,et30,hs1_7⟩:=letk_elim hs1_6; clear hs1_6
    conv=>whnf
    refine Nm.mk ⟨t30,et30,?_⟩
    exact BackS.by ⟨_,hl1 _ (Option.some.inj hs1_7).symm,rfl⟩ (Sees.e ⟨.s,.s,.s,.s,.s,trivial⟩)
  have hs0_3:=bif_t hs0_2
  clear hs0_2
  obtain ⟨t17,et17,hs0_4⟩:=bind_elim hs0_3; clear hs0_3
  conv=>whnf
  refine Gate.go ?_
  conv=>whnf
  refine CallN.by (v:=.vs 1 (t17.map (eI .i64))) (Dec.big.times_ok et17) rfl rfl ?_
  obtain ⟨t19,et19,hs0_5⟩:=letk_elim hs0_4; clear hs0_4
  conv=>whnf
  refine Nm.mk ⟨t19,et19,?_⟩
  exact BackS.by ⟨_,hl1 _ (Option.some.inj hs0_5).symm,rfl⟩ (Sees.e ⟨.s,.s,.s,.s,.s,trivial⟩)
noncomputable def Dec.round.j0 (kind0:Int) (mode1:Int) (sign2:Int) (b14:List Int) (c15:List Int):Option (Int × Int × Int) :=
  Option.bind (Dec.quotient b14 c15) fun (t77_0,t77_1,t77_2) =>
  letk (IntKind.i64.wrap (t77_0 * (2:Int))) fun t82 =>
  bif t77_2 then
    letk (IntKind.i64.wrap (t82 + (1:Int))) fun t85 =>
    letk (IntKind.i64.wrap (t77_1 - (1:Int))) fun t91_1 =>
    Option.bind (Flt.Make kind0 mode1 sign2 t85 t91_1) fun (t92_3_0,t92_3_1,t92_3_2) =>
    some (t92_3_0,t92_3_1,t92_3_2)
  else
    letk (IntKind.i64.wrap (t77_1 - (1:Int))) fun t91 =>
    Option.bind (Flt.Make kind0 mode1 sign2 t82 t91) fun (t92_0,t92_1,t92_2) =>
    some (t92_0,t92_1,t92_2)
noncomputable def Dec.round (kind0:Int) (mode1:Int) (sign2:Int) (digits3:ByteArray) (x4:Int):Option (Int × Int × Int) :=
  Option.bind (Strs.TrimLeft digits3 ⟨#[48]⟩) fun t20 =>
  letk ((digits3.size:Int)) fun t23 =>
  letk ((t20.size:Int)) fun t25 =>
  letk (IntKind.i64.wrap (t23 - t25)) fun t26 =>
  letk (IntKind.i64.wrap (x4 - t26)) fun t27 =>
  letk (t20.toList == (⟨#[]⟩:ByteArray).toList) fun t30 =>
  bif t30 then
    Option.bind (Flt.Make kind0 mode1 sign2 0 0) fun (t34_0,t34_1,t34_2) =>
    some (t34_0,t34_1,t34_2)
  else
    letk (decide (t27 > (400:Int))) fun t40 =>
    bif t40 then
      Option.bind (Flt.Make kind0 mode1 sign2 1 2000) fun (t44_0,t44_1,t44_2) =>
      some (t44_0,t44_1,t44_2)
    else
      letk (decide (t27 < ((-400):Int))) fun t50 =>
      bif t50 then
        Option.bind (Flt.Make kind0 mode1 sign2 1 (-2000)) fun (t54_0,t54_1,t54_2) =>
        some (t54_0,t54_1,t54_2)
      else
        Option.bind (Dec.whole t20) fun t59 =>
        letk ((t20.size:Int)) fun t63 =>
        letk (IntKind.i64.wrap (t27 - t63)) fun t64 =>
        letk (decide (t64 ≥ (0:Int))) fun t66 =>
        bif t66 then
          Option.bind (Dec.big.power t59 10 t64) fun t69 =>
          Dec.round.j0 kind0 mode1 sign2 t69 ([1])
        else
          letk (IntKind.i64.wrap (0 - t64)) fun t72 =>
          Option.bind (Dec.big.power ([1]) 10 t72) fun t73 =>
          Dec.round.j0 kind0 mode1 sign2 t59 t73
theorem Dec.round_ok {kind0:Int} {mode1:Int} {sign2:Int} {digits3:ByteArray} {x4:Int} {r:Int × Int × Int} (h0:Dec.round kind0 mode1 sign2 digits3 x4 = some r):Gives Tryz.prog 34 [.lit (.int .i64 kind0),.lit (.int .i64 mode1),.lit (.int .i64 sign2),.lit (.string digits3),.lit (.int .i64 x4)] (.tup [.lit (.int .i64 r.1),.lit (.int .i64 r.2.1),.lit (.int .i64 r.2.2)]):=by
  unfold Dec.round at h0
  refine ACalls.of_swp Tryz.func34 rfl (by decide) rfl (st0:=⟨96,[(0,.lit (.int .i64 kind0)),(1,.lit (.int .i64 mode1)),(2,.lit (.int .i64 sign2)),(3,.lit (.string digits3)),(4,.lit (.int .i64 x4))],[]⟩) rfl (bwp_ok (C:=[(0,14)]) ?_)
  obtain ⟨t20,et20,h1⟩:=bind_elim h0; clear h0
  conv=>whnf
  refine Gate.go ?_
  conv=>whnf
  refine CallN.by (v:=.lit (.string t20)) (Strs.TrimLeft_ok et20) rfl rfl ?_
  obtain ⟨t23,et23,h2⟩:=letk_elim h1; clear h1
  conv=>whnf
  refine Nm.mk ⟨t23,et23,?_⟩
  obtain ⟨t25,et25,h3⟩:=letk_elim h2; clear h2
  conv=>whnf
  refine Nm.mk ⟨t25,et25,?_⟩
  obtain ⟨t26,et26,h4⟩:=letk_elim h3; clear h3
  conv=>whnf
  refine Nm.mk ⟨t26,et26,?_⟩
  obtain ⟨t27,et27,h5⟩:=letk_elim h4; clear h4
  conv=>whnf
  refine Nm.mk ⟨t27,et27,?_⟩
  obtain ⟨t30,et30,h6⟩:=letk_elim h5; clear h5
  conv=>whnf
  refine Nm.mk ⟨t30,et30,?_⟩
  rcases t30 with _ | _
  · have h7:=bif_f h6
    clear h6
    obtain ⟨t40,et40,h8⟩:=letk_elim h7; clear h7
    conv=>whnf
    refine Nm.mk ⟨t40,et40,?_⟩
    rcases t40 with _ | _
    · have h9:=bif_f h8
      clear h8
      obtain ⟨t50,et50,h10⟩:=letk_elim h9; clear h9
      conv=>whnf
      refine Nm.mk ⟨t50,et50,?_⟩
      rcases t50 with _ | _
      · have h11:=bif_f h10
        clear h10
        obtain ⟨t59,et59,h12⟩:=bind_elim h11; clear h11
        conv=>whnf
        refine Gate.go ?_
        conv=>whnf
        refine CallN.by (v:=.vs 1 (t59.map (eI .i64))) (Dec.whole_ok et59) rfl rfl ?_
        conv=>whnf
        refine Gate.go ?_
        conv=>whnf
        refine Nm.mk ⟨([1]).map (eI .i64),rfl,?_⟩
        obtain ⟨t63,et63,h13⟩:=letk_elim h12; clear h12
        conv=>whnf
        refine Nm.mk ⟨t63,et63,?_⟩
        obtain ⟨t64,et64,h14⟩:=letk_elim h13; clear h13
        conv=>whnf
        refine Nm.mk ⟨t64,et64,?_⟩
        conv=>whnf
        refine CutN.of (fun s=>∃ (b14:List Int) (c15:List Int),Dec.round.j0 kind0 mode1 sign2 b14 c15 = some r ∧ s = (⟨96,[(0,.lit (.int .i64 kind0)),(1,.lit (.int .i64 mode1)),(2,.lit (.int .i64 sign2)),(14,.vs 1 (b14.map (eI .i64))),(15,.vs 1 (c15.map (eI .i64)))],[]⟩:St)) ?_ ?_
        · obtain ⟨t66,et66,h15⟩:=letk_elim h14; clear h14
          conv=>whnf
          refine Nm.mk ⟨t66,et66,?_⟩
          rcases t66 with _ | _
          · have h16:=bif_f h15
            clear h15
            obtain ⟨t72,et72,h17⟩:=letk_elim h16; clear h16
            conv=>whnf
            refine Nm.mk ⟨t72,et72,?_⟩
            obtain ⟨t73,et73,h18⟩:=bind_elim h17; clear h17
            conv=>whnf
            refine Gate.weak (Sees.of (Weak.objs (k:=96) (keep:=[]) (frz:=[0]) (m:=0) (ts:=[(0,.lit (.int .i64 kind0)),(1,.lit (.int .i64 mode1)),(2,.lit (.int .i64 sign2)),(14,.vs 1 (t59.map (eI .i64))),(70,.vs 1 (([1]).map (eI .i64))),(72,.lit (.int .i64 t72))]) (hs:=[]) rfl (by decide) rfl rfl ⟨rfl,fun _ h=>by cases h⟩ ⟨.s,.s,.s,.s,(WV.all (k:=0) (by decide) rfl),.s,trivial⟩)) ?_
            conv=>whnf
            refine CallN.by (v:=.vs 1 (t73.map (eI .i64))) (Dec.big.power_ok et73) rfl rfl ?_
            exact BackS.by ⟨_,_,h18,rfl⟩ (Sees.e ⟨.s,.s,.s,.s,.s,trivial⟩)
          have h16:=bif_t h15
          clear h15
          obtain ⟨t69,et69,h17⟩:=bind_elim h16; clear h16
          conv=>whnf
          refine Gate.go ?_
          conv=>whnf
          refine CallN.by (v:=.vs 1 (t69.map (eI .i64))) (Dec.big.power_ok et69) rfl rfl ?_
          exact BackS.by ⟨_,_,h17,rfl⟩ (Sees.of (Weak.objs (keep:=[]) (frz:=[0]) (m:=0) rfl (by decide) rfl rfl ⟨rfl,fun _ h=>by cases h⟩ ⟨.s,.s,.s,.s,(WV.all (k:=0) (by decide) rfl),trivial⟩))
        clear h14
        rintro s ⟨b14,c15,hj0,rfl⟩
        unfold Dec.round.j0 at hj0
        obtain ⟨⟨t77_0,t77_1,t77_2⟩,et77,hj1⟩:=bind_elim hj0; clear hj0
        conv=>whnf
        refine Gate.go ?_
        conv=>whnf
        refine CallN.by (v:=.tup [.lit (.int .i64 t77_0),.lit (.int .i64 t77_1),.lit (.bool t77_2)]) (Dec.quotient_ok et77) rfl rfl ?_
        obtain ⟨t82,et82,hj2⟩:=letk_elim hj1; clear hj1
        conv=>whnf
        refine Nm.mk ⟨t82,et82,?_⟩
        rcases t77_2 with _ | _
        · have hj3:=bif_f hj2
          clear hj2
          obtain ⟨t91,et91,hj4⟩:=letk_elim hj3; clear hj3
          conv=>whnf
          refine Nm.mk ⟨t91,et91,?_⟩
          obtain ⟨⟨t92_0,t92_1,t92_2⟩,et92,hj5⟩:=bind_elim hj4; clear hj4
          conv=>whnf
          refine Gate.go ?_
          conv=>whnf
          refine CallN.by (v:=.tup [.lit (.int .i64 t92_0),.lit (.int .i64 t92_1),.lit (.int .i64 t92_2)]) (Flt.Make_ok et92) rfl rfl ?_
          have ehj5_0:=Option.some.inj hj5
          subst ehj5_0
          conv=>whnf
          exact Returns.pure (r:=.tup [.lit (.int .i64 t92_0),.lit (.int .i64 t92_1),.lit (.int .i64 t92_2)]) rfl rfl rfl rfl ⟨rfl,rfl⟩
        have hj3:=bif_t hj2
        clear hj2
        obtain ⟨t85,et85,hj4⟩:=letk_elim hj3; clear hj3
        conv=>whnf
        refine Nm.mk ⟨t85,et85,?_⟩
        obtain ⟨t91_1,et91_1,hj5⟩:=letk_elim hj4; clear hj4
        conv=>whnf
        refine Nm.mk ⟨t91_1,et91_1,?_⟩
        obtain ⟨⟨t92_3_0,t92_3_1,t92_3_2⟩,et92_3,hj6⟩:=bind_elim hj5; clear hj5
        conv=>whnf
        refine Gate.go ?_
        conv=>whnf
        refine CallN.by (v:=.tup [.lit (.int .i64 t92_3_0),.lit (.int .i64 t92_3_1),.lit (.int .i64 t92_3_2)]) (Flt.Make_ok et92_3) rfl rfl ?_
        have ehj6_0:=Option.some.inj hj6
        subst ehj6_0
        conv=>whnf
        exact Returns.pure (r:=.tup [.lit (.int .i64 t92_3_0),.lit (.int .i64 t92_3_1),.lit (.int .i64 t92_3_2)]) rfl rfl rfl rfl ⟨rfl,rfl⟩
      have h11:=bif_t h10
      clear h10
      obtain ⟨⟨t54_0,t54_1,t54_2⟩,et54,h12⟩:=bind_elim h11; clear h11
      conv=>whnf
      refine Gate.go ?_
      conv=>whnf
      refine CallN.by (v:=.tup [.lit (.int .i64 t54_0),.lit (.int .i64 t54_1),.lit (.int .i64 t54_2)]) (Flt.Make_ok et54) rfl rfl ?_
      have eh12_0:=Option.some.inj h12
      subst eh12_0
      conv=>whnf
      exact Returns.pure (r:=.tup [.lit (.int .i64 t54_0),.lit (.int .i64 t54_1),.lit (.int .i64 t54_2)]) rfl rfl rfl rfl ⟨rfl,rfl⟩
    have h9:=bif_t h8
    clear h8
    obtain ⟨⟨t44_0,t44_1,t44_2⟩,et44,h10⟩:=bind_elim h9; clear h9
    conv=>whnf
    refine Gate.go ?_
    conv=>whnf
    refine CallN.by (v:=.tup [.lit (.int .i64 t44_0),.lit (.int .i64 t44_1),.lit (.int .i64 t44_2)]) (Flt.Make_ok et44) rfl rfl ?_
    have eh10_0:=Option.some.inj h10
    subst eh10_0
    conv=>whnf
    exact Returns.pure (r:=.tup [.lit (.int .i64 t44_0),.lit (.int .i64 t44_1),.lit (.int .i64 t44_2)]) rfl rfl rfl rfl ⟨rfl,rfl⟩
  have h7:=bif_t h6
  clear h6
  obtain ⟨⟨t34_0,t34_1,t34_2⟩,et34,h8⟩:=bind_elim h7; clear h7
  conv=>whnf
  refine Gate.go ?_
  conv=>whnf
  refine CallN.by (v:=.tup [.lit (.int .i64 t34_0),.lit (.int .i64 t34_1),.lit (.int .i64 t34_2)]) (Flt.Make_ok et34) rfl rfl ?_
  have eh8_0:=Option.some.inj h8
  subst eh8_0
  conv=>whnf
  exact Returns.pure (r:=.tup [.lit (.int .i64 t34_0),.lit (.int .i64 t34_1),.lit (.int .i64 t34_2)]) rfl rfl rfl rfl ⟨rfl,rfl⟩
noncomputable def Dec.Read (text0:ByteArray) (kind1:Int) (mode2:Int):Option (Int × Int × Int) :=
  Option.bind (Dec.isKind kind1 mode2) fun t13 =>
  letk (!t13) fun t14 =>
  bif t14 then
    some (0,0,2)
  else
    Option.bind (Dec.parse text0) fun (t17_0,t17_1) =>
    letk (!t17_1) fun t22 =>
    bif t22 then
      some (0,0,3)
    else
      letk (!(t17_0.word.toList == (⟨#[]⟩:ByteArray).toList)) fun t26 =>
      bif t26 then
        Option.bind (Dec.word kind1 (⟨t17_0.sign,t17_0.word,t17_0.digits,t17_0.x⟩:decimal.parsed)) fun t29 =>
        some (t29,0,0)
      else
        Option.bind (Dec.round kind1 mode2 t17_0.sign t17_0.digits t17_0.x) fun (t38_0,t38_1,t38_2) =>
        some (t38_0,t38_1,t38_2)
theorem Dec.Read_ok {text0:ByteArray} {kind1:Int} {mode2:Int} {r:Int × Int × Int} (h0:Dec.Read text0 kind1 mode2 = some r):Gives Tryz.prog 16 [.lit (.string text0),.lit (.int .i64 kind1),.lit (.int .i64 mode2)] (.tup [.lit (.int .i64 r.1),.lit (.int .i64 r.2.1),.lit (.int .i64 r.2.2)]):=by
  unfold Dec.Read at h0
  refine ACalls.of_swp Tryz.func16 rfl (by decide) rfl (st0:=⟨42,[(0,.lit (.string text0)),(1,.lit (.int .i64 kind1)),(2,.lit (.int .i64 mode2))],[]⟩) rfl (bwp_ok (C:=[]) ?_)
  obtain ⟨t13,et13,h1⟩:=bind_elim h0; clear h0
  conv=>whnf
  refine Gate.go ?_
  conv=>whnf
  refine CallN.by (v:=.lit (.bool t13)) (Dec.isKind_ok et13) rfl rfl ?_
  obtain ⟨t14,et14,h2⟩:=letk_elim h1; clear h1
  conv=>whnf
  refine Nm.mk ⟨t14,et14,?_⟩
  rcases t14 with _ | _
  · have h3:=bif_f h2
    clear h2
    obtain ⟨⟨t17_0,t17_1⟩,et17,h4⟩:=bind_elim h3; clear h3
    conv=>whnf
    refine Gate.go ?_
    conv=>whnf
    refine CallN.by (v:=.tup [decimal.parsed.enc t17_0,.lit (.bool t17_1)]) (Dec.parse_ok et17) rfl rfl ?_
    conv=>whnf
    refine Nm.mk ⟨[.lit (.int .i64 0),.lit (.string (⟨#[]⟩)),.lit (.string (⟨#[]⟩)),.lit (.int .i64 0)],rfl,?_⟩
    conv=>whnf
    refine Nm.mk ⟨[.lit (.int .i64 t17_0.sign),.lit (.string t17_0.word),.lit (.string t17_0.digits),.lit (.int .i64 t17_0.x)],rfl,?_⟩
    obtain ⟨t22,et22,h5⟩:=letk_elim h4; clear h4
    conv=>whnf
    refine Nm.mk ⟨t22,et22,?_⟩
    rcases t22 with _ | _
    · have h6:=bif_f h5
      clear h5
      obtain ⟨t26,et26,h7⟩:=letk_elim h6; clear h6
      conv=>whnf
      refine Nm.mk ⟨t26,et26,?_⟩
      rcases t26 with _ | _
      · have h8:=bif_f h7
        clear h7
        obtain ⟨⟨t38_0,t38_1,t38_2⟩,et38,h9⟩:=bind_elim h8; clear h8
        conv=>whnf
        refine Gate.go ?_
        conv=>whnf
        refine CallN.by (v:=.tup [.lit (.int .i64 t38_0),.lit (.int .i64 t38_1),.lit (.int .i64 t38_2)]) (Dec.round_ok et38) rfl rfl ?_
        have eh9_0:=Option.some.inj h9
        subst eh9_0
        conv=>whnf
        exact Returns.pure (r:=.tup [.lit (.int .i64 t38_0),.lit (.int .i64 t38_1),.lit (.int .i64 t38_2)]) rfl rfl rfl rfl ⟨rfl,rfl⟩
      have h8:=bif_t h7
      clear h7
      obtain ⟨t29,et29,h9⟩:=bind_elim h8; clear h8
      conv=>whnf
      refine Gate.go ?_
      conv=>whnf
      refine CallN.by (v:=.lit (.int .i64 t29)) (Dec.word_ok et29) rfl rfl ?_
      have eh9_0:=Option.some.inj h9
      subst eh9_0
      conv=>whnf
      exact Returns.pure (r:=.tup [.lit (.int .i64 t29),.lit (.int .i64 0),.lit (.int .i64 0)]) rfl rfl rfl rfl ⟨rfl,rfl⟩
    have h6:=bif_t h5
    clear h5
    have eh6_0:=Option.some.inj h6
    subst eh6_0
    conv=>whnf
    exact Returns.pure (r:=.tup [.lit (.int .i64 0),.lit (.int .i64 0),.lit (.int .i64 3)]) rfl rfl rfl rfl ⟨rfl,rfl⟩
  have h3:=bif_t h2
  clear h2
  have eh3_0:=Option.some.inj h3
  subst eh3_0
  conv=>whnf
  exact Returns.pure (r:=.tup [.lit (.int .i64 0),.lit (.int .i64 0),.lit (.int .i64 2)]) rfl rfl rfl rfl ⟨rfl,rfl⟩
noncomputable def Flt.Class (kind0:Int) (a1:Int):Option ByteArray :=
  Option.bind (Flt.two kind0 0 a1 a1) fun (t13_0,t13_1,t13_2,t13_3) =>
  letk (!t13_3) fun t20 =>
  bif t20 then
    some ⟨#[]⟩
  else
    letk (t13_1.class_ == (0:Int)) fun t24 =>
    bif t24 then
      some ⟨#[122,101,114,111]⟩
    else
      letk (t13_1.class_ == (2:Int)) fun t28 =>
      bif t28 then
        some ⟨#[105,110,102,105,110,105,116,101]⟩
      else
        letk (t13_1.class_ == (3:Int)) fun t32 =>
        bif t32 then
          some ⟨#[110,111,110,101]⟩
        else
          letk (IntKind.i64.wrap (t13_0.p - (1:Int))) fun t38 =>
          chk (0 ≤ t38) <|
          letk (IntKind.u64.wrap ((1:Int) * 2 ^ (min t38.toNat (IntKind.u64).bits))) fun t39 =>
          letk (decide (t13_1.m < t39)) fun t40 =>
          bif t40 then
            some ⟨#[108,101,97,115,116]⟩
          else
            some ⟨#[110,111,114,109,97,108]⟩
theorem Flt.Class_ok {kind0:Int} {a1:Int} {r:ByteArray} (h0:Flt.Class kind0 a1 = some r):Gives Tryz.prog 70 [.lit (.int .i64 kind0),.lit (.int .i64 a1)] (.lit (.string r)):=by
  unfold Flt.Class at h0
  refine ACalls.of_swp Tryz.func70 rfl (by decide) rfl (st0:=⟨41,[(0,.lit (.int .i64 kind0)),(1,.lit (.int .i64 a1))],[]⟩) rfl (bwp_ok (C:=[]) ?_)
  obtain ⟨⟨t13_0,t13_1,t13_2,t13_3⟩,et13,h1⟩:=bind_elim h0; clear h0
  conv=>whnf
  refine Gate.go ?_
  conv=>whnf
  refine CallN.by (v:=.tup [float.shape.enc t13_0,float.number.enc t13_1,float.number.enc t13_2,.lit (.bool t13_3)]) (Flt.two_ok et13) rfl rfl ?_
  conv=>whnf
  refine Nm.mk ⟨[.lit (.int .i64 0),.lit (.int .i64 0)],rfl,?_⟩
  conv=>whnf
  refine Nm.mk ⟨[.lit (.int .i64 0),.lit (.int .i64 0),.lit (.int .u64 0),.lit (.int .i64 0)],rfl,?_⟩
  conv=>whnf
  refine Nm.mk ⟨[.lit (.int .i64 0),.lit (.int .i64 0),.lit (.int .u64 0),.lit (.int .i64 0)],rfl,?_⟩
  conv=>whnf
  refine Nm.mk ⟨[.lit (.int .i64 t13_0.p),.lit (.int .i64 t13_0.w)],rfl,?_⟩
  conv=>whnf
  refine Nm.mk ⟨[.lit (.int .i64 t13_1.class_),.lit (.int .i64 t13_1.sign),.lit (.int .u64 t13_1.m),.lit (.int .i64 t13_1.e)],rfl,?_⟩
  conv=>whnf
  refine Nm.mk ⟨[.lit (.int .i64 t13_2.class_),.lit (.int .i64 t13_2.sign),.lit (.int .u64 t13_2.m),.lit (.int .i64 t13_2.e)],rfl,?_⟩
  obtain ⟨t20,et20,h2⟩:=letk_elim h1; clear h1
  conv=>whnf
  refine Nm.mk ⟨t20,et20,?_⟩
  rcases t20 with _ | _
  · have h3:=bif_f h2
    clear h2
    obtain ⟨t24,et24,h4⟩:=letk_elim h3; clear h3
    conv=>whnf
    refine Nm.mk ⟨t24,et24,?_⟩
    rcases t24 with _ | _
    · have h5:=bif_f h4
      clear h4
      obtain ⟨t28,et28,h6⟩:=letk_elim h5; clear h5
      conv=>whnf
      refine Nm.mk ⟨t28,et28,?_⟩
      rcases t28 with _ | _
      · have h7:=bif_f h6
        clear h6
        obtain ⟨t32,et32,h8⟩:=letk_elim h7; clear h7
        conv=>whnf
        refine Nm.mk ⟨t32,et32,?_⟩
        rcases t32 with _ | _
        · have h9:=bif_f h8
          clear h8
          conv=>whnf
          refine DrawB.ofG [none,none,none,none,none,none,none,none] Tryz_mixed (by kernel_rfl) (by kernel_rfl) ?_
          conv=>whnf
          refine DNodeB.of (.ptr 1 2) ?_ ?_
          · conv=>whnf
            rfl
          conv=>whnf
          refine DNodeB.of (.lit (.int .u64 t13_1.m)) ?_ ?_
          · conv=>whnf
            rfl
          conv=>whnf
          refine DNodeB.of (.ptr 0 0) ?_ ?_
          · conv=>whnf
            rfl
          conv=>whnf
          refine DNodeB.of (.lit (.int .i64 t13_0.p)) ?_ ?_
          · conv=>whnf
            rfl
          obtain ⟨t38,et38,h10⟩:=letk_elim h9; clear h9
          conv=>whnf
          refine DNodeB.of (.lit (.int .i64 t38)) ?_ ?_
          · conv=>whnf
            refine Nm.mk ⟨t38,et38,?_⟩
            conv=>whnf
            rfl
          obtain ⟨ch11,h11⟩:=chk_elim h10; clear h10
          obtain ⟨t39,et39,h12⟩:=letk_elim h11; clear h11
          conv=>whnf
          refine DNodeB.of (.lit (.int .u64 t39)) ?_ ?_
          · conv=>whnf
            refine Side.mk ch11 ?_
            conv=>whnf
            refine Nm.mk ⟨t39,et39,?_⟩
            conv=>whnf
            rfl
          obtain ⟨t40,et40,h13⟩:=letk_elim h12; clear h12
          conv=>whnf
          refine DNodeB.of (.lit (.bool t40)) ?_ ?_
          · conv=>whnf
            refine Nm.mk ⟨t40,et40,?_⟩
            conv=>whnf
            rfl
          conv=>whnf
          refine DNodeB.of (.lit (.bool t40)) ?_ ?_
          · conv=>whnf
            rfl
          rcases t40 with _ | _
          · have h14:=bif_f h13
            clear h13
            have eh14_0:=Option.some.inj h14
            subst eh14_0
            conv=>whnf
            exact Returns.pure (r:=.lit (.string (⟨#[110,111,114,109,97,108]⟩))) rfl rfl rfl rfl ⟨rfl,rfl⟩
          have h14:=bif_t h13
          clear h13
          have eh14_0:=Option.some.inj h14
          subst eh14_0
          conv=>whnf
          exact Returns.pure (r:=.lit (.string (⟨#[108,101,97,115,116]⟩))) rfl rfl rfl rfl ⟨rfl,rfl⟩
        have h9:=bif_t h8
        clear h8
        have eh9_0:=Option.some.inj h9
        subst eh9_0
        conv=>whnf
        exact Returns.pure (r:=.lit (.string (⟨#[110,111,110,101]⟩))) rfl rfl rfl rfl ⟨rfl,rfl⟩
      have h7:=bif_t h6
      clear h6
      have eh7_0:=Option.some.inj h7
      subst eh7_0
      conv=>whnf
      exact Returns.pure (r:=.lit (.string (⟨#[105,110,102,105,110,105,116,101]⟩))) rfl rfl rfl rfl ⟨rfl,rfl⟩
    have h5:=bif_t h4
    clear h4
    have eh5_0:=Option.some.inj h5
    subst eh5_0
    conv=>whnf
    exact Returns.pure (r:=.lit (.string (⟨#[122,101,114,111]⟩))) rfl rfl rfl rfl ⟨rfl,rfl⟩
  have h3:=bif_t h2
  clear h2
  have eh3_0:=Option.some.inj h3
  subst eh3_0
  conv=>whnf
  exact Returns.pure (r:=.lit (.string (⟨#[]⟩))) rfl rfl rfl rfl ⟨rfl,rfl⟩
noncomputable def Flt.shape.place (s0:float.shape) (a1:Int):Option Int :=
  letk (IntKind.u64.wrap a1) fun t7 =>
  letk (IntKind.i64.wrap (s0.p + s0.w)) fun t12 =>
  letk (IntKind.i64.wrap (t12 - (1:Int))) fun t13 =>
  chk (0 ≤ t13) <|
  letk (IntKind.u64.wrap ((1:Int) * 2 ^ (min t13.toNat (IntKind.u64).bits))) fun t14 =>
  letk (IntKind.u64.wrap (t14 - (1:Int))) fun t15 =>
  letk (IntKind.u64.wrap (BitVec.ofInt (IntKind.u64).bits t7 &&& BitVec.ofInt (IntKind.u64).bits t15).toNat) fun t16 =>
  letk (IntKind.i64.wrap t16) fun t17 =>
  letk (IntKind.u64.wrap a1) fun t19 =>
  letk (IntKind.i64.wrap (s0.p + s0.w)) fun t24 =>
  letk (IntKind.i64.wrap (t24 - (1:Int))) fun t25 =>
  chk (0 ≤ t25) <|
  letk ((IntKind.u64,t19.fdiv (2 ^ (min t25.toNat (IntKind.u64).bits))).2) fun t26 =>
  letk (IntKind.u64.wrap (BitVec.ofInt (IntKind.u64).bits t26 &&& BitVec.ofInt (IntKind.u64).bits (1:Int)).toNat) fun t27 =>
  letk (t27 == (1:Int)) fun t28 =>
  bif t28 then
    letk (IntKind.i64.wrap (0 - t17)) fun t30 =>
    some t30
  else
    some t17
theorem Flt.shape.place_ok {s0:float.shape} {a1:Int} {r:Int} (h0:Flt.shape.place s0 a1 = some r):Gives Tryz.prog 136 [float.shape.enc s0,.lit (.int .i64 a1)] (.lit (.int .i64 r)):=by
  unfold Flt.shape.place at h0
  refine ACalls.of_swp Tryz.func136 rfl (by decide) rfl (st0:=⟨32,[(0,float.shape.enc s0),(1,.lit (.int .i64 a1))],[]⟩) rfl (bwp_ok (C:=[]) ?_)
  conv=>whnf
  refine Nm.mk ⟨[.lit (.int .i64 s0.p),.lit (.int .i64 s0.w)],rfl,?_⟩
  obtain ⟨t7,et7,h1⟩:=letk_elim h0; clear h0
  conv=>whnf
  refine Nm.mk ⟨t7,et7,?_⟩
  obtain ⟨t12,et12,h2⟩:=letk_elim h1; clear h1
  conv=>whnf
  refine Nm.mk ⟨t12,et12,?_⟩
  obtain ⟨t13,et13,h3⟩:=letk_elim h2; clear h2
  conv=>whnf
  refine Nm.mk ⟨t13,et13,?_⟩
  obtain ⟨ch4,h4⟩:=chk_elim h3; clear h3
  obtain ⟨t14,et14,h5⟩:=letk_elim h4; clear h4
  conv=>whnf
  refine Side.mk ch4 ?_
  conv=>whnf
  refine Nm.mk ⟨t14,et14,?_⟩
  obtain ⟨t15,et15,h6⟩:=letk_elim h5; clear h5
  conv=>whnf
  refine Nm.mk ⟨t15,et15,?_⟩
  obtain ⟨t16,et16,h7⟩:=letk_elim h6; clear h6
  conv=>whnf
  refine Nm.mk ⟨t16,et16,?_⟩
  obtain ⟨t17,et17,h8⟩:=letk_elim h7; clear h7
  conv=>whnf
  refine Nm.mk ⟨t17,et17,?_⟩
  obtain ⟨t19,et19,h9⟩:=letk_elim h8; clear h8
  conv=>whnf
  refine Nm.mk ⟨t19,et19,?_⟩
  obtain ⟨t24,et24,h10⟩:=letk_elim h9; clear h9
  conv=>whnf
  refine Nm.mk ⟨t24,et24,?_⟩
  obtain ⟨t25,et25,h11⟩:=letk_elim h10; clear h10
  conv=>whnf
  refine Nm.mk ⟨t25,et25,?_⟩
  obtain ⟨ch12,h12⟩:=chk_elim h11; clear h11
  obtain ⟨t26,et26,h13⟩:=letk_elim h12; clear h12
  conv=>whnf
  refine Side.mk ch12 ?_
  conv=>whnf
  refine Nm.mk ⟨t26,et26,?_⟩
  obtain ⟨t27,et27,h14⟩:=letk_elim h13; clear h13
  conv=>whnf
  refine Nm.mk ⟨t27,et27,?_⟩
  obtain ⟨t28,et28,h15⟩:=letk_elim h14; clear h14
  conv=>whnf
  refine Nm.mk ⟨t28,et28,?_⟩
  rcases t28 with _ | _
  · have h16:=bif_f h15
    clear h15
    have eh16_0:=Option.some.inj h16
    subst eh16_0
    conv=>whnf
    exact Returns.pure (r:=.lit (.int .i64 t17)) rfl rfl rfl rfl ⟨rfl,rfl⟩
  have h16:=bif_t h15
  clear h15
  obtain ⟨t30,et30,h17⟩:=letk_elim h16; clear h16
  conv=>whnf
  refine Nm.mk ⟨t30,et30,?_⟩
  have eh17_0:=Option.some.inj h17
  subst eh17_0
  conv=>whnf
  exact Returns.pure (r:=.lit (.int .i64 t30)) rfl rfl rfl rfl ⟨rfl,rfl⟩
noncomputable def Flt.Compare.j0 (a1:Int) (b2:Int) (t18_0:float.shape):Option (Int × Int) :=
  Option.bind (Flt.shape.place (⟨t18_0.p,t18_0.w⟩:float.shape) a1) fun t46 =>
  Option.bind (Flt.shape.place (⟨t18_0.p,t18_0.w⟩:float.shape) b2) fun t49 =>
  letk (decide (t46 < t49)) fun t53 =>
  bif t53 then
    some ((-1),0)
  else
    letk (decide (t46 > t49)) fun t57 =>
    bif t57 then
      some (1,0)
    else
      some (0,0)
noncomputable def Flt.Compare.j1 (a1:Int) (b2:Int) (t18_0:float.shape) (t18_1:float.number) (t18_2:float.number) (t26:Bool):Option (Int × Int) :=
  bif t26 then
    some (2,0)
  else
    letk (t18_1.class_ == (0:Int)) fun t38 =>
    bif t38 then
      letk (t18_2.class_ == (0:Int)) fun t42 =>
      bif t42 then
        some (0,0)
      else
        Flt.Compare.j0 a1 b2 t18_0
    else
      Flt.Compare.j0 a1 b2 t18_0
noncomputable def Flt.Compare (kind0:Int) (a1:Int) (b2:Int):Option (Int × Int) :=
  Option.bind (Flt.two kind0 0 a1 b2) fun (t18_0,t18_1,t18_2,t18_3) =>
  letk (!t18_3) fun t25 =>
  bif t25 then
    some (0,2)
  else
    letk (t18_1.class_ == (3:Int)) fun t29 =>
    bif t29 then
      Flt.Compare.j1 a1 b2 t18_0 t18_1 t18_2 true
    else
      letk (t18_2.class_ == (3:Int)) fun t33 =>
      Flt.Compare.j1 a1 b2 t18_0 t18_1 t18_2 t33
theorem Flt.Compare_ok {kind0:Int} {a1:Int} {b2:Int} {r:Int × Int} (h0:Flt.Compare kind0 a1 b2 = some r):Gives Tryz.prog 94 [.lit (.int .i64 kind0),.lit (.int .i64 a1),.lit (.int .i64 b2)] (.tup [.lit (.int .i64 r.1),.lit (.int .i64 r.2)]):=by
  unfold Flt.Compare at h0
  refine ACalls.of_swp Tryz.func94 rfl (by decide) rfl (st0:=⟨58,[(0,.lit (.int .i64 kind0)),(1,.lit (.int .i64 a1)),(2,.lit (.int .i64 b2))],[]⟩) rfl (bwp_ok (C:=[(0,8),(36,11)]) ?_)
  obtain ⟨⟨t18_0,t18_1,t18_2,t18_3⟩,et18,h1⟩:=bind_elim h0; clear h0
  conv=>whnf
  refine Gate.go ?_
  conv=>whnf
  refine CallN.by (v:=.tup [float.shape.enc t18_0,float.number.enc t18_1,float.number.enc t18_2,.lit (.bool t18_3)]) (Flt.two_ok et18) rfl rfl ?_
  conv=>whnf
  refine Nm.mk ⟨[.lit (.int .i64 0),.lit (.int .i64 0)],rfl,?_⟩
  conv=>whnf
  refine Nm.mk ⟨[.lit (.int .i64 0),.lit (.int .i64 0),.lit (.int .u64 0),.lit (.int .i64 0)],rfl,?_⟩
  conv=>whnf
  refine Nm.mk ⟨[.lit (.int .i64 0),.lit (.int .i64 0),.lit (.int .u64 0),.lit (.int .i64 0)],rfl,?_⟩
  conv=>whnf
  refine Nm.mk ⟨[.lit (.int .i64 t18_0.p),.lit (.int .i64 t18_0.w)],rfl,?_⟩
  conv=>whnf
  refine Nm.mk ⟨[.lit (.int .i64 t18_1.class_),.lit (.int .i64 t18_1.sign),.lit (.int .u64 t18_1.m),.lit (.int .i64 t18_1.e)],rfl,?_⟩
  conv=>whnf
  refine Nm.mk ⟨[.lit (.int .i64 t18_2.class_),.lit (.int .i64 t18_2.sign),.lit (.int .u64 t18_2.m),.lit (.int .i64 t18_2.e)],rfl,?_⟩
  conv=>whnf
  refine CutN.of (fun s=>Flt.Compare.j0 a1 b2 t18_0 = some r ∧ s = (⟨58,[(1,.lit (.int .i64 a1)),(2,.lit (.int .i64 b2)),(8,.ptr 0 0)],[.box [.lit (.int .i64 t18_0.p),.lit (.int .i64 t18_0.w)]]⟩:St)) ?_ ?_
  · obtain ⟨t25,et25,h2⟩:=letk_elim h1; clear h1
    conv=>whnf
    refine Nm.mk ⟨t25,et25,?_⟩
    rcases t25 with _ | _
    · have h3:=bif_f h2
      clear h2
      conv=>whnf
      refine CutN.of (fun s=>∃ (t26:Bool),Flt.Compare.j1 a1 b2 t18_0 t18_1 t18_2 t26 = some r ∧ s = (⟨58,[(1,.lit (.int .i64 a1)),(2,.lit (.int .i64 b2)),(8,.ptr 0 0),(9,.ptr 1 0),(10,.ptr 2 0),(26,.lit (.bool t26))],[.box [.lit (.int .i64 t18_0.p),.lit (.int .i64 t18_0.w)],.box [.lit (.int .i64 t18_1.class_),.lit (.int .i64 t18_1.sign),.lit (.int .u64 t18_1.m),.lit (.int .i64 t18_1.e)],.box [.lit (.int .i64 t18_2.class_),.lit (.int .i64 t18_2.sign),.lit (.int .u64 t18_2.m),.lit (.int .i64 t18_2.e)]]⟩:St)) ?_ ?_
      · obtain ⟨t29,et29,h4⟩:=letk_elim h3; clear h3
        conv=>whnf
        refine Nm.mk ⟨t29,et29,?_⟩
        rcases t29 with _ | _
        · have h5:=bif_f h4
          clear h4
          obtain ⟨t33,et33,h6⟩:=letk_elim h5; clear h5
          conv=>whnf
          refine Nm.mk ⟨t33,et33,?_⟩
          exact BackS.by ⟨_,h6,rfl⟩ (Sees.of (Weak.objs (keep:=[0,1,2]) (frz:=[]) (m:=0) rfl (by decide) rfl rfl ⟨⟨_,rfl,WO.boxs ⟨.s,.s,trivial⟩⟩,⟨⟨_,rfl,WO.boxs ⟨.s,.s,.s,.s,trivial⟩⟩,⟨⟨_,rfl,WO.boxs ⟨.s,.s,.s,.s,trivial⟩⟩,⟨rfl,fun _ h=>by cases h⟩⟩⟩⟩ ⟨.s,.s,(.ptr _ _ 0 rfl),(.ptr _ _ 1 rfl),(.ptr _ _ 2 rfl),.s,trivial⟩))
        have h5:=bif_t h4
        clear h4
        exact BackS.by ⟨_,h5,rfl⟩ (Sees.of (Weak.objs (keep:=[0,1,2]) (frz:=[]) (m:=0) rfl (by decide) rfl rfl ⟨⟨_,rfl,WO.boxs ⟨.s,.s,trivial⟩⟩,⟨⟨_,rfl,WO.boxs ⟨.s,.s,.s,.s,trivial⟩⟩,⟨⟨_,rfl,WO.boxs ⟨.s,.s,.s,.s,trivial⟩⟩,⟨rfl,fun _ h=>by cases h⟩⟩⟩⟩ ⟨.s,.s,(.ptr _ _ 0 rfl),(.ptr _ _ 1 rfl),(.ptr _ _ 2 rfl),.s,trivial⟩))
      clear h3
      rintro s ⟨t26,hj0,rfl⟩
      unfold Flt.Compare.j1 at hj0
      rcases t26 with _ | _
      · have hj1:=bif_f hj0
        clear hj0
        obtain ⟨t38,et38,hj2⟩:=letk_elim hj1; clear hj1
        conv=>whnf
        refine Nm.mk ⟨t38,et38,?_⟩
        rcases t38 with _ | _
        · have hj3:=bif_f hj2
          clear hj2
          exact BackS.by ⟨hj3,rfl⟩ (Sees.of (Weak.objs (keep:=[0]) (frz:=[]) (m:=0) rfl (by decide) rfl rfl ⟨⟨_,rfl,WO.boxs ⟨.s,.s,trivial⟩⟩,⟨rfl,fun _ h=>by cases h⟩⟩ ⟨.s,.s,(.ptr _ _ 0 rfl),trivial⟩))
        have hj3:=bif_t hj2
        clear hj2
        obtain ⟨t42,et42,hj4⟩:=letk_elim hj3; clear hj3
        conv=>whnf
        refine Nm.mk ⟨t42,et42,?_⟩
        rcases t42 with _ | _
        · have hj5:=bif_f hj4
          clear hj4
          exact BackS.by ⟨hj5,rfl⟩ (Sees.of (Weak.objs (keep:=[0]) (frz:=[]) (m:=0) rfl (by decide) rfl rfl ⟨⟨_,rfl,WO.boxs ⟨.s,.s,trivial⟩⟩,⟨rfl,fun _ h=>by cases h⟩⟩ ⟨.s,.s,(.ptr _ _ 0 rfl),trivial⟩))
        have hj5:=bif_t hj4
        clear hj4
        have ehj5_0:=Option.some.inj hj5
        subst ehj5_0
        conv=>whnf
        exact Returns.pure (r:=.tup [.lit (.int .i64 0),.lit (.int .i64 0)]) rfl rfl rfl rfl ⟨rfl,rfl⟩
      have hj1:=bif_t hj0
      clear hj0
      have ehj1_0:=Option.some.inj hj1
      subst ehj1_0
      conv=>whnf
      exact Returns.pure (r:=.tup [.lit (.int .i64 2),.lit (.int .i64 0)]) rfl rfl rfl rfl ⟨rfl,rfl⟩
    have h3:=bif_t h2
    clear h2
    have eh3_0:=Option.some.inj h3
    subst eh3_0
    conv=>whnf
    exact Returns.pure (r:=.tup [.lit (.int .i64 0),.lit (.int .i64 2)]) rfl rfl rfl rfl ⟨rfl,rfl⟩
  clear h1
  rintro s ⟨hj0,rfl⟩
  unfold Flt.Compare.j0 at hj0
  conv=>whnf
  refine DrawB.ofG [none,none,none,none,none,none,none,none] Tryz_mixed (by kernel_rfl) (by kernel_rfl) ?_
  conv=>whnf
  refine DNodeB.of (.agg [.lit (.int .i64 t18_0.p),.lit (.int .i64 t18_0.w)]) ?_ ?_
  · conv=>whnf
    rfl
  conv=>whnf
  refine DNodeB.of (.lit (.int .i64 a1)) ?_ ?_
  · conv=>whnf
    rfl
  obtain ⟨t46,et46,hj1⟩:=bind_elim hj0; clear hj0
  conv=>whnf
  refine DNodeB.of (.lit (.int .i64 t46)) ?_ ?_
  · conv=>whnf
    refine CallN.by (v:=.lit (.int .i64 t46)) (Flt.shape.place_ok et46) rfl rfl ?_
    conv=>whnf
    rfl
  conv=>whnf
  refine DNodeB.of (.agg [.lit (.int .i64 t18_0.p),.lit (.int .i64 t18_0.w)]) ?_ ?_
  · conv=>whnf
    rfl
  conv=>whnf
  refine DNodeB.of (.lit (.int .i64 b2)) ?_ ?_
  · conv=>whnf
    rfl
  obtain ⟨t49,et49,hj2⟩:=bind_elim hj1; clear hj1
  conv=>whnf
  refine DNodeB.of (.lit (.int .i64 t49)) ?_ ?_
  · conv=>whnf
    refine CallN.by (v:=.lit (.int .i64 t49)) (Flt.shape.place_ok et49) rfl rfl ?_
    conv=>whnf
    rfl
  conv=>whnf
  refine DNodeB.of (.lit (.int .i64 t46)) ?_ ?_
  · conv=>whnf
    rfl
  conv=>whnf
  refine DNodeB.of (.lit (.int .i64 t49)) ?_ ?_
  · conv=>whnf
    rfl
  obtain ⟨t53,et53,hj3⟩:=letk_elim hj2; clear hj2
  conv=>whnf
  refine Nm.mk ⟨t53,et53,?_⟩
  rcases t53 with _ | _
  · have hj4:=bif_f hj3
    clear hj3
    obtain ⟨t57,et57,hj5⟩:=letk_elim hj4; clear hj4
    conv=>whnf
    refine Nm.mk ⟨t57,et57,?_⟩
    rcases t57 with _ | _
    · have hj6:=bif_f hj5
      clear hj5
      have ehj6_0:=Option.some.inj hj6
      subst ehj6_0
      conv=>whnf
      exact Returns.pure (r:=.tup [.lit (.int .i64 0),.lit (.int .i64 0)]) rfl rfl rfl rfl ⟨rfl,rfl⟩
    have hj6:=bif_t hj5
    clear hj5
    have ehj6_0:=Option.some.inj hj6
    subst ehj6_0
    conv=>whnf
    exact Returns.pure (r:=.tup [.lit (.int .i64 1),.lit (.int .i64 0)]) rfl rfl rfl rfl ⟨rfl,rfl⟩
  have hj4:=bif_t hj3
  clear hj3
  have ehj4_0:=Option.some.inj hj4
  subst ehj4_0
  conv=>whnf
  exact Returns.pure (r:=.tup [.lit (.int .i64 ((-1))),.lit (.int .i64 0)]) rfl rfl rfl rfl ⟨rfl,rfl⟩
noncomputable def Dec.special (kind0:Int) (a1:Int):Option (ByteArray × Bool) :=
  Option.bind (Flt.Class kind0 a1) fun t10 =>
  letk (t10.toList == (⟨#[110,111,110,101]⟩:ByteArray).toList) fun t12 =>
  bif t12 then
    some (⟨#[110,97,110]⟩,true)
  else
    letk (t10.toList == (⟨#[105,110,102,105,110,105,116,101]⟩:ByteArray).toList) fun t14 =>
    bif t14 then
      Option.bind (Flt.Compare kind0 a1 0) fun (t18_0,t18_1) =>
      letk (decide (t18_0 < (0:Int))) fun t22 =>
      bif t22 then
        some (⟨#[45,105,110,102]⟩,true)
      else
        some (⟨#[105,110,102]⟩,true)
    else
      some (⟨#[]⟩,false)
theorem Dec.special_ok {kind0:Int} {a1:Int} {r:ByteArray × Bool} (h0:Dec.special kind0 a1 = some r):Gives Tryz.prog 41 [.lit (.int .i64 kind0),.lit (.int .i64 a1)] (.tup [.lit (.string r.1),.lit (.bool r.2)]):=by
  unfold Dec.special at h0
  refine ACalls.of_swp Tryz.func41 rfl (by decide) rfl (st0:=⟨23,[(0,.lit (.int .i64 kind0)),(1,.lit (.int .i64 a1))],[]⟩) rfl (bwp_ok (C:=[]) ?_)
  obtain ⟨t10,et10,h1⟩:=bind_elim h0; clear h0
  conv=>whnf
  refine Gate.go ?_
  conv=>whnf
  refine CallN.by (v:=.lit (.string t10)) (Flt.Class_ok et10) rfl rfl ?_
  obtain ⟨t12,et12,h2⟩:=letk_elim h1; clear h1
  conv=>whnf
  refine Nm.mk ⟨t12,et12,?_⟩
  rcases t12 with _ | _
  · have h3:=bif_f h2
    clear h2
    obtain ⟨t14,et14,h4⟩:=letk_elim h3; clear h3
    conv=>whnf
    refine Nm.mk ⟨t14,et14,?_⟩
    rcases t14 with _ | _
    · have h5:=bif_f h4
      clear h4
      have eh5_0:=Option.some.inj h5
      subst eh5_0
      conv=>whnf
      exact Returns.pure (r:=.tup [.lit (.string (⟨#[]⟩)),.lit (.bool false)]) rfl rfl rfl rfl ⟨rfl,rfl⟩
    have h5:=bif_t h4
    clear h4
    obtain ⟨⟨t18_0,t18_1⟩,et18,h6⟩:=bind_elim h5; clear h5
    conv=>whnf
    refine Gate.go ?_
    conv=>whnf
    refine CallN.by (v:=.tup [.lit (.int .i64 t18_0),.lit (.int .i64 t18_1)]) (Flt.Compare_ok et18) rfl rfl ?_
    obtain ⟨t22,et22,h7⟩:=letk_elim h6; clear h6
    conv=>whnf
    refine Nm.mk ⟨t22,et22,?_⟩
    rcases t22 with _ | _
    · have h8:=bif_f h7
      clear h7
      have eh8_0:=Option.some.inj h8
      subst eh8_0
      conv=>whnf
      exact Returns.pure (r:=.tup [.lit (.string (⟨#[105,110,102]⟩)),.lit (.bool true)]) rfl rfl rfl rfl ⟨rfl,rfl⟩
    have h8:=bif_t h7
    clear h7
    have eh8_0:=Option.some.inj h8
    subst eh8_0
    conv=>whnf
    exact Returns.pure (r:=.tup [.lit (.string (⟨#[45,105,110,102]⟩)),.lit (.bool true)]) rfl rfl rfl rfl ⟨rfl,rfl⟩
  have h3:=bif_t h2
  clear h2
  have eh3_0:=Option.some.inj h3
  subst eh3_0
  conv=>whnf
  exact Returns.pure (r:=.tup [.lit (.string (⟨#[110,97,110]⟩)),.lit (.bool true)]) rfl rfl rfl rfl ⟨rfl,rfl⟩
noncomputable def Dec.isFinite (kind0:Int) (a1:Int):Option Bool :=
  Option.bind (Flt.Class kind0 a1) fun t8 =>
  letk (t8.toList == (⟨#[108,101,97,115,116]⟩:ByteArray).toList) fun t10 =>
  bif t10 then
    some true
  else
    letk (t8.toList == (⟨#[110,111,114,109,97,108]⟩:ByteArray).toList) fun t13 =>
    some t13
theorem Dec.isFinite_ok {kind0:Int} {a1:Int} {r:Bool} (h0:Dec.isFinite kind0 a1 = some r):Gives Tryz.prog 30 [.lit (.int .i64 kind0),.lit (.int .i64 a1)] (.lit (.bool r)):=by
  unfold Dec.isFinite at h0
  refine ACalls.of_swp Tryz.func30 rfl (by decide) rfl (st0:=⟨15,[(0,.lit (.int .i64 kind0)),(1,.lit (.int .i64 a1))],[]⟩) rfl (bwp_ok (C:=[]) ?_)
  obtain ⟨t8,et8,h1⟩:=bind_elim h0; clear h0
  conv=>whnf
  refine Gate.go ?_
  conv=>whnf
  refine CallN.by (v:=.lit (.string t8)) (Flt.Class_ok et8) rfl rfl ?_
  obtain ⟨t10,et10,h2⟩:=letk_elim h1; clear h1
  conv=>whnf
  refine Nm.mk ⟨t10,et10,?_⟩
  rcases t10 with _ | _
  · have h3:=bif_f h2
    clear h2
    obtain ⟨t13,et13,h4⟩:=letk_elim h3; clear h3
    conv=>whnf
    refine Nm.mk ⟨t13,et13,?_⟩
    have eh4_0:=Option.some.inj h4
    subst eh4_0
    conv=>whnf
    exact Returns.pure (r:=.lit (.bool t13)) rfl rfl rfl rfl ⟨rfl,rfl⟩
  have h3:=bif_t h2
  clear h2
  have eh3_0:=Option.some.inj h3
  subst eh3_0
  conv=>whnf
  exact Returns.pure (r:=.lit (.bool true)) rfl rfl rfl rfl ⟨rfl,rfl⟩
end Go.Q
