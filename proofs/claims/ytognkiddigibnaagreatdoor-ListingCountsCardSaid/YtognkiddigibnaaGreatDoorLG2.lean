import Derived.Test.YtognkiddigibnaaGreatDoorLG1
import Derived.Test.YtognkiddigibnaaGreatDoorFX
import Derived.Test.YtognkiddigibnaaGreatDoorFY
import Derived.Test.YtognkiddigibnaaGreatDoorProg
namespace Go.Q
open Go Go.Proofs
set_option maxRecDepth 10000
set_option maxHeartbeats 2000000
noncomputable def Lst.Input.j2 (was1:List api.Value) (out6_3:List api.Value) (r7_3:ByteArray) (at8_2:Int) (x11_0_2:Int) (x11_1_2:ByteArray):Option (((List api.Value) × ByteArray × Int × Int × ByteArray) ⊕ (((List api.Value) × ByteArray × Int) ⊕ ((List api.Value) × Int))) :=
  letk (IntKind.i64.wrap (x11_0_2 - (1:Int))) fun t59 =>
  some (.inl (out6_3,r7_3,at8_2,t59,x11_1_2))
noncomputable def Lst.Input.j1 (was1:List api.Value) (at8_1:Int) (out6_2:List api.Value) (r7_2:ByteArray) (x11_0_1:Int) (x11_1_1:ByteArray):Option (((List api.Value) × ByteArray × Int × Int × ByteArray) ⊕ (((List api.Value) × ByteArray × Int) ⊕ ((List api.Value) × Int))) :=
  letk (!(x11_1_1.toList == (⟨#[]⟩:ByteArray).toList)) fun t63 =>
  bif t63 then
    chk (0 ≤ at8_1) <|
    Option.bind (was1[at8_1.toNat]?) fun t71 =>
    Option.bind (Lst.value x11_1_1 t71.Kind) fun (t74_0,t74_1) =>
    chk (0 ≤ at8_1 ∧ at8_1 < (out6_2.length:Int)) <|
    letk (0 + at8_1.toNat) fun t77 =>
    Option.bind (out6_2[t77]?) fun old =>
    letk (out6_2.set t77 ((⟨t74_0.Kind,t74_0.N⟩:api.Value))) fun l =>
    letk (t74_1 != (0:Int)) fun t79 =>
    bif t79 then
      some (.inr (.inr ([],t74_1)))
    else
      letk (IntKind.i64.wrap (at8_1 + (1:Int))) fun t82_1 =>
      Lst.Input.j2 was1 l r7_2 t82_1 x11_0_1 x11_1_1
  else
    letk (IntKind.i64.wrap (at8_1 + (1:Int))) fun t82 =>
    Lst.Input.j2 was1 out6_2 r7_2 t82 x11_0_1 x11_1_1
noncomputable def Lst.Input.s1 (was1:List api.Value) (out6_1:List api.Value) (r7_1:ByteArray) (at8_1:Int) (x11_0:Int) (x11_1:ByteArray):Option (((List api.Value) × ByteArray × Int × Int × ByteArray) ⊕ (((List api.Value) × ByteArray × Int) ⊕ ((List api.Value) × Int))) :=
  letk (decide (x11_0 > (0:Int))) fun t50 =>
  bif t50 then
    letk ((out6_1.length:Int)) fun t54 =>
    letk (decide (at8_1 < t54)) fun t55 =>
    bif t55 then
      Lst.Input.j1 was1 at8_1 out6_1 r7_1 x11_0 x11_1
    else
      some (.inr (.inl (out6_1,r7_1,at8_1)))
  else
    some (.inr (.inl (out6_1,r7_1,at8_1)))
noncomputable def Lst.Input.l1 (was1:List api.Value) (out6_1:List api.Value) (r7_1:ByteArray) (at8_1:Int) (x11_0:Int) (x11_1:ByteArray):Option (((List api.Value) × ByteArray × Int) ⊕ ((List api.Value) × Int)):=loopO (fun v:(List api.Value) × ByteArray × Int × Int × ByteArray=>Lst.Input.s1 was1 v.1 v.2.1 v.2.2.1 v.2.2.2.1 v.2.2.2.2) (out6_1,r7_1,at8_1,x11_0,x11_1)
noncomputable def Lst.Input.s0 (was1:List api.Value) (out6:List api.Value) (r7:ByteArray) (at8:Int):Option (((List api.Value) × ByteArray × Int) ⊕ ((List api.Value) × Int)) :=
  letk ((out6.length:Int)) fun t28 =>
  letk (decide (at8 < t28)) fun t29 =>
  bif t29 then
    Option.bind (Lst.reader.ended r7) fun (o_0,t32_0,t32_1) =>
    bif t32_1 then
      some (.inr (out6,0))
    else
      bif t32_0 then
        some (.inr ([],6))
      else
        Option.bind (Lst.reader.next_ o_0) fun (o_0_1,t42_0,t42_1) =>
        letk (t42_1 != (0:Int)) fun t46 =>
        bif t46 then
          some (.inr ([],t42_1))
        else
          Lst.Input.l1 was1 out6 o_0_1 at8 t42_0.times t42_0.text
  else
    some (.inr (out6,0))
noncomputable def Lst.Input.l0 (was1:List api.Value) (out6:List api.Value) (r7:ByteArray) (at8:Int):Option ((List api.Value) × Int):=loopO (fun v:(List api.Value) × ByteArray × Int=>Lst.Input.s0 was1 v.1 v.2.1 v.2.2) (out6,r7,at8)
noncomputable def Lst.Input.j0 (text0:ByteArray) (was1:List api.Value):Option ((List api.Value) × Int) :=
  Option.bind (Slcs.CloneV was1) fun t22 =>
  Lst.Input.l0 was1 t22 text0 0
noncomputable def Lst.Input (text0:ByteArray) (was1:List api.Value):Option ((List api.Value) × Int) :=
  Option.bind (Lst.areValues was1) fun t14 =>
  letk (!t14) fun t15 =>
  bif t15 then
    some ([],2)
  else
    Option.bind (Lst.isText text0) fun t18 =>
    letk (!t18) fun t19 =>
    bif t19 then
      some ([],2)
    else
      Lst.Input.j0 text0 was1
theorem Lst.Input_ok {text0:ByteArray} {was1:List api.Value} {r:(List api.Value) × Int} (h0:Lst.Input text0 was1 = some r):Gives Tryz.prog 13 [.lit (.string text0),.vs 2 (was1.map (api.Value.enc))] (.tup [.vs 2 (r.1.map (api.Value.enc)),.lit (.int .i64 r.2)]):=by
  unfold Lst.Input at h0
  refine ACalls.of_swp Tryz.func13 rfl (by decide) rfl (st0:=⟨84,[(0,.lit (.string text0)),(1,.vs 2 (was1.map (api.Value.enc)))],[]⟩) rfl (bwp_ok (C:=[(0,3),(1,4),(0,16)]) ?_)
  conv=>whnf
  refine CutN.of (fun s=>Lst.Input.j0 text0 was1 = some r ∧ s = (⟨84,[(0,.lit (.string text0)),(1,.vs 2 (was1.map (api.Value.enc)))],[]⟩:St)) ?_ ?_
  · obtain ⟨t14,et14,h1⟩:=bind_elim h0; clear h0
    conv=>whnf
    refine Gate.go ?_
    conv=>whnf
    refine CallN.by (v:=.lit (.bool t14)) (Lst.areValues_ok et14) rfl rfl ?_
    obtain ⟨t15,et15,h2⟩:=letk_elim h1; clear h1
    conv=>whnf
    refine Nm.mk ⟨t15,et15,?_⟩
    rcases t15 with _ | _
    · have h3:=bif_f h2
      clear h2
      obtain ⟨t18,et18,h4⟩:=bind_elim h3; clear h3
      conv=>whnf
      refine Gate.go ?_
      conv=>whnf
      refine CallN.by (v:=.lit (.bool t18)) (Lst.isText_ok et18) rfl rfl ?_
      obtain ⟨t19,et19,h5⟩:=letk_elim h4; clear h4
      conv=>whnf
      refine Nm.mk ⟨t19,et19,?_⟩
      rcases t19 with _ | _
      · have h6:=bif_f h5
        clear h5
        exact BackS.by ⟨h6,rfl⟩ (Sees.e ⟨.s,.s,trivial⟩)
      have h6:=bif_t h5
      clear h5
      have eh6_0:=Option.some.inj h6
      subst eh6_0
      conv=>whnf
      exact Returns.frozen (r:=.tup [.vs 2 (([]).map (api.Value.enc)),.lit (.int .i64 2)]) [] rfl rfl (WV.tups ⟨(.nilsVs _),.s,trivial⟩) ⟨rfl,rfl⟩
    have h3:=bif_t h2
    clear h2
    have eh3_0:=Option.some.inj h3
    subst eh3_0
    conv=>whnf
    exact Returns.frozen (r:=.tup [.vs 2 (([]).map (api.Value.enc)),.lit (.int .i64 2)]) [] rfl rfl (WV.tups ⟨(.nilsVs _),.s,trivial⟩) ⟨rfl,rfl⟩
  clear h0
  rintro s ⟨hj0,rfl⟩
  unfold Lst.Input.j0 at hj0
  obtain ⟨t22,et22,hj1⟩:=bind_elim hj0; clear hj0
  conv=>whnf
  refine Gate.go ?_
  conv=>whnf
  refine CallN.fresh (s:=2) (es:=t22.map (api.Value.enc)) (Slcs.CloneV_ok et22) rfl ?_
  conv=>whnf
  refine Gate.go ?_
  conv=>whnf
  refine Nm.mk ⟨[.lit (.string text0)],rfl,?_⟩
  conv=>whnf
  refine Nm.mk ⟨[.lit (.string text0)],rfl,?_⟩
  conv=>whnf
  unfold Lst.Input.l0 at hj1
  refine LoopB.of (σ:=(List api.Value) × ByteArray × Int) (ρ:=(List api.Value) × Int) (fun v:(List api.Value) × ByteArray × Int=>Lst.Input.s0 was1 v.1 v.2.1 v.2.2) (fun v=>(⟨84,[(1,.vs 2 (was1.map (api.Value.enc))),(6,.ref 0 0 ((v.1.map (api.Value.enc)).length)),(7,.ptr 1 0),(8,.lit (.int .i64 v.2.2))],[.arr 2 (v.1.map (api.Value.enc)),.box [.lit (.string v.2.1)]]⟩:St)) (t22,text0,0) hj1 (BackS.by rfl (Sees.of (Weak.objs (keep:=[0,1]) (frz:=[]) (m:=0) rfl (by decide) rfl rfl ⟨⟨_,rfl,.arr _ _⟩,⟨⟨_,rfl,WO.boxs ⟨.s,trivial⟩⟩,⟨rfl,fun _ h=>by cases h⟩⟩⟩ ⟨.s,(.ref _ _ _ 0 rfl),(.ptr _ _ 1 rfl),.s,trivial⟩))) ?_
  clear hj1
  rintro K1 ⟨out6,r7,at8⟩ x1 hs0_0 hl1 hr1
  replace hs0_0:Lst.Input.s0 was1 out6 r7 at8 = some x1:=hs0_0
  unfold Lst.Input.s0 at hs0_0
  change bwp _ _ _ _ _ (⟨84,[(1,.vs 2 (was1.map (api.Value.enc))),(6,.ref 0 0 ((out6.map (api.Value.enc)).length)),(7,.ptr 1 0),(8,.lit (.int .i64 at8))],[.arr 2 (out6.map (api.Value.enc)),.box [.lit (.string r7)]]⟩:St)
  obtain ⟨t28,et28,hs0_1⟩:=letk_elim hs0_0; clear hs0_0
  conv=>whnf
  refine Nm.mk ⟨t28,by rw [et28,List.length_map],?_⟩
  obtain ⟨t29,et29,hs0_2⟩:=letk_elim hs0_1; clear hs0_1
  conv=>whnf
  refine Nm.mk ⟨t29,et29,?_⟩
  rcases t29 with _ | _
  · have hs0_3:=bif_f hs0_2
    clear hs0_2
    have ehs0_3u_0:=hr1 _ (Option.some.inj hs0_3).symm
    have hs0_3u:=congrArg some ehs0_3u_0
    have ehs0_3u_0:=Option.some.inj hs0_3u
    subst ehs0_3u_0
    conv=>whnf
    exact Returns.frozen (r:=.tup [.vs 2 (out6.map (api.Value.enc)),.lit (.int .i64 0)]) [0] rfl rfl (WV.tups ⟨(WV.all (k:=0) (by decide) rfl),.s,trivial⟩) ⟨rfl,rfl⟩
  have hs0_3:=bif_t hs0_2
  clear hs0_2
  obtain ⟨⟨o_0,t32_0,t32_1⟩,ee_t32,hs0_4⟩:=bind_elim hs0_3; clear hs0_3
  conv=>whnf
  refine Gate.weak (Sees.of (Weak.objs (k:=84) (keep:=[1,0]) (frz:=[]) (m:=0) (ts:=[(1,.vs 2 (was1.map (api.Value.enc))),(6,.ref 1 0 ((out6.map (api.Value.enc)).length)),(7,.ptr 0 0),(8,.lit (.int .i64 at8)),(31,.ptr 0 0)]) (hs:=[.box [.lit (.string r7)],.arr 2 (out6.map (api.Value.enc))]) rfl (by decide) rfl rfl ⟨⟨_,rfl,WO.boxs ⟨.s,trivial⟩⟩,⟨⟨_,rfl,.arr _ _⟩,⟨rfl,fun _ h=>by cases h⟩⟩⟩ ⟨.s,(.ref _ _ _ 1 rfl),(.ptr _ _ 0 rfl),.s,(.ptr _ _ 0 rfl),trivial⟩)) ?_
  conv=>whnf
  refine CallN.handF (k:=1) (m:=1) (v:=.tup [.lit (.bool t32_0),.lit (.bool t32_1)]) (hs':=[.box [.lit (.string o_0)]]) (rest:=[.arr 2 (out6.map (api.Value.enc))]) (hs2:=[.box [.lit (.string o_0)],.arr 2 (out6.map (api.Value.enc))]) (ts':=[(1,.vs 2 (was1.map (api.Value.enc))),(6,.ref 1 0 ((out6.map (api.Value.enc)).length)),(7,.ptr 0 0),(8,.lit (.int .i64 at8)),(31,.ptr 0 0)]) (Lst.reader.ended_ok ee_t32) rfl rfl rfl rfl rfl rfl rfl rfl rfl ?_
  rcases t32_1 with _ | _
  · have hs0_5:=bif_f hs0_4
    clear hs0_4
    rcases t32_0 with _ | _
    · have hs0_6:=bif_f hs0_5
      clear hs0_5
      obtain ⟨⟨o_0_1,t42_0,t42_1⟩,ee_t42,hs0_7⟩:=bind_elim hs0_6; clear hs0_6
      conv=>whnf
      refine Gate.weak (Sees.of (Weak.objs (k:=84) (keep:=[0,1]) (frz:=[]) (m:=0) (ts:=[(1,.vs 2 (was1.map (api.Value.enc))),(6,.ref 1 0 ((out6.map (api.Value.enc)).length)),(7,.ptr 0 0),(8,.lit (.int .i64 at8)),(41,.ptr 0 0)]) (hs:=[.box [.lit (.string o_0)],.arr 2 (out6.map (api.Value.enc))]) rfl (by decide) rfl rfl ⟨⟨_,rfl,WO.boxs ⟨.s,trivial⟩⟩,⟨⟨_,rfl,.arr _ _⟩,⟨rfl,fun _ h=>by cases h⟩⟩⟩ ⟨.s,(.ref _ _ _ 1 rfl),(.ptr _ _ 0 rfl),.s,(.ptr _ _ 0 rfl),trivial⟩)) ?_
      conv=>whnf
      refine CallN.handF (k:=1) (m:=1) (v:=.tup [listing.item.enc t42_0,.lit (.int .i64 t42_1)]) (hs':=[.box [.lit (.string o_0_1)]]) (rest:=[.arr 2 (out6.map (api.Value.enc))]) (hs2:=[.box [.lit (.string o_0_1)],.arr 2 (out6.map (api.Value.enc))]) (ts':=[(1,.vs 2 (was1.map (api.Value.enc))),(6,.ref 1 0 ((out6.map (api.Value.enc)).length)),(7,.ptr 0 0),(8,.lit (.int .i64 at8)),(41,.ptr 0 0)]) (Lst.reader.next__ok ee_t42) rfl rfl rfl rfl rfl rfl rfl rfl rfl ?_
      conv=>whnf
      refine Nm.mk ⟨[.lit (.int .i64 0),.lit (.string (⟨#[]⟩))],rfl,?_⟩
      conv=>whnf
      refine Nm.mk ⟨[.lit (.int .i64 t42_0.times),.lit (.string t42_0.text)],rfl,?_⟩
      obtain ⟨t46,et46,hs0_8⟩:=letk_elim hs0_7; clear hs0_7
      conv=>whnf
      refine Nm.mk ⟨t46,et46,?_⟩
      rcases t46 with _ | _
      · have hs0_9:=bif_f hs0_8
        clear hs0_8
        conv=>whnf
        unfold Lst.Input.l1 at hs0_9
        refine LoopB.of (σ:=(List api.Value) × ByteArray × Int × Int × ByteArray) (ρ:=((List api.Value) × ByteArray × Int) ⊕ ((List api.Value) × Int)) (fun v:(List api.Value) × ByteArray × Int × Int × ByteArray=>Lst.Input.s1 was1 v.1 v.2.1 v.2.2.1 v.2.2.2.1 v.2.2.2.2) (fun v=>(⟨84,[(1,.vs 2 (was1.map (api.Value.enc))),(6,.ref 0 0 ((v.1.map (api.Value.enc)).length)),(7,.ptr 1 0),(8,.lit (.int .i64 v.2.2.1)),(11,.ptr 2 0)],[.arr 2 (v.1.map (api.Value.enc)),.box [.lit (.string v.2.1)],.box [.lit (.int .i64 v.2.2.2.1),.lit (.string v.2.2.2.2)]]⟩:St)) (out6,o_0_1,at8,t42_0.times,t42_0.text) hs0_9 (BackS.by rfl (Sees.of (Weak.objs (keep:=[1,0,2]) (frz:=[]) (m:=0) rfl (by decide) rfl rfl ⟨⟨_,rfl,.arr _ _⟩,⟨⟨_,rfl,WO.boxs ⟨.s,trivial⟩⟩,⟨⟨_,rfl,WO.boxs ⟨.s,.s,trivial⟩⟩,⟨rfl,fun _ h=>by cases h⟩⟩⟩⟩ ⟨.s,(.ref _ _ _ 0 rfl),(.ptr _ _ 1 rfl),.s,(.ptr _ _ 2 rfl),trivial⟩))) ?_
        clear hs0_9
        rintro K2 ⟨out6_1,r7_1,at8_1,x11_0,x11_1⟩ x2 hs1_0 hl2 hr2
        replace hs1_0:Lst.Input.s1 was1 out6_1 r7_1 at8_1 x11_0 x11_1 = some x2:=hs1_0
        unfold Lst.Input.s1 at hs1_0
        change bwp _ _ _ _ _ (⟨84,[(1,.vs 2 (was1.map (api.Value.enc))),(6,.ref 0 0 ((out6_1.map (api.Value.enc)).length)),(7,.ptr 1 0),(8,.lit (.int .i64 at8_1)),(11,.ptr 2 0)],[.arr 2 (out6_1.map (api.Value.enc)),.box [.lit (.string r7_1)],.box [.lit (.int .i64 x11_0),.lit (.string x11_1)]]⟩:St)
        conv=>whnf
        refine CutN.of (fun s=>∃ (out6_2:List api.Value) (r7_2:ByteArray) (x11_0_1:Int) (x11_1_1:ByteArray),Lst.Input.j1 was1 at8_1 out6_2 r7_2 x11_0_1 x11_1_1 = some x2 ∧ s = (⟨84,[(1,.vs 2 (was1.map (api.Value.enc))),(6,.ref 0 0 ((out6_2.map (api.Value.enc)).length)),(7,.ptr 1 0),(8,.lit (.int .i64 at8_1)),(11,.ptr 2 0)],[.arr 2 (out6_2.map (api.Value.enc)),.box [.lit (.string r7_2)],.box [.lit (.int .i64 x11_0_1),.lit (.string x11_1_1)]]⟩:St)) ?_ ?_
        · obtain ⟨t50,et50,hs1_1⟩:=letk_elim hs1_0; clear hs1_0
          conv=>whnf
          refine Nm.mk ⟨t50,et50,?_⟩
          rcases t50 with _ | _
          · have hs1_2:=bif_f hs1_1
            clear hs1_1
            have ehs1_2u_0:=hr2 _ (Option.some.inj hs1_2).symm
            have hs1_2u:=congrArg some ehs1_2u_0
            exact BackS.by ⟨_,hl1 _ (Option.some.inj hs1_2u).symm,rfl⟩ (Sees.of (Weak.objs (keep:=[0,1]) (frz:=[]) (m:=0) rfl (by decide) rfl rfl ⟨⟨_,rfl,.arr _ _⟩,⟨⟨_,rfl,WO.boxs ⟨.s,trivial⟩⟩,⟨rfl,fun _ h=>by cases h⟩⟩⟩ ⟨.s,(.ref _ _ _ 0 rfl),(.ptr _ _ 1 rfl),.s,trivial⟩))
          have hs1_2:=bif_t hs1_1
          clear hs1_1
          obtain ⟨t54,et54,hs1_3⟩:=letk_elim hs1_2; clear hs1_2
          conv=>whnf
          refine Nm.mk ⟨t54,by rw [et54,List.length_map],?_⟩
          obtain ⟨t55,et55,hs1_4⟩:=letk_elim hs1_3; clear hs1_3
          conv=>whnf
          refine Nm.mk ⟨t55,et55,?_⟩
          rcases t55 with _ | _
          · have hs1_5:=bif_f hs1_4
            clear hs1_4
            have ehs1_5u_0:=hr2 _ (Option.some.inj hs1_5).symm
            have hs1_5u:=congrArg some ehs1_5u_0
            exact BackS.by ⟨_,hl1 _ (Option.some.inj hs1_5u).symm,rfl⟩ (Sees.of (Weak.objs (keep:=[0,1]) (frz:=[]) (m:=0) rfl (by decide) rfl rfl ⟨⟨_,rfl,.arr _ _⟩,⟨⟨_,rfl,WO.boxs ⟨.s,trivial⟩⟩,⟨rfl,fun _ h=>by cases h⟩⟩⟩ ⟨.s,(.ref _ _ _ 0 rfl),(.ptr _ _ 1 rfl),.s,trivial⟩))
          have hs1_5:=bif_t hs1_4
          clear hs1_4
          exact BackS.by ⟨_,_,_,_,hs1_5,rfl⟩ (Sees.of (Weak.objs (keep:=[0,1,2]) (frz:=[]) (m:=0) rfl (by decide) rfl rfl ⟨⟨_,rfl,.arr _ _⟩,⟨⟨_,rfl,WO.boxs ⟨.s,trivial⟩⟩,⟨⟨_,rfl,WO.boxs ⟨.s,.s,trivial⟩⟩,⟨rfl,fun _ h=>by cases h⟩⟩⟩⟩ ⟨.s,(.ref _ _ _ 0 rfl),(.ptr _ _ 1 rfl),.s,(.ptr _ _ 2 rfl),trivial⟩))
        clear hs1_0
        rintro s ⟨out6_2,r7_2,x11_0_1,x11_1_1,hj0,rfl⟩
        unfold Lst.Input.j1 at hj0
        conv=>whnf
        refine CutN.of (fun s=>∃ (out6_3:List api.Value) (r7_3:ByteArray) (at8_2:Int) (x11_0_2:Int) (x11_1_2:ByteArray),Lst.Input.j2 was1 out6_3 r7_3 at8_2 x11_0_2 x11_1_2 = some x2 ∧ s = (⟨84,[(1,.vs 2 (was1.map (api.Value.enc))),(6,.ref 0 0 ((out6_3.map (api.Value.enc)).length)),(7,.ptr 1 0),(8,.lit (.int .i64 at8_2)),(11,.ptr 2 0)],[.arr 2 (out6_3.map (api.Value.enc)),.box [.lit (.string r7_3)],.box [.lit (.int .i64 x11_0_2),.lit (.string x11_1_2)]]⟩:St)) ?_ ?_
        · obtain ⟨t63,et63,hj1⟩:=letk_elim hj0; clear hj0
          conv=>whnf
          refine Nm.mk ⟨t63,et63,?_⟩
          rcases t63 with _ | _
          · have hj2:=bif_f hj1
            clear hj1
            obtain ⟨t82,et82,hj3⟩:=letk_elim hj2; clear hj2
            conv=>whnf
            refine Nm.mk ⟨t82,et82,?_⟩
            exact BackS.by ⟨_,_,_,_,_,hj3,rfl⟩ (Sees.of (Weak.objs (keep:=[0,1,2]) (frz:=[]) (m:=0) rfl (by decide) rfl rfl ⟨⟨_,rfl,.arr _ _⟩,⟨⟨_,rfl,WO.boxs ⟨.s,trivial⟩⟩,⟨⟨_,rfl,WO.boxs ⟨.s,.s,trivial⟩⟩,⟨rfl,fun _ h=>by cases h⟩⟩⟩⟩ ⟨.s,(.ref _ _ _ 0 rfl),(.ptr _ _ 1 rfl),.s,(.ptr _ _ 2 rfl),trivial⟩))
          have hj2:=bif_t hj1
          clear hj1
          conv=>whnf
          refine DrawB.sees (Sees.of (Weak.objs (k:=84) (keep:=[0,1,2]) (frz:=[]) (m:=0) (ts:=[(1,.vs 2 (was1.map (api.Value.enc))),(6,.ref 0 0 ((out6_2.map (api.Value.enc)).length)),(7,.ptr 1 0),(8,.lit (.int .i64 at8_1)),(11,.ptr 2 0)]) (hs:=[.arr 2 (out6_2.map (api.Value.enc)),.box [.lit (.string r7_2)],.box [.lit (.int .i64 x11_0_1),.lit (.string x11_1_1)]]) rfl (by decide) rfl rfl ⟨⟨_,rfl,.arr _ _⟩,⟨⟨_,rfl,WO.refl rfl⟩,⟨⟨_,rfl,WO.refl rfl⟩,⟨rfl,fun _ h=>by cases h⟩⟩⟩⟩ ⟨.s,(.ref _ _ _ 0 rfl),(.ptr _ _ 1 rfl),.s,(.ptr _ _ 2 rfl),trivial⟩)) ?_
          refine DrawB.ofFN 0 [.arr 2 (out6_2.map (api.Value.enc)),.box [.lit (.string r7_2)],.box [.lit (.int .i64 x11_0_1),.lit (.string x11_1_1)]] 3 3 [[],[],[2],[2],[],[],[],[],[],[],[],[],[],[0],[0],[]] [[],[],[],[],[],[],[],[],[],[],[],[],[],[],[0],[]] [none,none,none,none,none,none,none,none,none,none,none,none,none,none,none,none] Tryz_mixed (by kernel_rfl) rfl rfl rfl (by kernel_rfl) ?_
          conv=>whnf
          refine FNode.mv (W:=[]) (.ref 0 0 ((out6_2.map (api.Value.enc)).length)) rfl rfl ?_
          conv=>whnf
          refine FNode.no (W:=[]) (.lit (.int .i64 at8_1)) ?_ rfl ?_
          · conv=>whnf
            rfl
          conv=>whnf
          refine FNode.rd (F:=[2]) (W:=[]) (.ptr 2 1) ?_ rfl rfl ?_
          · conv=>whnf
            rfl
          conv=>whnf
          refine FNode.rd (F:=[2]) (W:=[]) (.lit (.string x11_1_1)) ?_ rfl rfl ?_
          · conv=>whnf
            rfl
          conv=>whnf
          refine FNode.no (W:=[]) (.vs 2 (was1.map (api.Value.enc))) ?_ rfl ?_
          · conv=>whnf
            rfl
          conv=>whnf
          refine FNode.no (W:=[]) (.lit (.int .i64 at8_1)) ?_ rfl ?_
          · conv=>whnf
            rfl
          obtain ⟨chj3,hj3⟩:=chk_elim hj2; clear hj2
          obtain ⟨t71,et71,hj4⟩:=bind_elim hj3; clear hj3
          conv=>whnf
          refine FNode.no (W:=[]) (.iptr (api.Value.enc t71)) ?_ rfl ?_
          · conv=>whnf
            refine Side.mk chj3 ?_
            conv=>whnf
            refine At.by et71 ?_
            conv=>whnf
            rfl
          conv=>whnf
          refine FNode.no (W:=[]) (.iptr (.lit (.int .i64 t71.Kind))) ?_ rfl ?_
          · conv=>whnf
            rfl
          conv=>whnf
          refine FNode.no (W:=[]) (.lit (.int .i64 t71.Kind)) ?_ rfl ?_
          · conv=>whnf
            rfl
          obtain ⟨⟨t74_0,t74_1⟩,et74,hj5⟩:=bind_elim hj4; clear hj4
          conv=>whnf
          refine FNode.no (W:=[]) (.tup [api.Value.enc t74_0,.lit (.int .i64 t74_1)]) ?_ rfl ?_
          · conv=>whnf
            refine CallN.by (v:=.tup [api.Value.enc t74_0,.lit (.int .i64 t74_1)]) (Lst.value_ok et74) rfl rfl ?_
            conv=>whnf
            rfl
          conv=>whnf
          refine FNode.no (W:=[]) (.tup [api.Value.enc t74_0,.lit (.int .i64 t74_1)]) ?_ rfl ?_
          · conv=>whnf
            rfl
          conv=>whnf
          refine FNode.no (W:=[]) (api.Value.enc t74_0) ?_ rfl ?_
          · conv=>whnf
            rfl
          conv=>whnf
          refine FNode.no (W:=[]) (.lit (.int .i64 t74_1)) ?_ rfl ?_
          · conv=>whnf
            rfl
          obtain ⟨chj6,hj6⟩:=chk_elim hj5; clear hj5
          obtain ⟨t77,et77,hj7⟩:=letk_elim hj6; clear hj6
          conv=>whnf
          refine FNode.rd (F:=[0]) (W:=[]) (.eptr 0 t77 0) ?_ rfl rfl ?_
          · conv=>whnf
            refine Side.mk (by simpa only [List.length_map] using chj6) ?_
            conv=>whnf
            refine Nm.mk ⟨t77,et77,?_⟩
            conv=>whnf
            rfl
          obtain ⟨old,eold,hj8⟩:=bind_elim hj7; clear hj7
          obtain ⟨l,el,hj9⟩:=letk_elim hj8; clear hj8
          conv=>whnf
          refine FNode.pl (F:=[0]) (W:=[0]) (.undef) [.arr 2 (l.map (api.Value.enc)),.box [.lit (.string r7_2)],.box [.lit (.int .i64 x11_0_1),.lit (.string x11_1_1)]] ?_ rfl rfl rfl rfl ?_
          · conv=>whnf
            refine At.by eold ?_
            conv=>whnf
            refine Side.mk ⟨Nat.le_of_ble_eq_true rfl,rfl⟩ ?_
            conv=>whnf
            refine Nm.mk ⟨l.map (api.Value.enc),by rw [el,List.map_set]; rfl,?_⟩
            rw [show (out6_2.map (api.Value.enc)).length = (l.map (api.Value.enc)).length from by rw [el,List.length_map,List.length_map,List.length_set]]
            conv=>whnf
            rfl
          rw [show (out6_2.map (api.Value.enc)).length = (l.map (api.Value.enc)).length from by rw [el,List.length_map,List.length_map,List.length_set]]
          conv=>whnf
          refine FNode.no (W:=[]) (.lit (.int .i64 t74_1)) ?_ rfl ?_
          · conv=>whnf
            rfl
          obtain ⟨t79,et79,hj10⟩:=letk_elim hj9; clear hj9
          conv=>whnf
          refine Nm.mk ⟨t79,et79,?_⟩
          rcases t79 with _ | _
          · have hj11:=bif_f hj10
            clear hj10
            obtain ⟨t82_1,et82_1,hj12⟩:=letk_elim hj11; clear hj11
            conv=>whnf
            refine Nm.mk ⟨t82_1,et82_1,?_⟩
            exact BackS.by ⟨_,_,_,_,_,hj12,rfl⟩ (Sees.of (Weak.objs (keep:=[0,1,2]) (frz:=[]) (m:=0) rfl (by decide) rfl rfl ⟨⟨_,rfl,.arr _ _⟩,⟨⟨_,rfl,WO.boxs ⟨.s,trivial⟩⟩,⟨⟨_,rfl,WO.boxs ⟨.s,.s,trivial⟩⟩,⟨rfl,fun _ h=>by cases h⟩⟩⟩⟩ ⟨.s,(.ref _ _ _ 0 rfl),(.ptr _ _ 1 rfl),.s,(.ptr _ _ 2 rfl),trivial⟩))
          have hj11:=bif_t hj10
          clear hj10
          have ehj11_0:=hr2 _ (Option.some.inj hj11).symm
          have ehj11_1:=hr1 _ ehj11_0.symm
          subst ehj11_1
          conv=>whnf
          exact Returns.frozen (r:=.tup [.vs 2 (([]).map (api.Value.enc)),.lit (.int .i64 t74_1)]) [] rfl rfl (WV.tups ⟨(.nilsVs _),.s,trivial⟩) ⟨rfl,rfl⟩
        clear hj0
        rintro s ⟨out6_3,r7_3,at8_2,x11_0_2,x11_1_2,hj0,rfl⟩
        unfold Lst.Input.j2 at hj0
        obtain ⟨t59,et59,hj1⟩:=letk_elim hj0; clear hj0
        conv=>whnf
        refine Nm.mk ⟨t59,et59,?_⟩
        conv=>whnf
        refine Nm.mk ⟨[.lit (.int .i64 t59),.lit (.string x11_1_2)],rfl,?_⟩
        exact BackS.by ⟨_,hl2 _ (Option.some.inj hj1).symm,rfl⟩ (Sees.of (Weak.objs (keep:=[0,1,2]) (frz:=[]) (m:=0) rfl (by decide) rfl rfl ⟨⟨_,rfl,.arr _ _⟩,⟨⟨_,rfl,WO.boxs ⟨.s,trivial⟩⟩,⟨⟨_,rfl,WO.boxs ⟨.s,.s,trivial⟩⟩,⟨rfl,fun _ h=>by cases h⟩⟩⟩⟩ ⟨.s,(.ref _ _ _ 0 rfl),(.ptr _ _ 1 rfl),.s,(.ptr _ _ 2 rfl),trivial⟩))
      have hs0_9:=bif_t hs0_8
      clear hs0_8
      have ehs0_9_0:=hr1 _ (Option.some.inj hs0_9).symm
      subst ehs0_9_0
      conv=>whnf
      exact Returns.frozen (r:=.tup [.vs 2 (([]).map (api.Value.enc)),.lit (.int .i64 t42_1)]) [] rfl rfl (WV.tups ⟨(.nilsVs _),.s,trivial⟩) ⟨rfl,rfl⟩
    have hs0_6:=bif_t hs0_5
    clear hs0_5
    have ehs0_6_0:=hr1 _ (Option.some.inj hs0_6).symm
    subst ehs0_6_0
    conv=>whnf
    exact Returns.frozen (r:=.tup [.vs 2 (([]).map (api.Value.enc)),.lit (.int .i64 6)]) [] rfl rfl (WV.tups ⟨(.nilsVs _),.s,trivial⟩) ⟨rfl,rfl⟩
  have hs0_5:=bif_t hs0_4
  clear hs0_4
  have ehs0_5_0:=hr1 _ (Option.some.inj hs0_5).symm
  subst ehs0_5_0
  conv=>whnf
  exact Returns.frozen (r:=.tup [.vs 2 (out6.map (api.Value.enc)),.lit (.int .i64 0)]) [1] rfl rfl (WV.tups ⟨(WV.all (k:=1) (by decide) rfl),.s,trivial⟩) ⟨rfl,rfl⟩
noncomputable def Law15.Awake :Option Bool :=
  Option.bind (Lst.Input ⟨#[49,44,32,44,32,50,42,55,32,47]⟩ ([(⟨1,9⟩:api.Value),(⟨1,9⟩:api.Value),(⟨1,9⟩:api.Value),(⟨1,9⟩:api.Value),(⟨1,9⟩:api.Value)])) fun (t12_0,t12_1) =>
  letk (t12_1 == (0:Int)) fun t16 =>
  bif t16 then
    letk ((t12_0.length:Int)) fun t19 =>
    letk (t19 == (5:Int)) fun t20 =>
    bif t20 then
      chk (0 ≤ (0:Int)) <|
      Option.bind (t12_0[(0:Int).toNat]?) fun t24 =>
      letk (t24.N == (1:Int)) fun t27 =>
      bif t27 then
        chk (0 ≤ (1:Int)) <|
        Option.bind (t12_0[(1:Int).toNat]?) fun t31 =>
        letk (t31.N == (9:Int)) fun t34 =>
        bif t34 then
          chk (0 ≤ (2:Int)) <|
          Option.bind (t12_0[(2:Int).toNat]?) fun t38 =>
          letk (t38.N == (7:Int)) fun t41 =>
          bif t41 then
            chk (0 ≤ (3:Int)) <|
            Option.bind (t12_0[(3:Int).toNat]?) fun t45 =>
            letk (t45.N == (7:Int)) fun t48 =>
            bif t48 then
              chk (0 ≤ (4:Int)) <|
              Option.bind (t12_0[(4:Int).toNat]?) fun t52 =>
              letk (t52.N == (9:Int)) fun t55 =>
              some t55
            else
              some false
          else
            some false
        else
          some false
      else
        some false
    else
      some false
  else
    some false
theorem Law15.Awake_ok {r:Bool} (h0:Law15.Awake = some r):Gives Tryz.prog 12 [] (.lit (.bool r)):=by
  unfold Law15.Awake at h0
  refine ACalls.of_swp Tryz.func12 rfl (by decide) rfl (st0:=⟨57,[],[]⟩) rfl (bwp_ok (C:=[]) ?_)
  conv=>whnf
  refine Gate.go ?_
  conv=>whnf
  refine Nm.mk ⟨[.lit (.int .i64 1),.lit (.int .i64 9)],rfl,?_⟩
  conv=>whnf
  refine Nm.mk ⟨[.lit (.int .i64 0),.lit (.int .i64 0)],rfl,?_⟩
  conv=>whnf
  refine Nm.mk ⟨[.lit (.int .i64 1),.lit (.int .i64 9)],rfl,?_⟩
  conv=>whnf
  refine Gate.go ?_
  conv=>whnf
  refine Nm.mk ⟨([(⟨1,9⟩:api.Value),(⟨1,9⟩:api.Value),(⟨1,9⟩:api.Value),(⟨1,9⟩:api.Value),(⟨1,9⟩:api.Value)]).map (api.Value.enc),rfl,?_⟩
  obtain ⟨⟨t12_0,t12_1⟩,et12,h1⟩:=bind_elim h0; clear h0
  conv=>whnf
  refine Gate.weak (Sees.of (Weak.objs (k:=57) (keep:=[]) (frz:=[1]) (m:=0) (ts:=[(11,.vs 2 (([(⟨1,9⟩:api.Value),(⟨1,9⟩:api.Value),(⟨1,9⟩:api.Value),(⟨1,9⟩:api.Value),(⟨1,9⟩:api.Value)]).map (api.Value.enc)))]) (hs:=[]) rfl (by decide) rfl rfl ⟨rfl,fun _ h=>by cases h⟩ ⟨(WV.all (k:=1) (by decide) rfl),trivial⟩)) ?_
  conv=>whnf
  refine CallN.by (v:=.tup [.vs 2 (t12_0.map (api.Value.enc)),.lit (.int .i64 t12_1)]) (Lst.Input_ok et12) rfl rfl ?_
  obtain ⟨t16,et16,h2⟩:=letk_elim h1; clear h1
  conv=>whnf
  refine Nm.mk ⟨t16,et16,?_⟩
  rcases t16 with _ | _
  · have h3:=bif_f h2
    clear h2
    have eh3_0:=Option.some.inj h3
    subst eh3_0
    conv=>whnf
    exact Returns.pure (r:=.lit (.bool false)) rfl rfl rfl rfl ⟨rfl,rfl⟩
  have h3:=bif_t h2
  clear h2
  obtain ⟨t19,et19,h4⟩:=letk_elim h3; clear h3
  conv=>whnf
  refine Nm.mk ⟨t19,by rw [et19,List.length_map],?_⟩
  obtain ⟨t20,et20,h5⟩:=letk_elim h4; clear h4
  conv=>whnf
  refine Nm.mk ⟨t20,et20,?_⟩
  rcases t20 with _ | _
  · have h6:=bif_f h5
    clear h5
    have eh6_0:=Option.some.inj h6
    subst eh6_0
    conv=>whnf
    exact Returns.pure (r:=.lit (.bool false)) rfl rfl rfl rfl ⟨rfl,rfl⟩
  have h6:=bif_t h5
  clear h5
  obtain ⟨ch7,h7⟩:=chk_elim h6; clear h6
  obtain ⟨t24,et24,h8⟩:=bind_elim h7; clear h7
  conv=>whnf
  refine Side.mk ch7 ?_
  conv=>whnf
  refine At.by et24 ?_
  obtain ⟨t27,et27,h9⟩:=letk_elim h8; clear h8
  conv=>whnf
  refine Nm.mk ⟨t27,et27,?_⟩
  rcases t27 with _ | _
  · have h10:=bif_f h9
    clear h9
    have eh10_0:=Option.some.inj h10
    subst eh10_0
    conv=>whnf
    exact Returns.pure (r:=.lit (.bool false)) rfl rfl rfl rfl ⟨rfl,rfl⟩
  have h10:=bif_t h9
  clear h9
  obtain ⟨ch11,h11⟩:=chk_elim h10; clear h10
  obtain ⟨t31,et31,h12⟩:=bind_elim h11; clear h11
  conv=>whnf
  refine Side.mk ch11 ?_
  conv=>whnf
  refine At.by et31 ?_
  obtain ⟨t34,et34,h13⟩:=letk_elim h12; clear h12
  conv=>whnf
  refine Nm.mk ⟨t34,et34,?_⟩
  rcases t34 with _ | _
  · have h14:=bif_f h13
    clear h13
    have eh14_0:=Option.some.inj h14
    subst eh14_0
    conv=>whnf
    exact Returns.pure (r:=.lit (.bool false)) rfl rfl rfl rfl ⟨rfl,rfl⟩
  have h14:=bif_t h13
  clear h13
  obtain ⟨ch15,h15⟩:=chk_elim h14; clear h14
  obtain ⟨t38,et38,h16⟩:=bind_elim h15; clear h15
  conv=>whnf
  refine Side.mk ch15 ?_
  conv=>whnf
  refine At.by et38 ?_
  obtain ⟨t41,et41,h17⟩:=letk_elim h16; clear h16
  conv=>whnf
  refine Nm.mk ⟨t41,et41,?_⟩
  rcases t41 with _ | _
  · have h18:=bif_f h17
    clear h17
    have eh18_0:=Option.some.inj h18
    subst eh18_0
    conv=>whnf
    exact Returns.pure (r:=.lit (.bool false)) rfl rfl rfl rfl ⟨rfl,rfl⟩
  have h18:=bif_t h17
  clear h17
  obtain ⟨ch19,h19⟩:=chk_elim h18; clear h18
  obtain ⟨t45,et45,h20⟩:=bind_elim h19; clear h19
  conv=>whnf
  refine Side.mk ch19 ?_
  conv=>whnf
  refine At.by et45 ?_
  obtain ⟨t48,et48,h21⟩:=letk_elim h20; clear h20
  conv=>whnf
  refine Nm.mk ⟨t48,et48,?_⟩
  rcases t48 with _ | _
  · have h22:=bif_f h21
    clear h21
    have eh22_0:=Option.some.inj h22
    subst eh22_0
    conv=>whnf
    exact Returns.pure (r:=.lit (.bool false)) rfl rfl rfl rfl ⟨rfl,rfl⟩
  have h22:=bif_t h21
  clear h21
  obtain ⟨ch23,h23⟩:=chk_elim h22; clear h22
  obtain ⟨t52,et52,h24⟩:=bind_elim h23; clear h23
  conv=>whnf
  refine Side.mk ch23 ?_
  conv=>whnf
  refine At.by et52 ?_
  obtain ⟨t55,et55,h25⟩:=letk_elim h24; clear h24
  conv=>whnf
  refine Nm.mk ⟨t55,et55,?_⟩
  have eh25_0:=Option.some.inj h25
  subst eh25_0
  conv=>whnf
  exact Returns.pure (r:=.lit (.bool t55)) rfl rfl rfl rfl ⟨rfl,rfl⟩
noncomputable def Lst.Count.j0 (n4:Int) (r5_1:ByteArray):Option ((Int × ByteArray) ⊕ (Int × Int)) :=
  Option.bind (Lst.reader.next_ r5_1) fun (o_0,t28_0,t28_1) =>
  letk (t28_1 != (0:Int)) fun t32 =>
  bif t32 then
    some (.inr (0,t28_1))
  else
    letk (IntKind.i64.wrap (n4 + t28_0.times)) fun t37 =>
    some (.inl (t37,o_0))
noncomputable def Lst.Count.s0 (n4:Int) (r5:ByteArray):Option ((Int × ByteArray) ⊕ (Int × Int)) :=
  Option.bind (Lst.reader.ended r5) fun (o_0_1,t18_0,t18_1) =>
  bif t18_0 then
    some (.inr (n4,0))
  else
    bif t18_1 then
      some (.inr (n4,0))
    else
      Lst.Count.j0 n4 o_0_1
noncomputable def Lst.Count.l0 (n4:Int) (r5:ByteArray):Option (Int × Int):=loopO (fun v:Int × ByteArray=>Lst.Count.s0 v.1 v.2) (n4,r5)
noncomputable def Lst.Count (text0:ByteArray):Option (Int × Int) :=
  Option.bind (Lst.isText text0) fun t11 =>
  letk (!t11) fun t12 =>
  bif t12 then
    some (0,2)
  else
    Lst.Count.l0 0 text0
theorem Lst.Count_ok {text0:ByteArray} {r:Int × Int} (h0:Lst.Count text0 = some r):Gives Tryz.prog 19 [.lit (.string text0)] (.tup [.lit (.int .i64 r.1),.lit (.int .i64 r.2)]):=by
  unfold Lst.Count at h0
  refine ACalls.of_swp Tryz.func19 rfl (by decide) rfl (st0:=⟨38,[(0,.lit (.string text0))],[]⟩) rfl (bwp_ok (C:=[(0,8)]) ?_)
  obtain ⟨t11,et11,h1⟩:=bind_elim h0; clear h0
  conv=>whnf
  refine Gate.go ?_
  conv=>whnf
  refine CallN.by (v:=.lit (.bool t11)) (Lst.isText_ok et11) rfl rfl ?_
  obtain ⟨t12,et12,h2⟩:=letk_elim h1; clear h1
  conv=>whnf
  refine Nm.mk ⟨t12,et12,?_⟩
  rcases t12 with _ | _
  · have h3:=bif_f h2
    clear h2
    conv=>whnf
    refine Gate.go ?_
    conv=>whnf
    refine Nm.mk ⟨[.lit (.string text0)],rfl,?_⟩
    conv=>whnf
    refine Nm.mk ⟨[.lit (.string text0)],rfl,?_⟩
    conv=>whnf
    unfold Lst.Count.l0 at h3
    refine LoopB.of (σ:=Int × ByteArray) (ρ:=Int × Int) (fun v:Int × ByteArray=>Lst.Count.s0 v.1 v.2) (fun v=>(⟨38,[(4,.lit (.int .i64 v.1)),(5,.ptr 0 0)],[.box [.lit (.string v.2)]]⟩:St)) (0,text0) h3 (BackS.by rfl (Sees.of (Weak.objs (keep:=[0]) (frz:=[]) (m:=0) rfl (by decide) rfl rfl ⟨⟨_,rfl,WO.boxs ⟨.s,trivial⟩⟩,⟨rfl,fun _ h=>by cases h⟩⟩ ⟨.s,(.ptr _ _ 0 rfl),trivial⟩))) ?_
    clear h3
    rintro K1 ⟨n4,r5⟩ x1 hs0_0 hl1 hr1
    replace hs0_0:Lst.Count.s0 n4 r5 = some x1:=hs0_0
    unfold Lst.Count.s0 at hs0_0
    change bwp _ _ _ _ _ (⟨38,[(4,.lit (.int .i64 n4)),(5,.ptr 0 0)],[.box [.lit (.string r5)]]⟩:St)
    conv=>whnf
    refine CutN.of (fun s=>∃ (r5_1:ByteArray),Lst.Count.j0 n4 r5_1 = some x1 ∧ s = (⟨38,[(4,.lit (.int .i64 n4)),(5,.ptr 0 0)],[.box [.lit (.string r5_1)]]⟩:St)) ?_ ?_
    · obtain ⟨⟨o_0_1,t18_0,t18_1⟩,ee_t18,hs0_1⟩:=bind_elim hs0_0; clear hs0_0
      conv=>whnf
      refine Gate.weak (Sees.of (Weak.objs (k:=38) (keep:=[0]) (frz:=[]) (m:=0) (ts:=[(4,.lit (.int .i64 n4)),(5,.ptr 0 0),(17,.ptr 0 0)]) (hs:=[.box [.lit (.string r5)]]) rfl (by decide) rfl rfl ⟨⟨_,rfl,WO.boxs ⟨.s,trivial⟩⟩,⟨rfl,fun _ h=>by cases h⟩⟩ ⟨.s,(.ptr _ _ 0 rfl),(.ptr _ _ 0 rfl),trivial⟩)) ?_
      conv=>whnf
      refine CallN.hand (k:=1) (v:=.tup [.lit (.bool t18_0),.lit (.bool t18_1)]) (hs':=[.box [.lit (.string o_0_1)]]) (ts':=[(4,.lit (.int .i64 n4)),(5,.ptr 0 0),(17,.ptr 0 0)]) (Lst.reader.ended_ok ee_t18) rfl rfl ?_
      rcases t18_0 with _ | _
      · have hs0_2:=bif_f hs0_1
        clear hs0_1
        rcases t18_1 with _ | _
        · have hs0_3:=bif_f hs0_2
          clear hs0_2
          exact BackS.by ⟨_,hs0_3,rfl⟩ (Sees.of (Weak.objs (keep:=[0]) (frz:=[]) (m:=0) rfl (by decide) rfl rfl ⟨⟨_,rfl,WO.boxs ⟨.s,trivial⟩⟩,⟨rfl,fun _ h=>by cases h⟩⟩ ⟨.s,(.ptr _ _ 0 rfl),trivial⟩))
        have hs0_3:=bif_t hs0_2
        clear hs0_2
        have ehs0_3_0:=hr1 _ (Option.some.inj hs0_3).symm
        subst ehs0_3_0
        conv=>whnf
        exact Returns.pure (r:=.tup [.lit (.int .i64 n4),.lit (.int .i64 0)]) rfl rfl rfl rfl ⟨rfl,rfl⟩
      have hs0_2:=bif_t hs0_1
      clear hs0_1
      have ehs0_2_0:=hr1 _ (Option.some.inj hs0_2).symm
      subst ehs0_2_0
      conv=>whnf
      exact Returns.pure (r:=.tup [.lit (.int .i64 n4),.lit (.int .i64 0)]) rfl rfl rfl rfl ⟨rfl,rfl⟩
    clear hs0_0
    rintro s ⟨r5_1,hj0,rfl⟩
    unfold Lst.Count.j0 at hj0
    obtain ⟨⟨o_0,t28_0,t28_1⟩,ee_t28,hj1⟩:=bind_elim hj0; clear hj0
    conv=>whnf
    refine Gate.weak (Sees.of (Weak.objs (k:=38) (keep:=[0]) (frz:=[]) (m:=0) (ts:=[(4,.lit (.int .i64 n4)),(5,.ptr 0 0),(27,.ptr 0 0)]) (hs:=[.box [.lit (.string r5_1)]]) rfl (by decide) rfl rfl ⟨⟨_,rfl,WO.boxs ⟨.s,trivial⟩⟩,⟨rfl,fun _ h=>by cases h⟩⟩ ⟨.s,(.ptr _ _ 0 rfl),(.ptr _ _ 0 rfl),trivial⟩)) ?_
    conv=>whnf
    refine CallN.hand (k:=1) (v:=.tup [listing.item.enc t28_0,.lit (.int .i64 t28_1)]) (hs':=[.box [.lit (.string o_0)]]) (ts':=[(4,.lit (.int .i64 n4)),(5,.ptr 0 0),(27,.ptr 0 0)]) (Lst.reader.next__ok ee_t28) rfl rfl ?_
    conv=>whnf
    refine Nm.mk ⟨[.lit (.int .i64 0),.lit (.string (⟨#[]⟩))],rfl,?_⟩
    conv=>whnf
    refine Nm.mk ⟨[.lit (.int .i64 t28_0.times),.lit (.string t28_0.text)],rfl,?_⟩
    obtain ⟨t32,et32,hj2⟩:=letk_elim hj1; clear hj1
    conv=>whnf
    refine Nm.mk ⟨t32,et32,?_⟩
    rcases t32 with _ | _
    · have hj3:=bif_f hj2
      clear hj2
      obtain ⟨t37,et37,hj4⟩:=letk_elim hj3; clear hj3
      conv=>whnf
      refine Nm.mk ⟨t37,et37,?_⟩
      exact BackS.by ⟨_,hl1 _ (Option.some.inj hj4).symm,rfl⟩ (Sees.of (Weak.objs (keep:=[0]) (frz:=[]) (m:=0) rfl (by decide) rfl rfl ⟨⟨_,rfl,WO.boxs ⟨.s,trivial⟩⟩,⟨rfl,fun _ h=>by cases h⟩⟩ ⟨.s,(.ptr _ _ 0 rfl),trivial⟩))
    have hj3:=bif_t hj2
    clear hj2
    have ehj3_0:=hr1 _ (Option.some.inj hj3).symm
    subst ehj3_0
    conv=>whnf
    exact Returns.pure (r:=.tup [.lit (.int .i64 0),.lit (.int .i64 t28_1)]) rfl rfl rfl rfl ⟨rfl,rfl⟩
  have h3:=bif_t h2
  clear h2
  have eh3_0:=Option.some.inj h3
  subst eh3_0
  conv=>whnf
  exact Returns.pure (r:=.tup [.lit (.int .i64 0),.lit (.int .i64 2)]) rfl rfl rfl rfl ⟨rfl,rfl⟩
noncomputable def Ref15.IsText.s0 (s0:ByteArray) (i3:Int):Option (Int ⊕ Bool) :=
  letk ((s0.size:Int)) fun t6 =>
  letk (decide (i3 < t6)) fun t7 =>
  bif t7 then
    chk (0 ≤ i3 ∧ i3 < (s0.size:Int)) <|
    letk (bt s0 i3) fun t12 =>
    letk (t12 != (10:Int)) fun t13 =>
    bif t13 then
      chk (0 ≤ i3 ∧ i3 < (s0.size:Int)) <|
      letk (bt s0 i3) fun t17 =>
      letk (decide (t17 < (32:Int))) fun t18 =>
      bif t18 then
        some (.inr false)
      else
        chk (0 ≤ i3 ∧ i3 < (s0.size:Int)) <|
        letk (bt s0 i3) fun t22 =>
        letk (decide (t22 > (126:Int))) fun t23 =>
        bif t23 then
          some (.inr false)
        else
          letk (IntKind.i64.wrap (i3 + (1:Int))) fun t9_1 =>
          some (.inl t9_1)
    else
      letk (IntKind.i64.wrap (i3 + (1:Int))) fun t9 =>
      some (.inl t9)
  else
    ((
    letk ((s0.size:Int)) fun t27 =>
    letk (decide (t27 ≤ (8000:Int))) fun t28 =>
    some t28)).map .inr
noncomputable def Ref15.IsText.l0 (s0:ByteArray) (i3:Int):Option Bool:=loopO (fun v:Int=>Ref15.IsText.s0 s0 v) i3
noncomputable def Ref15.IsText (s0:ByteArray):Option Bool :=
  Ref15.IsText.l0 s0 0
theorem Ref15.IsText_ok {s0:ByteArray} {r:Bool} (h0:Ref15.IsText s0 = some r):Gives Tryz.prog 33 [.lit (.string s0)] (.lit (.bool r)):=by
  unfold Ref15.IsText at h0
  refine ACalls.of_swp Tryz.func33 rfl (by decide) rfl (st0:=⟨29,[(0,.lit (.string s0))],[]⟩) rfl (bwp_ok (C:=[]) ?_)
  conv=>whnf
  unfold Ref15.IsText.l0 at h0
  refine LoopB.of (σ:=Int) (ρ:=Bool) (fun v:Int=>Ref15.IsText.s0 s0 v) (fun v=>(⟨29,[(0,.lit (.string s0)),(3,.lit (.int .i64 v))],[]⟩:St)) 0 h0 (BackS.by rfl (Sees.e ⟨.s,.s,trivial⟩)) ?_
  clear h0
  rintro K1 i3 x1 hs0_0 hl1 hr1
  replace hs0_0:Ref15.IsText.s0 s0 i3 = some x1:=hs0_0
  unfold Ref15.IsText.s0 at hs0_0
  change bwp _ _ _ _ _ (⟨29,[(0,.lit (.string s0)),(3,.lit (.int .i64 i3))],[]⟩:St)
  obtain ⟨t6,et6,hs0_1⟩:=letk_elim hs0_0; clear hs0_0
  conv=>whnf
  refine Nm.mk ⟨t6,et6,?_⟩
  obtain ⟨t7,et7,hs0_2⟩:=letk_elim hs0_1; clear hs0_1
  conv=>whnf
  refine Nm.mk ⟨t7,et7,?_⟩
  rcases t7 with _ | _
  · have hs0_3:=bif_f hs0_2
    clear hs0_2
    obtain ⟨yhs0_3_0,hs0_3u,ehs0_3_0⟩:=map_elim hs0_3
    have ehs0_3_0:=(hr1 _ ehs0_3_0.symm).symm
    subst ehs0_3_0
    obtain ⟨t27,et27,hs0_3u0⟩:=letk_elim hs0_3u; clear hs0_3u
    conv=>whnf
    refine Nm.mk ⟨t27,et27,?_⟩
    obtain ⟨t28,et28,hs0_3u1⟩:=letk_elim hs0_3u0; clear hs0_3u0
    conv=>whnf
    refine Nm.mk ⟨t28,et28,?_⟩
    have ehs0_3u1_0:=Option.some.inj hs0_3u1
    subst ehs0_3u1_0
    conv=>whnf
    exact Returns.pure (r:=.lit (.bool t28)) rfl rfl rfl rfl ⟨rfl,rfl⟩
  have hs0_3:=bif_t hs0_2
  clear hs0_2
  obtain ⟨chs0_4,hs0_4⟩:=chk_elim hs0_3; clear hs0_3
  obtain ⟨t12,et12,hs0_5⟩:=letk_elim hs0_4; clear hs0_4
  conv=>whnf
  refine Side.mk chs0_4 ?_
  conv=>whnf
  refine Nm.mk ⟨t12,et12,?_⟩
  obtain ⟨t13,et13,hs0_6⟩:=letk_elim hs0_5; clear hs0_5
  conv=>whnf
  refine Nm.mk ⟨t13,et13,?_⟩
  rcases t13 with _ | _
  · have hs0_7:=bif_f hs0_6
    clear hs0_6
    obtain ⟨t9,et9,hs0_8⟩:=letk_elim hs0_7; clear hs0_7
    conv=>whnf
    refine Nm.mk ⟨t9,et9,?_⟩
    exact BackS.by ⟨_,hl1 _ (Option.some.inj hs0_8).symm,rfl⟩ (Sees.e ⟨.s,.s,trivial⟩)
  have hs0_7:=bif_t hs0_6
  clear hs0_6
  obtain ⟨chs0_8,hs0_8⟩:=chk_elim hs0_7; clear hs0_7
  obtain ⟨t17,et17,hs0_9⟩:=letk_elim hs0_8; clear hs0_8
  conv=>whnf
  refine Side.mk chs0_8 ?_
  conv=>whnf
  refine Nm.mk ⟨t17,et17,?_⟩
  obtain ⟨t18,et18,hs0_10⟩:=letk_elim hs0_9; clear hs0_9
  conv=>whnf
  refine Nm.mk ⟨t18,et18,?_⟩
  rcases t18 with _ | _
  · have hs0_11:=bif_f hs0_10
    clear hs0_10
    obtain ⟨chs0_12,hs0_12⟩:=chk_elim hs0_11; clear hs0_11
    obtain ⟨t22,et22,hs0_13⟩:=letk_elim hs0_12; clear hs0_12
    conv=>whnf
    refine Side.mk chs0_12 ?_
    conv=>whnf
    refine Nm.mk ⟨t22,et22,?_⟩
    obtain ⟨t23,et23,hs0_14⟩:=letk_elim hs0_13; clear hs0_13
    conv=>whnf
    refine Nm.mk ⟨t23,et23,?_⟩
    rcases t23 with _ | _
    · have hs0_15:=bif_f hs0_14
      clear hs0_14
      obtain ⟨t9_1,et9_1,hs0_16⟩:=letk_elim hs0_15; clear hs0_15
      conv=>whnf
      refine Nm.mk ⟨t9_1,et9_1,?_⟩
      exact BackS.by ⟨_,hl1 _ (Option.some.inj hs0_16).symm,rfl⟩ (Sees.e ⟨.s,.s,trivial⟩)
    have hs0_15:=bif_t hs0_14
    clear hs0_14
    have ehs0_15_0:=hr1 _ (Option.some.inj hs0_15).symm
    subst ehs0_15_0
    conv=>whnf
    exact Returns.pure (r:=.lit (.bool false)) rfl rfl rfl rfl ⟨rfl,rfl⟩
  have hs0_11:=bif_t hs0_10
  clear hs0_10
  have ehs0_11_0:=hr1 _ (Option.some.inj hs0_11).symm
  subst ehs0_11_0
  conv=>whnf
  exact Returns.pure (r:=.lit (.bool false)) rfl rfl rfl rfl ⟨rfl,rfl⟩
noncomputable def Ref15.reader.blanks.j0 (r0_0_2:ByteArray) (r0_1_2:Int) (r0_2_2:Bool) (r0_3_2:Int) (r0_4_2:ByteArray) (r0_5_2:Bool):Option ((ByteArray × Int × Bool × Int × ByteArray × Bool) ⊕ (ByteArray × Int × Bool × Int × ByteArray × Bool)) :=
  letk (IntKind.i64.wrap (r0_1_2 + (1:Int))) fun t40 =>
  some (.inl (r0_0_2,t40,r0_2_2,r0_3_2,r0_4_2,r0_5_2))
noncomputable def Ref15.reader.blanks.s0 (r0_0_1:ByteArray) (r0_1_1:Int) (r0_2_1:Bool) (r0_3_1:Int) (r0_4_1:ByteArray) (r0_5_1:Bool):Option ((ByteArray × Int × Bool × Int × ByteArray × Bool) ⊕ (ByteArray × Int × Bool × Int × ByteArray × Bool)) :=
  letk ((r0_0_1.size:Int)) fun t10 =>
  letk (decide (r0_1_1 < t10)) fun t11 =>
  bif t11 then
    chk (0 ≤ r0_1_1 ∧ r0_1_1 < (r0_0_1.size:Int)) <|
    letk (bt r0_0_1 r0_1_1) fun t21 =>
    letk (t21 == (32:Int)) fun t22 =>
    bif t22 then
      Ref15.reader.blanks.j0 r0_0_1 r0_1_1 r0_2_1 r0_3_1 r0_4_1 r0_5_1
    else
      chk (0 ≤ r0_1_1 ∧ r0_1_1 < (r0_0_1.size:Int)) <|
      letk (bt r0_0_1 r0_1_1) fun t32 =>
      letk (t32 == (10:Int)) fun t33 =>
      bif t33 then
        Ref15.reader.blanks.j0 r0_0_1 r0_1_1 r0_2_1 r0_3_1 r0_4_1 r0_5_1
      else
        some (.inr (r0_0_1,r0_1_1,r0_2_1,r0_3_1,r0_4_1,r0_5_1))
  else
    some (.inr (r0_0_1,r0_1_1,r0_2_1,r0_3_1,r0_4_1,r0_5_1))
noncomputable def Ref15.reader.blanks.l0 (r0_0_1:ByteArray) (r0_1_1:Int) (r0_2_1:Bool) (r0_3_1:Int) (r0_4_1:ByteArray) (r0_5_1:Bool):Option (ByteArray × Int × Bool × Int × ByteArray × Bool):=loopO (fun v:ByteArray × Int × Bool × Int × ByteArray × Bool=>Ref15.reader.blanks.s0 v.1 v.2.1 v.2.2.1 v.2.2.2.1 v.2.2.2.2.1 v.2.2.2.2.2) (r0_0_1,r0_1_1,r0_2_1,r0_3_1,r0_4_1,r0_5_1)
noncomputable def Ref15.reader.blanks (r0_0:ByteArray) (r0_1:Int) (r0_2:Bool) (r0_3:Int) (r0_4:ByteArray) (r0_5:Bool):Option (ByteArray × Int × Bool × Int × ByteArray × Bool) :=
  Ref15.reader.blanks.l0 r0_0 r0_1 r0_2 r0_3 r0_4 r0_5
theorem Ref15.reader.blanks_ok {r0_0:ByteArray} {r0_1:Int} {r0_2:Bool} {r0_3:Int} {r0_4:ByteArray} {r0_5:Bool} {r:ByteArray × Int × Bool × Int × ByteArray × Bool} (h0:Ref15.reader.blanks r0_0 r0_1 r0_2 r0_3 r0_4 r0_5 = some r):GivesK Tryz.prog 75 [.ptr 0 0] [.box [.lit (.string r0_0),.lit (.int .i64 r0_1),.lit (.bool r0_2),.lit (.int .i64 r0_3),.lit (.string r0_4),.lit (.bool r0_5)]] 1 (.tup []) [.box [.lit (.string r.1),.lit (.int .i64 r.2.1),.lit (.bool r.2.2.1),.lit (.int .i64 r.2.2.2.1),.lit (.string r.2.2.2.2.1),.lit (.bool r.2.2.2.2.2)]]:=by
  unfold Ref15.reader.blanks at h0
  refine ACallsK.of_swp Tryz.func75 rfl (by decide) rfl (st0:=⟨43,[(0,.ptr 0 0)],[.box [.lit (.string r0_0),.lit (.int .i64 r0_1),.lit (.bool r0_2),.lit (.int .i64 r0_3),.lit (.string r0_4),.lit (.bool r0_5)]]⟩) rfl rfl (bwp_ok (C:=[(1,1)]) ?_)
  conv=>whnf
  unfold Ref15.reader.blanks.l0 at h0
  refine LoopB.of (σ:=ByteArray × Int × Bool × Int × ByteArray × Bool) (ρ:=ByteArray × Int × Bool × Int × ByteArray × Bool) (fun v:ByteArray × Int × Bool × Int × ByteArray × Bool=>Ref15.reader.blanks.s0 v.1 v.2.1 v.2.2.1 v.2.2.2.1 v.2.2.2.2.1 v.2.2.2.2.2) (fun v=>(⟨43,[(0,.ptr 0 0)],[.box [.lit (.string v.1),.lit (.int .i64 v.2.1),.lit (.bool v.2.2.1),.lit (.int .i64 v.2.2.2.1),.lit (.string v.2.2.2.2.1),.lit (.bool v.2.2.2.2.2)]]⟩:St)) (r0_0,r0_1,r0_2,r0_3,r0_4,r0_5) h0 (BackS.by rfl (Sees.of (Weak.objs (keep:=[0]) (frz:=[]) (m:=0) rfl (by decide) rfl rfl ⟨⟨_,rfl,WO.boxs ⟨.s,.s,.s,.s,.s,.s,trivial⟩⟩,⟨rfl,fun _ h=>by cases h⟩⟩ ⟨(.ptr _ _ 0 rfl),trivial⟩))) ?_
  clear h0
  rintro K1 ⟨r0_0_1,r0_1_1,r0_2_1,r0_3_1,r0_4_1,r0_5_1⟩ x1 hs0_0 hl1 hr1
  replace hs0_0:Ref15.reader.blanks.s0 r0_0_1 r0_1_1 r0_2_1 r0_3_1 r0_4_1 r0_5_1 = some x1:=hs0_0
  unfold Ref15.reader.blanks.s0 at hs0_0
  change bwp _ _ _ _ _ (⟨43,[(0,.ptr 0 0)],[.box [.lit (.string r0_0_1),.lit (.int .i64 r0_1_1),.lit (.bool r0_2_1),.lit (.int .i64 r0_3_1),.lit (.string r0_4_1),.lit (.bool r0_5_1)]]⟩:St)
  conv=>whnf
  refine CutN.of (fun s=>∃ (r0_0_2:ByteArray) (r0_1_2:Int) (r0_2_2:Bool) (r0_3_2:Int) (r0_4_2:ByteArray) (r0_5_2:Bool),Ref15.reader.blanks.j0 r0_0_2 r0_1_2 r0_2_2 r0_3_2 r0_4_2 r0_5_2 = some x1 ∧ s = (⟨43,[(0,.ptr 0 0)],[.box [.lit (.string r0_0_2),.lit (.int .i64 r0_1_2),.lit (.bool r0_2_2),.lit (.int .i64 r0_3_2),.lit (.string r0_4_2),.lit (.bool r0_5_2)]]⟩:St)) ?_ ?_
  · conv=>whnf
    refine DrawB.ofG [none,none,none,none,none,none,none,none,none,none,none,some 12,some 12,some 12,some 12,some 12,some 12,some 12,some 12,some 12,some 12,some 12,some 23,some 23,some 23,some 23,some 23,some 23,some 23,some 23,some 23,some 23,some 12,none] Tryz_mixed (by kernel_rfl) (by kernel_rfl) ?_
    conv=>whnf
    refine DNodeB.of (.ptr 0 0) ?_ ?_
    · conv=>whnf
      rfl
    conv=>whnf
    refine DNodeB.of (.ptr 0 0) ?_ ?_
    · conv=>whnf
      rfl
    conv=>whnf
    refine DNodeB.of (.ptr 0 1) ?_ ?_
    · conv=>whnf
      rfl
    conv=>whnf
    refine DNodeB.of (.lit (.int .i64 r0_1_1)) ?_ ?_
    · conv=>whnf
      rfl
    conv=>whnf
    refine DNodeB.of (.ptr 0 0) ?_ ?_
    · conv=>whnf
      rfl
    conv=>whnf
    refine DNodeB.of (.ptr 0 0) ?_ ?_
    · conv=>whnf
      rfl
    conv=>whnf
    refine DNodeB.of (.ptr 0 0) ?_ ?_
    · conv=>whnf
      rfl
    conv=>whnf
    refine DNodeB.of (.lit (.string r0_0_1)) ?_ ?_
    · conv=>whnf
      rfl
    obtain ⟨t10,et10,hs0_1⟩:=letk_elim hs0_0; clear hs0_0
    conv=>whnf
    refine DNodeB.of (.lit (.int .i64 t10)) ?_ ?_
    · conv=>whnf
      refine Nm.mk ⟨t10,et10,?_⟩
      conv=>whnf
      rfl
    obtain ⟨t11,et11,hs0_2⟩:=letk_elim hs0_1; clear hs0_1
    conv=>whnf
    refine DNodeB.of (.lit (.bool t11)) ?_ ?_
    · conv=>whnf
      refine Nm.mk ⟨t11,et11,?_⟩
      conv=>whnf
      rfl
    conv=>whnf
    refine DNodeB.of (.lit (.bool t11)) ?_ ?_
    · conv=>whnf
      rfl
    rcases t11 with _ | _
    · have hs0_3:=bif_f hs0_2
      clear hs0_2
      conv=>whnf
      refine DNodeB.of (.lit (.bool false)) ?_ ?_
      · conv=>whnf
        rfl
      have ehs0_3u_0:=hr1 _ (Option.some.inj hs0_3).symm
      have hs0_3u:=congrArg some ehs0_3u_0
      have ehs0_3u_0:=Option.some.inj hs0_3u
      subst ehs0_3u_0
      conv=>whnf
      exact Returns.hand (v:=.tup []) (keep:=[0]) (frz:=[]) (m:=0) (h':=[.box [.lit (.string r0_0_1),.lit (.int .i64 r0_1_1),.lit (.bool r0_2_1),.lit (.int .i64 r0_3_1),.lit (.string r0_4_1),.lit (.bool r0_5_1)]]) rfl rfl (WH.of (by decide) rfl rfl ⟨⟨_,rfl,WO.boxs ⟨.s,.s,.s,.s,.s,.s,trivial⟩⟩,⟨rfl,fun _ h=>by cases h⟩⟩) (WV.tups trivial) ⟨rfl,rfl⟩
    have hs0_3:=bif_t hs0_2
    clear hs0_2
    conv=>whnf
    refine DNodeB.of (.ptr 0 0) ?_ ?_
    · conv=>whnf
      rfl
    conv=>whnf
    refine DNodeB.of (.ptr 0 0) ?_ ?_
    · conv=>whnf
      rfl
    conv=>whnf
    refine DNodeB.of (.ptr 0 0) ?_ ?_
    · conv=>whnf
      rfl
    conv=>whnf
    refine DNodeB.of (.lit (.string r0_0_1)) ?_ ?_
    · conv=>whnf
      rfl
    conv=>whnf
    refine DNodeB.of (.ptr 0 0) ?_ ?_
    · conv=>whnf
      rfl
    conv=>whnf
    refine DNodeB.of (.ptr 0 0) ?_ ?_
    · conv=>whnf
      rfl
    conv=>whnf
    refine DNodeB.of (.ptr 0 1) ?_ ?_
    · conv=>whnf
      rfl
    conv=>whnf
    refine DNodeB.of (.lit (.int .i64 r0_1_1)) ?_ ?_
    · conv=>whnf
      rfl
    obtain ⟨chs0_4,hs0_4⟩:=chk_elim hs0_3; clear hs0_3
    obtain ⟨t21,et21,hs0_5⟩:=letk_elim hs0_4; clear hs0_4
    conv=>whnf
    refine DNodeB.of (.lit (.int .u8 t21)) ?_ ?_
    · conv=>whnf
      refine Side.mk chs0_4 ?_
      conv=>whnf
      refine Nm.mk ⟨t21,et21,?_⟩
      conv=>whnf
      rfl
    obtain ⟨t22,et22,hs0_6⟩:=letk_elim hs0_5; clear hs0_5
    conv=>whnf
    refine DNodeB.of (.lit (.bool t22)) ?_ ?_
    · conv=>whnf
      refine Nm.mk ⟨t22,et22,?_⟩
      conv=>whnf
      rfl
    conv=>whnf
    refine DNodeB.of (.lit (.bool t22)) ?_ ?_
    · conv=>whnf
      rfl
    rcases t22 with _ | _
    · have hs0_7:=bif_f hs0_6
      clear hs0_6
      conv=>whnf
      refine DNodeB.of (.ptr 0 0) ?_ ?_
      · conv=>whnf
        rfl
      conv=>whnf
      refine DNodeB.of (.ptr 0 0) ?_ ?_
      · conv=>whnf
        rfl
      conv=>whnf
      refine DNodeB.of (.ptr 0 0) ?_ ?_
      · conv=>whnf
        rfl
      conv=>whnf
      refine DNodeB.of (.lit (.string r0_0_1)) ?_ ?_
      · conv=>whnf
        rfl
      conv=>whnf
      refine DNodeB.of (.ptr 0 0) ?_ ?_
      · conv=>whnf
        rfl
      conv=>whnf
      refine DNodeB.of (.ptr 0 0) ?_ ?_
      · conv=>whnf
        rfl
      conv=>whnf
      refine DNodeB.of (.ptr 0 1) ?_ ?_
      · conv=>whnf
        rfl
      conv=>whnf
      refine DNodeB.of (.lit (.int .i64 r0_1_1)) ?_ ?_
      · conv=>whnf
        rfl
      obtain ⟨chs0_8,hs0_8⟩:=chk_elim hs0_7; clear hs0_7
      obtain ⟨t32,et32,hs0_9⟩:=letk_elim hs0_8; clear hs0_8
      conv=>whnf
      refine DNodeB.of (.lit (.int .u8 t32)) ?_ ?_
      · conv=>whnf
        refine Side.mk chs0_8 ?_
        conv=>whnf
        refine Nm.mk ⟨t32,et32,?_⟩
        conv=>whnf
        rfl
      obtain ⟨t33,et33,hs0_10⟩:=letk_elim hs0_9; clear hs0_9
      conv=>whnf
      refine DNodeB.of (.lit (.bool t33)) ?_ ?_
      · conv=>whnf
        refine Nm.mk ⟨t33,et33,?_⟩
        conv=>whnf
        rfl
      conv=>whnf
      refine DNodeB.of (.lit (.bool t33)) ?_ ?_
      · conv=>whnf
        rfl
      conv=>whnf
      refine DNodeB.of (.lit (.bool t33)) ?_ ?_
      · conv=>whnf
        rfl
      rcases t33 with _ | _
      · have hs0_11:=bif_f hs0_10
        clear hs0_10
        have ehs0_11u_0:=hr1 _ (Option.some.inj hs0_11).symm
        have hs0_11u:=congrArg some ehs0_11u_0
        have ehs0_11u_0:=Option.some.inj hs0_11u
        subst ehs0_11u_0
        conv=>whnf
        exact Returns.hand (v:=.tup []) (keep:=[0]) (frz:=[]) (m:=0) (h':=[.box [.lit (.string r0_0_1),.lit (.int .i64 r0_1_1),.lit (.bool r0_2_1),.lit (.int .i64 r0_3_1),.lit (.string r0_4_1),.lit (.bool r0_5_1)]]) rfl rfl (WH.of (by decide) rfl rfl ⟨⟨_,rfl,WO.boxs ⟨.s,.s,.s,.s,.s,.s,trivial⟩⟩,⟨rfl,fun _ h=>by cases h⟩⟩) (WV.tups trivial) ⟨rfl,rfl⟩
      have hs0_11:=bif_t hs0_10
      clear hs0_10
      exact BackS.by ⟨_,_,_,_,_,_,hs0_11,rfl⟩ (Sees.of (Weak.objs (keep:=[0]) (frz:=[]) (m:=0) rfl (by decide) rfl rfl ⟨⟨_,rfl,WO.boxs ⟨.s,.s,.s,.s,.s,.s,trivial⟩⟩,⟨rfl,fun _ h=>by cases h⟩⟩ ⟨(.ptr _ _ 0 rfl),trivial⟩))
    have hs0_7:=bif_t hs0_6
    clear hs0_6
    conv=>whnf
    refine DNodeB.of (.lit (.bool true)) ?_ ?_
    · conv=>whnf
      rfl
    conv=>whnf
    refine DNodeB.of (.lit (.bool true)) ?_ ?_
    · conv=>whnf
      rfl
    exact BackS.by ⟨_,_,_,_,_,_,hs0_7,rfl⟩ (Sees.of (Weak.objs (keep:=[0]) (frz:=[]) (m:=0) rfl (by decide) rfl rfl ⟨⟨_,rfl,WO.boxs ⟨.s,.s,.s,.s,.s,.s,trivial⟩⟩,⟨rfl,fun _ h=>by cases h⟩⟩ ⟨(.ptr _ _ 0 rfl),trivial⟩))
  clear hs0_0
  rintro s ⟨r0_0_2,r0_1_2,r0_2_2,r0_3_2,r0_4_2,r0_5_2,hj0,rfl⟩
  unfold Ref15.reader.blanks.j0 at hj0
  obtain ⟨t40,et40,hj1⟩:=letk_elim hj0; clear hj0
  conv=>whnf
  refine Nm.mk ⟨t40,et40,?_⟩
  conv=>whnf
  refine Nm.mk ⟨[.lit (.string r0_0_2),.lit (.int .i64 t40),.lit (.bool r0_2_2),.lit (.int .i64 r0_3_2),.lit (.string r0_4_2),.lit (.bool r0_5_2)],rfl,?_⟩
  exact BackS.by ⟨_,hl1 _ (Option.some.inj hj1).symm,rfl⟩ (Sees.of (Weak.objs (keep:=[0]) (frz:=[]) (m:=0) rfl (by decide) rfl rfl ⟨⟨_,rfl,WO.boxs ⟨.s,.s,.s,.s,.s,.s,trivial⟩⟩,⟨rfl,fun _ h=>by cases h⟩⟩ ⟨(.ptr _ _ 0 rfl),trivial⟩))
noncomputable def Ref15.digit (c0:Int):Option Bool :=
  letk (decide (c0 ≥ (48:Int))) fun t4 =>
  bif t4 then
    letk (decide (c0 ≤ (57:Int))) fun t7 =>
    some t7
  else
    some false
theorem Ref15.digit_ok {c0:Int} {r:Bool} (h0:Ref15.digit c0 = some r):Gives Tryz.prog 133 [.lit (.int .u8 c0)] (.lit (.bool r)):=by
  unfold Ref15.digit at h0
  refine ACalls.of_swp Tryz.func133 rfl (by decide) rfl (st0:=⟨9,[(0,.lit (.int .u8 c0))],[]⟩) rfl (bwp_ok (C:=[]) ?_)
  obtain ⟨t4,et4,h1⟩:=letk_elim h0; clear h0
  conv=>whnf
  refine Nm.mk ⟨t4,et4,?_⟩
  rcases t4 with _ | _
  · have h2:=bif_f h1
    clear h1
    have eh2_0:=Option.some.inj h2
    subst eh2_0
    conv=>whnf
    exact Returns.pure (r:=.lit (.bool false)) rfl rfl rfl rfl ⟨rfl,rfl⟩
  have h2:=bif_t h1
  clear h1
  obtain ⟨t7,et7,h3⟩:=letk_elim h2; clear h2
  conv=>whnf
  refine Nm.mk ⟨t7,et7,?_⟩
  have eh3_0:=Option.some.inj h3
  subst eh3_0
  conv=>whnf
  exact Returns.pure (r:=.lit (.bool t7)) rfl rfl rfl rfl ⟨rfl,rfl⟩
noncomputable def Ref15.reader.repeats.j1 (s1:ByteArray) (star4:Int) (n6:Int) (r0_0_3:ByteArray) (r0_1_3:Int) (r0_2_3:Bool) (r0_3_3:Int) (r0_4_3:ByteArray) (r0_5_3:Bool):Option (ByteArray × Int × Bool × Int × ByteArray × Bool) :=
  letk (IntKind.i64.wrap (star4 + (1:Int))) fun t71 =>
  chk (0 ≤ t71 ∧ t71 ≤ (s1.size:Int)) <|
  letk (s1.extract t71.toNat s1.size) fun t72 =>
  some (r0_0_3,r0_1_3,r0_2_3,n6,t72,r0_5_3)
noncomputable def Ref15.reader.repeats.j2 (s1:ByteArray) (star4:Int) (r0_0_2:ByteArray) (r0_1_2:Int) (r0_3_2:Int) (r0_4_2:ByteArray) (n6:Int) (r0_2_4:Bool) (r0_5_4:Bool) (t62:Bool):Option (ByteArray × Int × Bool × Int × ByteArray × Bool) :=
  bif t62 then
    some (r0_0_2,r0_1_2,r0_2_4,r0_3_2,r0_4_2,true)
  else
    Ref15.reader.repeats.j1 s1 star4 n6 r0_0_2 r0_1_2 r0_2_4 r0_3_2 r0_4_2 r0_5_4
noncomputable def Ref15.reader.repeats.s0 (s1:ByteArray) (star4:Int) (r0_0_2:ByteArray) (r0_1_2:Int) (r0_2_2:Bool) (r0_3_2:Int) (r0_4_2:ByteArray) (r0_5_2:Bool) (n6:Int) (i7:Int):Option ((ByteArray × Int × Bool × Int × ByteArray × Bool × Int × Int) ⊕ (ByteArray × Int × Bool × Int × ByteArray × Bool)) :=
  letk (decide (i7 < star4)) fun t37 =>
  bif t37 then
    chk (0 ≤ i7 ∧ i7 < (s1.size:Int)) <|
    letk (bt s1 i7) fun t42 =>
    Option.bind (Ref15.digit t42) fun t43 =>
    letk (!t43) fun t44 =>
    bif t44 then
      some (.inr (r0_0_2,r0_1_2,r0_2_2,r0_3_2,r0_4_2,true))
    else
      letk (IntKind.i64.wrap ((10:Int) * n6)) fun t49 =>
      chk (0 ≤ i7 ∧ i7 < (s1.size:Int)) <|
      letk (bt s1 i7) fun t52 =>
      letk (IntKind.u8.wrap (t52 - (48:Int))) fun t53 =>
      letk (IntKind.i64.wrap t53) fun t54 =>
      letk (IntKind.i64.wrap (t49 + t54)) fun t55 =>
      letk (if 1000 < t55 then 1000 else t55) fun t56 =>
      letk (IntKind.i64.wrap (i7 + (1:Int))) fun t39 =>
      some (.inl (r0_0_2,r0_1_2,r0_2_2,r0_3_2,r0_4_2,r0_5_2,t56,t39))
  else
    ((
    letk (decide (n6 < (1:Int))) fun t58 =>
    bif t58 then
      Ref15.reader.repeats.j2 s1 star4 r0_0_2 r0_1_2 r0_3_2 r0_4_2 n6 r0_2_2 r0_5_2 true
    else
      letk (decide (n6 > (999:Int))) fun t61 =>
      Ref15.reader.repeats.j2 s1 star4 r0_0_2 r0_1_2 r0_3_2 r0_4_2 n6 r0_2_2 r0_5_2 t61)).map .inr
noncomputable def Ref15.reader.repeats.l0 (s1:ByteArray) (star4:Int) (r0_0_2:ByteArray) (r0_1_2:Int) (r0_2_2:Bool) (r0_3_2:Int) (r0_4_2:ByteArray) (r0_5_2:Bool) (n6:Int) (i7:Int):Option (ByteArray × Int × Bool × Int × ByteArray × Bool):=loopO (fun v:ByteArray × Int × Bool × Int × ByteArray × Bool × Int × Int=>Ref15.reader.repeats.s0 s1 star4 v.1 v.2.1 v.2.2.1 v.2.2.2.1 v.2.2.2.2.1 v.2.2.2.2.2.1 v.2.2.2.2.2.2.1 v.2.2.2.2.2.2.2) (r0_0_2,r0_1_2,r0_2_2,r0_3_2,r0_4_2,r0_5_2,n6,i7)
noncomputable def Ref15.reader.repeats.j0 (s1:ByteArray) (r0_0_1:ByteArray) (r0_1_1:Int) (r0_2_1:Bool) (r0_3_1:Int) (r0_4_1:ByteArray) (r0_5_1:Bool) (star4:Int):Option (ByteArray × Int × Bool × Int × ByteArray × Bool) :=
  letk (decide (star4 < (0:Int))) fun t34 =>
  bif t34 then
    some (r0_0_1,r0_1_1,r0_2_1,r0_3_1,r0_4_1,r0_5_1)
  else
    Ref15.reader.repeats.l0 s1 star4 r0_0_1 r0_1_1 r0_2_1 r0_3_1 r0_4_1 r0_5_1 0 0
noncomputable def Ref15.reader.repeats.j3 (s1:ByteArray) (star4_1:Int) (i5:Int) (r0_0_5:ByteArray) (r0_1_5:Int) (r0_2_6:Bool) (r0_3_5:Int) (r0_4_5:ByteArray) (r0_5_6:Bool):Option ((ByteArray × Int × Bool × Int × ByteArray × Bool × Int × Int) ⊕ (ByteArray × Int × Bool × Int × ByteArray × Bool)) :=
  chk (0 ≤ i5 ∧ i5 < (s1.size:Int)) <|
  letk (bt s1 i5) fun t30 =>
  letk (t30 == (42:Int)) fun t31 =>
  bif t31 then
    letk (IntKind.i64.wrap (i5 + (1:Int))) fun t27_1 =>
    some (.inl (r0_0_5,r0_1_5,r0_2_6,r0_3_5,r0_4_5,r0_5_6,i5,t27_1))
  else
    letk (IntKind.i64.wrap (i5 + (1:Int))) fun t27 =>
    some (.inl (r0_0_5,r0_1_5,r0_2_6,r0_3_5,r0_4_5,r0_5_6,star4_1,t27))
noncomputable def Ref15.reader.repeats.s1 (s1:ByteArray) (r0_0_4:ByteArray) (r0_1_4:Int) (r0_2_5:Bool) (r0_3_4:Int) (r0_4_4:ByteArray) (r0_5_5:Bool) (star4_1:Int) (i5:Int):Option ((ByteArray × Int × Bool × Int × ByteArray × Bool × Int × Int) ⊕ (ByteArray × Int × Bool × Int × ByteArray × Bool)) :=
  letk ((s1.size:Int)) fun t20 =>
  letk (decide (i5 < t20)) fun t21 =>
  bif t21 then
    letk (decide (star4_1 < (0:Int))) fun t24 =>
    bif t24 then
      Ref15.reader.repeats.j3 s1 star4_1 i5 r0_0_4 r0_1_4 r0_2_5 r0_3_4 r0_4_4 r0_5_5
    else
      (Ref15.reader.repeats.j0 s1 r0_0_4 r0_1_4 r0_2_5 r0_3_4 r0_4_4 r0_5_5 star4_1).map .inr
  else
    (Ref15.reader.repeats.j0 s1 r0_0_4 r0_1_4 r0_2_5 r0_3_4 r0_4_4 r0_5_5 star4_1).map .inr
noncomputable def Ref15.reader.repeats.l1 (s1:ByteArray) (r0_0_4:ByteArray) (r0_1_4:Int) (r0_2_5:Bool) (r0_3_4:Int) (r0_4_4:ByteArray) (r0_5_5:Bool) (star4_1:Int) (i5:Int):Option (ByteArray × Int × Bool × Int × ByteArray × Bool):=loopO (fun v:ByteArray × Int × Bool × Int × ByteArray × Bool × Int × Int=>Ref15.reader.repeats.s1 s1 v.1 v.2.1 v.2.2.1 v.2.2.2.1 v.2.2.2.2.1 v.2.2.2.2.2.1 v.2.2.2.2.2.2.1 v.2.2.2.2.2.2.2) (r0_0_4,r0_1_4,r0_2_5,r0_3_4,r0_4_4,r0_5_5,star4_1,i5)
noncomputable def Ref15.reader.repeats (r0_0:ByteArray) (r0_1:Int) (r0_2:Bool) (r0_3:Int) (r0_4:ByteArray) (r0_5:Bool) (s1:ByteArray):Option (ByteArray × Int × Bool × Int × ByteArray × Bool) :=
  Ref15.reader.repeats.l1 s1 r0_0 r0_1 r0_2 1 s1 false ((-1)) 0
theorem Ref15.reader.repeats_ok {r0_0:ByteArray} {r0_1:Int} {r0_2:Bool} {r0_3:Int} {r0_4:ByteArray} {r0_5:Bool} {s1:ByteArray} {r:ByteArray × Int × Bool × Int × ByteArray × Bool} (h0:Ref15.reader.repeats r0_0 r0_1 r0_2 r0_3 r0_4 r0_5 s1 = some r):GivesK Tryz.prog 76 [.ptr 0 0,.lit (.string s1)] [.box [.lit (.string r0_0),.lit (.int .i64 r0_1),.lit (.bool r0_2),.lit (.int .i64 r0_3),.lit (.string r0_4),.lit (.bool r0_5)]] 1 (.tup []) [.box [.lit (.string r.1),.lit (.int .i64 r.2.1),.lit (.bool r.2.2.1),.lit (.int .i64 r.2.2.2.1),.lit (.string r.2.2.2.2.1),.lit (.bool r.2.2.2.2.2)]]:=by
  unfold Ref15.reader.repeats at h0
  refine ACallsK.of_swp Tryz.func76 rfl (by decide) rfl (st0:=⟨77,[(0,.ptr 0 0),(1,.lit (.string s1))],[.box [.lit (.string r0_0),.lit (.int .i64 r0_1),.lit (.bool r0_2),.lit (.int .i64 r0_3),.lit (.string r0_4),.lit (.bool r0_5)]]⟩) rfl rfl (bwp_ok (C:=[(0,7),(0,17),(72,33),(1,1)]) ?_)
  conv=>whnf
  refine Nm.mk ⟨[.lit (.string r0_0),.lit (.int .i64 r0_1),.lit (.bool r0_2),.lit (.int .i64 1),.lit (.string r0_4),.lit (.bool r0_5)],rfl,?_⟩
  conv=>whnf
  refine Nm.mk ⟨[.lit (.string r0_0),.lit (.int .i64 r0_1),.lit (.bool r0_2),.lit (.int .i64 1),.lit (.string s1),.lit (.bool r0_5)],rfl,?_⟩
  conv=>whnf
  refine Nm.mk ⟨[.lit (.string r0_0),.lit (.int .i64 r0_1),.lit (.bool r0_2),.lit (.int .i64 1),.lit (.string s1),.lit (.bool false)],rfl,?_⟩
  conv=>whnf
  refine CutN.of (fun s=>∃ (r0_0_1:ByteArray) (r0_1_1:Int) (r0_2_1:Bool) (r0_3_1:Int) (r0_4_1:ByteArray) (r0_5_1:Bool) (star4:Int),Ref15.reader.repeats.j0 s1 r0_0_1 r0_1_1 r0_2_1 r0_3_1 r0_4_1 r0_5_1 star4 = some r ∧ s = (⟨77,[(0,.ptr 0 0),(1,.lit (.string s1)),(4,.lit (.int .i64 star4))],[.box [.lit (.string r0_0_1),.lit (.int .i64 r0_1_1),.lit (.bool r0_2_1),.lit (.int .i64 r0_3_1),.lit (.string r0_4_1),.lit (.bool r0_5_1)]]⟩:St)) ?_ ?_
  · conv=>whnf
    unfold Ref15.reader.repeats.l1 at h0
    refine LoopB.of (σ:=ByteArray × Int × Bool × Int × ByteArray × Bool × Int × Int) (ρ:=ByteArray × Int × Bool × Int × ByteArray × Bool) (fun v:ByteArray × Int × Bool × Int × ByteArray × Bool × Int × Int=>Ref15.reader.repeats.s1 s1 v.1 v.2.1 v.2.2.1 v.2.2.2.1 v.2.2.2.2.1 v.2.2.2.2.2.1 v.2.2.2.2.2.2.1 v.2.2.2.2.2.2.2) (fun v=>(⟨77,[(0,.ptr 0 0),(1,.lit (.string s1)),(4,.lit (.int .i64 v.2.2.2.2.2.2.1)),(5,.lit (.int .i64 v.2.2.2.2.2.2.2))],[.box [.lit (.string v.1),.lit (.int .i64 v.2.1),.lit (.bool v.2.2.1),.lit (.int .i64 v.2.2.2.1),.lit (.string v.2.2.2.2.1),.lit (.bool v.2.2.2.2.2.1)]]⟩:St)) (r0_0,r0_1,r0_2,1,s1,false,(-1),0) h0 (BackS.by rfl (Sees.of (Weak.objs (keep:=[0]) (frz:=[]) (m:=0) rfl (by decide) rfl rfl ⟨⟨_,rfl,WO.boxs ⟨.s,.s,.s,.s,.s,.s,trivial⟩⟩,⟨rfl,fun _ h=>by cases h⟩⟩ ⟨(.ptr _ _ 0 rfl),.s,.s,.s,trivial⟩))) ?_
    clear h0
    rintro K1 ⟨r0_0_4,r0_1_4,r0_2_5,r0_3_4,r0_4_4,r0_5_5,star4_1,i5⟩ x1 hs1_0 hl1 hr1
    replace hs1_0:Ref15.reader.repeats.s1 s1 r0_0_4 r0_1_4 r0_2_5 r0_3_4 r0_4_4 r0_5_5 star4_1 i5 = some x1:=hs1_0
    unfold Ref15.reader.repeats.s1 at hs1_0
    change bwp _ _ _ _ _ (⟨77,[(0,.ptr 0 0),(1,.lit (.string s1)),(4,.lit (.int .i64 star4_1)),(5,.lit (.int .i64 i5))],[.box [.lit (.string r0_0_4),.lit (.int .i64 r0_1_4),.lit (.bool r0_2_5),.lit (.int .i64 r0_3_4),.lit (.string r0_4_4),.lit (.bool r0_5_5)]]⟩:St)
    conv=>whnf
    refine CutN.of (fun s=>∃ (r0_0_5:ByteArray) (r0_1_5:Int) (r0_2_6:Bool) (r0_3_5:Int) (r0_4_5:ByteArray) (r0_5_6:Bool),Ref15.reader.repeats.j3 s1 star4_1 i5 r0_0_5 r0_1_5 r0_2_6 r0_3_5 r0_4_5 r0_5_6 = some x1 ∧ s = (⟨77,[(0,.ptr 0 0),(1,.lit (.string s1)),(4,.lit (.int .i64 star4_1)),(5,.lit (.int .i64 i5))],[.box [.lit (.string r0_0_5),.lit (.int .i64 r0_1_5),.lit (.bool r0_2_6),.lit (.int .i64 r0_3_5),.lit (.string r0_4_5),.lit (.bool r0_5_6)]]⟩:St)) ?_ ?_
    · obtain ⟨t20,et20,hs1_1⟩:=letk_elim hs1_0; clear hs1_0
      conv=>whnf
      refine Nm.mk ⟨t20,et20,?_⟩
      obtain ⟨t21,et21,hs1_2⟩:=letk_elim hs1_1; clear hs1_1
      conv=>whnf
      refine Nm.mk ⟨t21,et21,?_⟩
      rcases t21 with _ | _
      · have hs1_3:=bif_f hs1_2
        clear hs1_2
        obtain ⟨yhs1_3_0,hs1_3u,ehs1_3_0⟩:=map_elim hs1_3
        have ehs1_3_0:=(hr1 _ ehs1_3_0.symm).symm
        subst ehs1_3_0
        exact BackS.by ⟨_,_,_,_,_,_,_,hs1_3u,rfl⟩ (Sees.of (Weak.objs (keep:=[0]) (frz:=[]) (m:=0) rfl (by decide) rfl rfl ⟨⟨_,rfl,WO.boxs ⟨.s,.s,.s,.s,.s,.s,trivial⟩⟩,⟨rfl,fun _ h=>by cases h⟩⟩ ⟨(.ptr _ _ 0 rfl),.s,.s,trivial⟩))
      have hs1_3:=bif_t hs1_2
      clear hs1_2
      obtain ⟨t24,et24,hs1_4⟩:=letk_elim hs1_3; clear hs1_3
      conv=>whnf
      refine Nm.mk ⟨t24,et24,?_⟩
      rcases t24 with _ | _
      · have hs1_5:=bif_f hs1_4
        clear hs1_4
        obtain ⟨yhs1_5_0,hs1_5u,ehs1_5_0⟩:=map_elim hs1_5
        have ehs1_5_0:=(hr1 _ ehs1_5_0.symm).symm
        subst ehs1_5_0
        exact BackS.by ⟨_,_,_,_,_,_,_,hs1_5u,rfl⟩ (Sees.of (Weak.objs (keep:=[0]) (frz:=[]) (m:=0) rfl (by decide) rfl rfl ⟨⟨_,rfl,WO.boxs ⟨.s,.s,.s,.s,.s,.s,trivial⟩⟩,⟨rfl,fun _ h=>by cases h⟩⟩ ⟨(.ptr _ _ 0 rfl),.s,.s,trivial⟩))
      have hs1_5:=bif_t hs1_4
      clear hs1_4
      exact BackS.by ⟨_,_,_,_,_,_,hs1_5,rfl⟩ (Sees.of (Weak.objs (keep:=[0]) (frz:=[]) (m:=0) rfl (by decide) rfl rfl ⟨⟨_,rfl,WO.boxs ⟨.s,.s,.s,.s,.s,.s,trivial⟩⟩,⟨rfl,fun _ h=>by cases h⟩⟩ ⟨(.ptr _ _ 0 rfl),.s,.s,.s,trivial⟩))
    clear hs1_0
    rintro s ⟨r0_0_5,r0_1_5,r0_2_6,r0_3_5,r0_4_5,r0_5_6,hj0,rfl⟩
    unfold Ref15.reader.repeats.j3 at hj0
    obtain ⟨chj1,hj1⟩:=chk_elim hj0; clear hj0
    obtain ⟨t30,et30,hj2⟩:=letk_elim hj1; clear hj1
    conv=>whnf
    refine Side.mk chj1 ?_
    conv=>whnf
    refine Nm.mk ⟨t30,et30,?_⟩
    obtain ⟨t31,et31,hj3⟩:=letk_elim hj2; clear hj2
    conv=>whnf
    refine Nm.mk ⟨t31,et31,?_⟩
    rcases t31 with _ | _
    · have hj4:=bif_f hj3
      clear hj3
      obtain ⟨t27,et27,hj5⟩:=letk_elim hj4; clear hj4
      conv=>whnf
      refine Nm.mk ⟨t27,et27,?_⟩
      exact BackS.by ⟨_,hl1 _ (Option.some.inj hj5).symm,rfl⟩ (Sees.of (Weak.objs (keep:=[0]) (frz:=[]) (m:=0) rfl (by decide) rfl rfl ⟨⟨_,rfl,WO.boxs ⟨.s,.s,.s,.s,.s,.s,trivial⟩⟩,⟨rfl,fun _ h=>by cases h⟩⟩ ⟨(.ptr _ _ 0 rfl),.s,.s,.s,trivial⟩))
    have hj4:=bif_t hj3
    clear hj3
    obtain ⟨t27_1,et27_1,hj5⟩:=letk_elim hj4; clear hj4
    conv=>whnf
    refine Nm.mk ⟨t27_1,et27_1,?_⟩
    exact BackS.by ⟨_,hl1 _ (Option.some.inj hj5).symm,rfl⟩ (Sees.of (Weak.objs (keep:=[0]) (frz:=[]) (m:=0) rfl (by decide) rfl rfl ⟨⟨_,rfl,WO.boxs ⟨.s,.s,.s,.s,.s,.s,trivial⟩⟩,⟨rfl,fun _ h=>by cases h⟩⟩ ⟨(.ptr _ _ 0 rfl),.s,.s,.s,trivial⟩))
  clear h0
  rintro s ⟨r0_0_1,r0_1_1,r0_2_1,r0_3_1,r0_4_1,r0_5_1,star4,hj0,rfl⟩
  unfold Ref15.reader.repeats.j0 at hj0
  obtain ⟨t34,et34,hj1⟩:=letk_elim hj0; clear hj0
  conv=>whnf
  refine Nm.mk ⟨t34,et34,?_⟩
  rcases t34 with _ | _
  · have hj2:=bif_f hj1
    clear hj1
    conv=>whnf
    unfold Ref15.reader.repeats.l0 at hj2
    refine LoopB.of (σ:=ByteArray × Int × Bool × Int × ByteArray × Bool × Int × Int) (ρ:=ByteArray × Int × Bool × Int × ByteArray × Bool) (fun v:ByteArray × Int × Bool × Int × ByteArray × Bool × Int × Int=>Ref15.reader.repeats.s0 s1 star4 v.1 v.2.1 v.2.2.1 v.2.2.2.1 v.2.2.2.2.1 v.2.2.2.2.2.1 v.2.2.2.2.2.2.1 v.2.2.2.2.2.2.2) (fun v=>(⟨77,[(0,.ptr 0 0),(1,.lit (.string s1)),(4,.lit (.int .i64 star4)),(6,.lit (.int .i64 v.2.2.2.2.2.2.1)),(7,.lit (.int .i64 v.2.2.2.2.2.2.2))],[.box [.lit (.string v.1),.lit (.int .i64 v.2.1),.lit (.bool v.2.2.1),.lit (.int .i64 v.2.2.2.1),.lit (.string v.2.2.2.2.1),.lit (.bool v.2.2.2.2.2.1)]]⟩:St)) (r0_0_1,r0_1_1,r0_2_1,r0_3_1,r0_4_1,r0_5_1,0,0) hj2 (BackS.by rfl (Sees.of (Weak.objs (keep:=[0]) (frz:=[]) (m:=0) rfl (by decide) rfl rfl ⟨⟨_,rfl,WO.boxs ⟨.s,.s,.s,.s,.s,.s,trivial⟩⟩,⟨rfl,fun _ h=>by cases h⟩⟩ ⟨(.ptr _ _ 0 rfl),.s,.s,.s,.s,trivial⟩))) ?_
    clear hj2
    rintro K1 ⟨r0_0_2,r0_1_2,r0_2_2,r0_3_2,r0_4_2,r0_5_2,n6,i7⟩ x1 hs0_0 hl1 hr1
    replace hs0_0:Ref15.reader.repeats.s0 s1 star4 r0_0_2 r0_1_2 r0_2_2 r0_3_2 r0_4_2 r0_5_2 n6 i7 = some x1:=hs0_0
    unfold Ref15.reader.repeats.s0 at hs0_0
    change bwp _ _ _ _ _ (⟨77,[(0,.ptr 0 0),(1,.lit (.string s1)),(4,.lit (.int .i64 star4)),(6,.lit (.int .i64 n6)),(7,.lit (.int .i64 i7))],[.box [.lit (.string r0_0_2),.lit (.int .i64 r0_1_2),.lit (.bool r0_2_2),.lit (.int .i64 r0_3_2),.lit (.string r0_4_2),.lit (.bool r0_5_2)]]⟩:St)
    obtain ⟨t37,et37,hs0_1⟩:=letk_elim hs0_0; clear hs0_0
    conv=>whnf
    refine Nm.mk ⟨t37,et37,?_⟩
    rcases t37 with _ | _
    · have hs0_2:=bif_f hs0_1
      clear hs0_1
      obtain ⟨yhs0_2_0,hs0_2u,ehs0_2_0⟩:=map_elim hs0_2
      have ehs0_2_0:=(hr1 _ ehs0_2_0.symm).symm
      subst ehs0_2_0
      conv=>whnf
      refine CutN.of (fun s=>∃ (r0_0_3:ByteArray) (r0_1_3:Int) (r0_2_3:Bool) (r0_3_3:Int) (r0_4_3:ByteArray) (r0_5_3:Bool),Ref15.reader.repeats.j1 s1 star4 n6 r0_0_3 r0_1_3 r0_2_3 r0_3_3 r0_4_3 r0_5_3 = some r ∧ s = (⟨77,[(0,.ptr 0 0),(1,.lit (.string s1)),(4,.lit (.int .i64 star4)),(6,.lit (.int .i64 n6))],[.box [.lit (.string r0_0_3),.lit (.int .i64 r0_1_3),.lit (.bool r0_2_3),.lit (.int .i64 r0_3_3),.lit (.string r0_4_3),.lit (.bool r0_5_3)]]⟩:St)) ?_ ?_
      · conv=>whnf
        refine CutN.of (fun s=>∃ (r0_2_4:Bool) (r0_5_4:Bool) (t62:Bool),Ref15.reader.repeats.j2 s1 star4 r0_0_2 r0_1_2 r0_3_2 r0_4_2 n6 r0_2_4 r0_5_4 t62 = some r ∧ s = (⟨77,[(0,.ptr 0 0),(1,.lit (.string s1)),(4,.lit (.int .i64 star4)),(6,.lit (.int .i64 n6)),(62,.lit (.bool t62))],[.box [.lit (.string r0_0_2),.lit (.int .i64 r0_1_2),.lit (.bool r0_2_4),.lit (.int .i64 r0_3_2),.lit (.string r0_4_2),.lit (.bool r0_5_4)]]⟩:St)) ?_ ?_
        · obtain ⟨t58,et58,hs0_2u0⟩:=letk_elim hs0_2u; clear hs0_2u
          conv=>whnf
          refine Nm.mk ⟨t58,et58,?_⟩
          rcases t58 with _ | _
          · have hs0_2u1:=bif_f hs0_2u0
            clear hs0_2u0
            obtain ⟨t61,et61,hs0_2u2⟩:=letk_elim hs0_2u1; clear hs0_2u1
            conv=>whnf
            refine Nm.mk ⟨t61,et61,?_⟩
            exact BackS.by ⟨_,_,_,hs0_2u2,rfl⟩ (Sees.of (Weak.objs (keep:=[0]) (frz:=[]) (m:=0) rfl (by decide) rfl rfl ⟨⟨_,rfl,WO.boxs ⟨.s,.s,.s,.s,.s,.s,trivial⟩⟩,⟨rfl,fun _ h=>by cases h⟩⟩ ⟨(.ptr _ _ 0 rfl),.s,.s,.s,.s,trivial⟩))
          have hs0_2u1:=bif_t hs0_2u0
          clear hs0_2u0
          exact BackS.by ⟨_,_,_,hs0_2u1,rfl⟩ (Sees.of (Weak.objs (keep:=[0]) (frz:=[]) (m:=0) rfl (by decide) rfl rfl ⟨⟨_,rfl,WO.boxs ⟨.s,.s,.s,.s,.s,.s,trivial⟩⟩,⟨rfl,fun _ h=>by cases h⟩⟩ ⟨(.ptr _ _ 0 rfl),.s,.s,.s,.s,trivial⟩))
        clear hs0_2u
        rintro s ⟨r0_2_4,r0_5_4,t62,hj0,rfl⟩
        unfold Ref15.reader.repeats.j2 at hj0
        rcases t62 with _ | _
        · have hj1:=bif_f hj0
          clear hj0
          exact BackS.by ⟨_,_,_,_,_,_,hj1,rfl⟩ (Sees.of (Weak.objs (keep:=[0]) (frz:=[]) (m:=0) rfl (by decide) rfl rfl ⟨⟨_,rfl,WO.boxs ⟨.s,.s,.s,.s,.s,.s,trivial⟩⟩,⟨rfl,fun _ h=>by cases h⟩⟩ ⟨(.ptr _ _ 0 rfl),.s,.s,.s,trivial⟩))
        have hj1:=bif_t hj0
        clear hj0
        conv=>whnf
        refine Nm.mk ⟨[.lit (.string r0_0_2),.lit (.int .i64 r0_1_2),.lit (.bool r0_2_4),.lit (.int .i64 r0_3_2),.lit (.string r0_4_2),.lit (.bool true)],rfl,?_⟩
        have ehj1_0:=Option.some.inj hj1
        subst ehj1_0
        conv=>whnf
        exact Returns.hand (v:=.tup []) (keep:=[0]) (frz:=[]) (m:=0) (h':=[.box [.lit (.string r0_0_2),.lit (.int .i64 r0_1_2),.lit (.bool r0_2_4),.lit (.int .i64 r0_3_2),.lit (.string r0_4_2),.lit (.bool true)]]) rfl rfl (WH.of (by decide) rfl rfl ⟨⟨_,rfl,WO.boxs ⟨.s,.s,.s,.s,.s,.s,trivial⟩⟩,⟨rfl,fun _ h=>by cases h⟩⟩) (WV.tups trivial) ⟨rfl,rfl⟩
      clear hs0_2u
      rintro s ⟨r0_0_3,r0_1_3,r0_2_3,r0_3_3,r0_4_3,r0_5_3,hj0,rfl⟩
      unfold Ref15.reader.repeats.j1 at hj0
      conv=>whnf
      refine DrawB.ofFN 0 [.box [.lit (.string r0_0_3),.lit (.int .i64 r0_1_3),.lit (.bool r0_2_3),.lit (.int .i64 r0_3_3),.lit (.string r0_4_3),.lit (.bool r0_5_3)]] 1 1 [[],[],[],[],[],[],[],[0],[0],[0],[0],[0],[0]] [[],[],[],[],[],[],[],[],[],[0],[],[],[0]] [none,none,none,none,none,none,none,none,none,none,none,none,none] Tryz_mixed (by kernel_rfl) rfl rfl rfl (by kernel_rfl) ?_
      conv=>whnf
      refine FNode.mv (W:=[]) (.ptr 0 0) rfl rfl ?_
      conv=>whnf
      refine FNode.mv (W:=[]) (.ptr 0 0) rfl rfl ?_
      conv=>whnf
      refine FNode.no (W:=[]) (.lit (.int .i64 n6)) ?_ rfl ?_
      · conv=>whnf
        rfl
      conv=>whnf
      refine FNode.no (W:=[]) (.lit (.string s1)) ?_ rfl ?_
      · conv=>whnf
        rfl
      conv=>whnf
      refine FNode.no (W:=[]) (.lit (.int .i64 star4)) ?_ rfl ?_
      · conv=>whnf
        rfl
      obtain ⟨t71,et71,hj1⟩:=letk_elim hj0; clear hj0
      conv=>whnf
      refine FNode.no (W:=[]) (.lit (.int .i64 t71)) ?_ rfl ?_
      · conv=>whnf
        refine Nm.mk ⟨t71,et71,?_⟩
        conv=>whnf
        rfl
      obtain ⟨chj2,hj2⟩:=chk_elim hj1; clear hj1
      obtain ⟨t72,et72,hj3⟩:=letk_elim hj2; clear hj2
      conv=>whnf
      refine FNode.no (W:=[]) (.lit (.string t72)) ?_ rfl ?_
      · conv=>whnf
        refine Side.mk chj2 ?_
        conv=>whnf
        refine Nm.mk ⟨t72,et72,?_⟩
        conv=>whnf
        rfl
      conv=>whnf
      refine FNode.rd (F:=[0]) (W:=[]) (.ptr 0 0) ?_ rfl rfl ?_
      · conv=>whnf
        rfl
      conv=>whnf
      refine FNode.rd (F:=[0]) (W:=[]) (.ptr 0 3) ?_ rfl rfl ?_
      · conv=>whnf
        rfl
      conv=>whnf
      refine FNode.pl (F:=[0]) (W:=[0]) (.undef) [.box [.lit (.string r0_0_3),.lit (.int .i64 r0_1_3),.lit (.bool r0_2_3),.lit (.int .i64 n6),.lit (.string r0_4_3),.lit (.bool r0_5_3)]] ?_ rfl rfl rfl rfl ?_
      · conv=>whnf
        refine Nm.mk ⟨[.lit (.string r0_0_3),.lit (.int .i64 r0_1_3),.lit (.bool r0_2_3),.lit (.int .i64 n6),.lit (.string r0_4_3),.lit (.bool r0_5_3)],rfl,?_⟩
        conv=>whnf
        rfl
      conv=>whnf
      refine FNode.rd (F:=[0]) (W:=[]) (.ptr 0 0) ?_ rfl rfl ?_
      · conv=>whnf
        rfl
      conv=>whnf
      refine FNode.rd (F:=[0]) (W:=[]) (.ptr 0 4) ?_ rfl rfl ?_
      · conv=>whnf
        rfl
      conv=>whnf
      refine FNode.pl (F:=[0]) (W:=[0]) (.undef) [.box [.lit (.string r0_0_3),.lit (.int .i64 r0_1_3),.lit (.bool r0_2_3),.lit (.int .i64 n6),.lit (.string t72),.lit (.bool r0_5_3)]] ?_ rfl rfl rfl rfl ?_
      · conv=>whnf
        refine Nm.mk ⟨[.lit (.string r0_0_3),.lit (.int .i64 r0_1_3),.lit (.bool r0_2_3),.lit (.int .i64 n6),.lit (.string t72),.lit (.bool r0_5_3)],rfl,?_⟩
        conv=>whnf
        rfl
      have ehj3_0:=Option.some.inj hj3
      subst ehj3_0
      conv=>whnf
      exact Returns.hand (v:=.tup []) (keep:=[0]) (frz:=[]) (m:=0) (h':=[.box [.lit (.string r0_0_3),.lit (.int .i64 r0_1_3),.lit (.bool r0_2_3),.lit (.int .i64 n6),.lit (.string t72),.lit (.bool r0_5_3)]]) rfl rfl (WH.of (by decide) rfl rfl ⟨⟨_,rfl,WO.boxs ⟨.s,.s,.s,.s,.s,.s,trivial⟩⟩,⟨rfl,fun _ h=>by cases h⟩⟩) (WV.tups trivial) ⟨rfl,rfl⟩
    have hs0_2:=bif_t hs0_1
    clear hs0_1
    obtain ⟨chs0_3,hs0_3⟩:=chk_elim hs0_2; clear hs0_2
    obtain ⟨t42,et42,hs0_4⟩:=letk_elim hs0_3; clear hs0_3
    conv=>whnf
    refine Side.mk chs0_3 ?_
    conv=>whnf
    refine Nm.mk ⟨t42,et42,?_⟩
    obtain ⟨t43,et43,hs0_5⟩:=bind_elim hs0_4; clear hs0_4
    conv=>whnf
    refine Gate.go ?_
    conv=>whnf
    refine CallN.by (v:=.lit (.bool t43)) (Ref15.digit_ok et43) rfl rfl ?_
    obtain ⟨t44,et44,hs0_6⟩:=letk_elim hs0_5; clear hs0_5
    conv=>whnf
    refine Nm.mk ⟨t44,et44,?_⟩
    rcases t44 with _ | _
    · have hs0_7:=bif_f hs0_6
      clear hs0_6
      obtain ⟨t49,et49,hs0_8⟩:=letk_elim hs0_7; clear hs0_7
      conv=>whnf
      refine Nm.mk ⟨t49,et49,?_⟩
      obtain ⟨chs0_9,hs0_9⟩:=chk_elim hs0_8; clear hs0_8
      obtain ⟨t52,et52,hs0_10⟩:=letk_elim hs0_9; clear hs0_9
      conv=>whnf
      refine Side.mk chs0_9 ?_
      conv=>whnf
      refine Nm.mk ⟨t52,et52,?_⟩
      obtain ⟨t53,et53,hs0_11⟩:=letk_elim hs0_10; clear hs0_10
      conv=>whnf
      refine Nm.mk ⟨t53,et53,?_⟩
      obtain ⟨t54,et54,hs0_12⟩:=letk_elim hs0_11; clear hs0_11
      conv=>whnf
      refine Nm.mk ⟨t54,et54,?_⟩
      obtain ⟨t55,et55,hs0_13⟩:=letk_elim hs0_12; clear hs0_12
      conv=>whnf
      refine Nm.mk ⟨t55,et55,?_⟩
      obtain ⟨t56,et56,hs0_14⟩:=letk_elim hs0_13; clear hs0_13
      conv=>whnf
      refine Nm.mk ⟨t56,et56,?_⟩
      obtain ⟨t39,et39,hs0_15⟩:=letk_elim hs0_14; clear hs0_14
      conv=>whnf
      refine Nm.mk ⟨t39,et39,?_⟩
      exact BackS.by ⟨_,hl1 _ (Option.some.inj hs0_15).symm,rfl⟩ (Sees.of (Weak.objs (keep:=[0]) (frz:=[]) (m:=0) rfl (by decide) rfl rfl ⟨⟨_,rfl,WO.boxs ⟨.s,.s,.s,.s,.s,.s,trivial⟩⟩,⟨rfl,fun _ h=>by cases h⟩⟩ ⟨(.ptr _ _ 0 rfl),.s,.s,.s,.s,trivial⟩))
    have hs0_7:=bif_t hs0_6
    clear hs0_6
    conv=>whnf
    refine Nm.mk ⟨[.lit (.string r0_0_2),.lit (.int .i64 r0_1_2),.lit (.bool r0_2_2),.lit (.int .i64 r0_3_2),.lit (.string r0_4_2),.lit (.bool true)],rfl,?_⟩
    have ehs0_7_0:=hr1 _ (Option.some.inj hs0_7).symm
    subst ehs0_7_0
    conv=>whnf
    exact Returns.hand (v:=.tup []) (keep:=[0]) (frz:=[]) (m:=0) (h':=[.box [.lit (.string r0_0_2),.lit (.int .i64 r0_1_2),.lit (.bool r0_2_2),.lit (.int .i64 r0_3_2),.lit (.string r0_4_2),.lit (.bool true)]]) rfl rfl (WH.of (by decide) rfl rfl ⟨⟨_,rfl,WO.boxs ⟨.s,.s,.s,.s,.s,.s,trivial⟩⟩,⟨rfl,fun _ h=>by cases h⟩⟩) (WV.tups trivial) ⟨rfl,rfl⟩
  have hj2:=bif_t hj1
  clear hj1
  have ehj2_0:=Option.some.inj hj2
  subst ehj2_0
  conv=>whnf
  exact Returns.hand (v:=.tup []) (keep:=[0]) (frz:=[]) (m:=0) (h':=[.box [.lit (.string r0_0_1),.lit (.int .i64 r0_1_1),.lit (.bool r0_2_1),.lit (.int .i64 r0_3_1),.lit (.string r0_4_1),.lit (.bool r0_5_1)]]) rfl rfl (WH.of (by decide) rfl rfl ⟨⟨_,rfl,WO.boxs ⟨.s,.s,.s,.s,.s,.s,trivial⟩⟩,⟨rfl,fun _ h=>by cases h⟩⟩) (WV.tups trivial) ⟨rfl,rfl⟩
noncomputable def Ref15.reader.next_.j1 (r0_1_1:Int) (r0_0_2:ByteArray) (r0_1_2:Int) (r0_2_2:Bool) (r0_3_2:Int) (r0_4_2:ByteArray) (r0_5_2:Bool):Option (ByteArray × Int × Bool × Int × ByteArray × Bool × ByteArray) :=
  chk (0 ≤ r0_1_1 ∧ r0_1_1 ≤ r0_1_2 ∧ r0_1_2 ≤ (r0_0_2.size:Int)) <|
  letk (r0_0_2.extract r0_1_1.toNat r0_1_2.toNat) fun t145 =>
  Option.bind (Ref15.reader.repeats r0_0_2 r0_1_2 r0_2_2 r0_3_2 r0_4_2 r0_5_2 t145) fun (o_0_1,o_1_1,o_2_1,o_3_1,o_4_1,o_5_1) =>
  some (o_0_1,o_1_1,o_2_1,o_3_1,o_4_1,o_5_1,⟨#[118,97,108,117,101]⟩)
noncomputable def Ref15.reader.next_.j2 (r0_1_1:Int) (r0_0_4:ByteArray) (r0_1_4:Int) (r0_2_4:Bool) (r0_3_4:Int) (r0_4_4:ByteArray) (r0_5_4:Bool):Option ((ByteArray × Int × Bool × Int × ByteArray × Bool) ⊕ (ByteArray × Int × Bool × Int × ByteArray × Bool × ByteArray)) :=
  letk (IntKind.i64.wrap (r0_1_4 + (1:Int))) fun t132 =>
  some (.inl (r0_0_4,t132,r0_2_4,r0_3_4,r0_4_4,r0_5_4))
noncomputable def Ref15.reader.next_.s0 (r0_1_1:Int) (r0_0_3:ByteArray) (r0_1_3:Int) (r0_2_3:Bool) (r0_3_3:Int) (r0_4_3:ByteArray) (r0_5_3:Bool):Option ((ByteArray × Int × Bool × Int × ByteArray × Bool) ⊕ (ByteArray × Int × Bool × Int × ByteArray × Bool × ByteArray)) :=
  letk ((r0_0_3.size:Int)) fun t78 =>
  letk (decide (r0_1_3 < t78)) fun t79 =>
  bif t79 then
    chk (0 ≤ r0_1_3 ∧ r0_1_3 < (r0_0_3.size:Int)) <|
    letk (bt r0_0_3 r0_1_3) fun t89 =>
    letk (t89 != (32:Int)) fun t90 =>
    bif t90 then
      chk (0 ≤ r0_1_3 ∧ r0_1_3 < (r0_0_3.size:Int)) <|
      letk (bt r0_0_3 r0_1_3) fun t101 =>
      letk (t101 != (10:Int)) fun t102 =>
      bif t102 then
        chk (0 ≤ r0_1_3 ∧ r0_1_3 < (r0_0_3.size:Int)) <|
        letk (bt r0_0_3 r0_1_3) fun t113 =>
        letk (t113 != (44:Int)) fun t114 =>
        bif t114 then
          chk (0 ≤ r0_1_3 ∧ r0_1_3 < (r0_0_3.size:Int)) <|
          letk (bt r0_0_3 r0_1_3) fun t125 =>
          letk (t125 != (47:Int)) fun t126 =>
          bif t126 then
            Ref15.reader.next_.j2 r0_1_1 r0_0_3 r0_1_3 r0_2_3 r0_3_3 r0_4_3 r0_5_3
          else
            (Ref15.reader.next_.j1 r0_1_1 r0_0_3 r0_1_3 r0_2_3 r0_3_3 r0_4_3 r0_5_3).map .inr
        else
          (Ref15.reader.next_.j1 r0_1_1 r0_0_3 r0_1_3 r0_2_3 r0_3_3 r0_4_3 r0_5_3).map .inr
      else
        (Ref15.reader.next_.j1 r0_1_1 r0_0_3 r0_1_3 r0_2_3 r0_3_3 r0_4_3 r0_5_3).map .inr
    else
      (Ref15.reader.next_.j1 r0_1_1 r0_0_3 r0_1_3 r0_2_3 r0_3_3 r0_4_3 r0_5_3).map .inr
  else
    (Ref15.reader.next_.j1 r0_1_1 r0_0_3 r0_1_3 r0_2_3 r0_3_3 r0_4_3 r0_5_3).map .inr
noncomputable def Ref15.reader.next_.l0 (r0_1_1:Int) (r0_0_3:ByteArray) (r0_1_3:Int) (r0_2_3:Bool) (r0_3_3:Int) (r0_4_3:ByteArray) (r0_5_3:Bool):Option (ByteArray × Int × Bool × Int × ByteArray × Bool × ByteArray):=loopO (fun v:ByteArray × Int × Bool × Int × ByteArray × Bool=>Ref15.reader.next_.s0 r0_1_1 v.1 v.2.1 v.2.2.1 v.2.2.2.1 v.2.2.2.2.1 v.2.2.2.2.2) (r0_0_3,r0_1_3,r0_2_3,r0_3_3,r0_4_3,r0_5_3)
noncomputable def Ref15.reader.next_.j0 (r0_0_1:ByteArray) (r0_1_1:Int) (r0_2_1:Bool) (r0_3_1:Int) (r0_4_1:ByteArray) (r0_5_1:Bool):Option (ByteArray × Int × Bool × Int × ByteArray × Bool × ByteArray) :=
  letk ((r0_0_1.size:Int)) fun t54 =>
  letk (r0_1_1 == t54) fun t55 =>
  bif t55 then
    some (r0_0_1,r0_1_1,true,r0_3_1,r0_4_1,r0_5_1,⟨#[101,110,100]⟩)
  else
    chk (0 ≤ r0_1_1 ∧ r0_1_1 < (r0_0_1.size:Int)) <|
    letk (bt r0_0_1 r0_1_1) fun t64 =>
    letk (t64 == (47:Int)) fun t65 =>
    bif t65 then
      some (r0_0_1,r0_1_1,true,r0_3_1,r0_4_1,r0_5_1,⟨#[115,108,97,115,104]⟩)
    else
      Ref15.reader.next_.l0 r0_1_1 r0_0_1 r0_1_1 true r0_3_1 r0_4_1 r0_5_1
noncomputable def Ref15.reader.next_.j3 (r0_0_5:ByteArray) (r0_1_5:Int) (r0_2_5:Bool) (r0_3_5:Int) (r0_4_5:ByteArray) (r0_5_5:Bool) (t33:Bool):Option (ByteArray × Int × Bool × Int × ByteArray × Bool × ByteArray) :=
  bif t33 then
    letk (IntKind.i64.wrap (r0_1_5 + (1:Int))) fun t38 =>
    Option.bind (Ref15.reader.blanks r0_0_5 t38 r0_2_5 r0_3_5 r0_4_5 r0_5_5) fun (o_0_2,o_1_2,o_2_2,o_3_2,o_4_2,o_5_2) =>
    Ref15.reader.next_.j0 o_0_2 o_1_2 o_2_2 o_3_2 o_4_2 o_5_2
  else
    Ref15.reader.next_.j0 r0_0_5 r0_1_5 r0_2_5 r0_3_5 r0_4_5 r0_5_5
noncomputable def Ref15.reader.next_ (r0_0:ByteArray) (r0_1:Int) (r0_2:Bool) (r0_3:Int) (r0_4:ByteArray) (r0_5:Bool):Option (ByteArray × Int × Bool × Int × ByteArray × Bool × ByteArray) :=
  Option.bind (Ref15.reader.blanks r0_0 r0_1 r0_2 r0_3 r0_4 r0_5) fun (o_0,o_1,o_2,o_3,o_4,o_5) =>
  bif o_2 then
    letk ((o_0.size:Int)) fun t19 =>
    letk (decide (o_1 < t19)) fun t20 =>
    bif t20 then
      chk (0 ≤ o_1 ∧ o_1 < (o_0.size:Int)) <|
      letk (bt o_0 o_1) fun t31 =>
      letk (t31 == (44:Int)) fun t32 =>
      Ref15.reader.next_.j3 o_0 o_1 true o_3 o_4 o_5 t32
    else
      Ref15.reader.next_.j3 o_0 o_1 true o_3 o_4 o_5 false
  else
    Ref15.reader.next_.j3 o_0 o_1 false o_3 o_4 o_5 false
theorem Ref15.reader.next__ok {r0_0:ByteArray} {r0_1:Int} {r0_2:Bool} {r0_3:Int} {r0_4:ByteArray} {r0_5:Bool} {r:ByteArray × Int × Bool × Int × ByteArray × Bool × ByteArray} (h0:Ref15.reader.next_ r0_0 r0_1 r0_2 r0_3 r0_4 r0_5 = some r):GivesK Tryz.prog 41 [.ptr 0 0] [.box [.lit (.string r0_0),.lit (.int .i64 r0_1),.lit (.bool r0_2),.lit (.int .i64 r0_3),.lit (.string r0_4),.lit (.bool r0_5)]] 1 (.lit (.string r.2.2.2.2.2.2)) [.box [.lit (.string r.1),.lit (.int .i64 r.2.1),.lit (.bool r.2.2.1),.lit (.int .i64 r.2.2.2.1),.lit (.string r.2.2.2.2.1),.lit (.bool r.2.2.2.2.2.1)]]:=by
  unfold Ref15.reader.next_ at h0
  refine ACallsK.of_swp Tryz.func41 rfl (by decide) rfl (st0:=⟨147,[(0,.ptr 0 0)],[.box [.lit (.string r0_0),.lit (.int .i64 r0_1),.lit (.bool r0_2),.lit (.int .i64 r0_3),.lit (.string r0_4),.lit (.bool r0_5)]]⟩) rfl rfl (bwp_ok (C:=[(0,5),(0,13),(1,1),(43,7)]) ?_)
  obtain ⟨⟨o_0,o_1,o_2,o_3,o_4,o_5⟩,ee_t5,h1⟩:=bind_elim h0; clear h0
  conv=>whnf
  refine Gate.weak (Sees.of (Weak.objs (k:=147) (keep:=[0]) (frz:=[]) (m:=0) (ts:=[(0,.ptr 0 0),(4,.ptr 0 0)]) (hs:=[.box [.lit (.string r0_0),.lit (.int .i64 r0_1),.lit (.bool r0_2),.lit (.int .i64 r0_3),.lit (.string r0_4),.lit (.bool r0_5)]]) rfl (by decide) rfl rfl ⟨⟨_,rfl,WO.boxs ⟨.s,.s,.s,.s,.s,.s,trivial⟩⟩,⟨rfl,fun _ h=>by cases h⟩⟩ ⟨(.ptr _ _ 0 rfl),(.ptr _ _ 0 rfl),trivial⟩)) ?_
  conv=>whnf
  refine CallN.hand (k:=1) (v:=.tup []) (hs':=[.box [.lit (.string o_0),.lit (.int .i64 o_1),.lit (.bool o_2),.lit (.int .i64 o_3),.lit (.string o_4),.lit (.bool o_5)]]) (ts':=[(0,.ptr 0 0),(4,.ptr 0 0)]) (Ref15.reader.blanks_ok ee_t5) rfl rfl ?_
  conv=>whnf
  refine CutN.of (fun s=>∃ (r0_0_1:ByteArray) (r0_1_1:Int) (r0_2_1:Bool) (r0_3_1:Int) (r0_4_1:ByteArray) (r0_5_1:Bool),Ref15.reader.next_.j0 r0_0_1 r0_1_1 r0_2_1 r0_3_1 r0_4_1 r0_5_1 = some r ∧ s = (⟨147,[(0,.ptr 0 0)],[.box [.lit (.string r0_0_1),.lit (.int .i64 r0_1_1),.lit (.bool r0_2_1),.lit (.int .i64 r0_3_1),.lit (.string r0_4_1),.lit (.bool r0_5_1)]]⟩:St)) ?_ ?_
  · conv=>whnf
    refine CutN.of (fun s=>∃ (r0_0_5:ByteArray) (r0_1_5:Int) (r0_2_5:Bool) (r0_3_5:Int) (r0_4_5:ByteArray) (r0_5_5:Bool) (t33:Bool),Ref15.reader.next_.j3 r0_0_5 r0_1_5 r0_2_5 r0_3_5 r0_4_5 r0_5_5 t33 = some r ∧ s = (⟨147,[(0,.ptr 0 0),(33,.lit (.bool t33))],[.box [.lit (.string r0_0_5),.lit (.int .i64 r0_1_5),.lit (.bool r0_2_5),.lit (.int .i64 r0_3_5),.lit (.string r0_4_5),.lit (.bool r0_5_5)]]⟩:St)) ?_ ?_
    · conv=>whnf
      refine DrawB.ofG [none,none,none,none,none,some 10,some 10,some 10,some 10,some 10,some 10,some 10,some 10,some 10,some 10,none,none,some 22,some 22,some 22,some 22,some 22,some 22,some 22,some 22,some 22,some 22,none] Tryz_mixed (by kernel_rfl) (by kernel_rfl) ?_
      conv=>whnf
      refine DNodeB.of (.ptr 0 0) ?_ ?_
      · conv=>whnf
        rfl
      conv=>whnf
      refine DNodeB.of (.ptr 0 0) ?_ ?_
      · conv=>whnf
        rfl
      conv=>whnf
      refine DNodeB.of (.ptr 0 2) ?_ ?_
      · conv=>whnf
        rfl
      conv=>whnf
      refine DNodeB.of (.lit (.bool o_2)) ?_ ?_
      · conv=>whnf
        rfl
      conv=>whnf
      refine DNodeB.of (.lit (.bool o_2)) ?_ ?_
      · conv=>whnf
        rfl
      rcases o_2 with _ | _
      · have h2:=bif_f h1
        clear h1
        conv=>whnf
        refine DNodeB.of (.lit (.bool false)) ?_ ?_
        · conv=>whnf
          rfl
        conv=>whnf
        refine DNodeB.of (.lit (.bool false)) ?_ ?_
        · conv=>whnf
          rfl
        conv=>whnf
        refine DNodeB.of (.lit (.bool false)) ?_ ?_
        · conv=>whnf
          rfl
        exact BackS.by ⟨_,_,_,_,_,_,_,h2,rfl⟩ (Sees.of (Weak.objs (keep:=[0]) (frz:=[]) (m:=0) rfl (by decide) rfl rfl ⟨⟨_,rfl,WO.boxs ⟨.s,.s,.s,.s,.s,.s,trivial⟩⟩,⟨rfl,fun _ h=>by cases h⟩⟩ ⟨(.ptr _ _ 0 rfl),.s,trivial⟩))
      have h2:=bif_t h1
      clear h1
      conv=>whnf
      refine DNodeB.of (.ptr 0 0) ?_ ?_
      · conv=>whnf
        rfl
      conv=>whnf
      refine DNodeB.of (.ptr 0 0) ?_ ?_
      · conv=>whnf
        rfl
      conv=>whnf
      refine DNodeB.of (.ptr 0 1) ?_ ?_
      · conv=>whnf
        rfl
      conv=>whnf
      refine DNodeB.of (.lit (.int .i64 o_1)) ?_ ?_
      · conv=>whnf
        rfl
      conv=>whnf
      refine DNodeB.of (.ptr 0 0) ?_ ?_
      · conv=>whnf
        rfl
      conv=>whnf
      refine DNodeB.of (.ptr 0 0) ?_ ?_
      · conv=>whnf
        rfl
      conv=>whnf
      refine DNodeB.of (.ptr 0 0) ?_ ?_
      · conv=>whnf
        rfl
      conv=>whnf
      refine DNodeB.of (.lit (.string o_0)) ?_ ?_
      · conv=>whnf
        rfl
      obtain ⟨t19,et19,h3⟩:=letk_elim h2; clear h2
      conv=>whnf
      refine DNodeB.of (.lit (.int .i64 t19)) ?_ ?_
      · conv=>whnf
        refine Nm.mk ⟨t19,et19,?_⟩
        conv=>whnf
        rfl
      obtain ⟨t20,et20,h4⟩:=letk_elim h3; clear h3
      conv=>whnf
      refine DNodeB.of (.lit (.bool t20)) ?_ ?_
      · conv=>whnf
        refine Nm.mk ⟨t20,et20,?_⟩
        conv=>whnf
        rfl
      conv=>whnf
      refine DNodeB.of (.lit (.bool t20)) ?_ ?_
      · conv=>whnf
        rfl
      conv=>whnf
      refine DNodeB.of (.lit (.bool t20)) ?_ ?_
      · conv=>whnf
        rfl
      rcases t20 with _ | _
      · have h5:=bif_f h4
        clear h4
        conv=>whnf
        refine DNodeB.of (.lit (.bool false)) ?_ ?_
        · conv=>whnf
          rfl
        exact BackS.by ⟨_,_,_,_,_,_,_,h5,rfl⟩ (Sees.of (Weak.objs (keep:=[0]) (frz:=[]) (m:=0) rfl (by decide) rfl rfl ⟨⟨_,rfl,WO.boxs ⟨.s,.s,.s,.s,.s,.s,trivial⟩⟩,⟨rfl,fun _ h=>by cases h⟩⟩ ⟨(.ptr _ _ 0 rfl),.s,trivial⟩))
      have h5:=bif_t h4
      clear h4
      conv=>whnf
      refine DNodeB.of (.ptr 0 0) ?_ ?_
      · conv=>whnf
        rfl
      conv=>whnf
      refine DNodeB.of (.ptr 0 0) ?_ ?_
      · conv=>whnf
        rfl
      conv=>whnf
      refine DNodeB.of (.ptr 0 0) ?_ ?_
      · conv=>whnf
        rfl
      conv=>whnf
      refine DNodeB.of (.lit (.string o_0)) ?_ ?_
      · conv=>whnf
        rfl
      conv=>whnf
      refine DNodeB.of (.ptr 0 0) ?_ ?_
      · conv=>whnf
        rfl
      conv=>whnf
      refine DNodeB.of (.ptr 0 0) ?_ ?_
      · conv=>whnf
        rfl
      conv=>whnf
      refine DNodeB.of (.ptr 0 1) ?_ ?_
      · conv=>whnf
        rfl
      conv=>whnf
      refine DNodeB.of (.lit (.int .i64 o_1)) ?_ ?_
      · conv=>whnf
        rfl
      obtain ⟨ch6,h6⟩:=chk_elim h5; clear h5
      obtain ⟨t31,et31,h7⟩:=letk_elim h6; clear h6
      conv=>whnf
      refine DNodeB.of (.lit (.int .u8 t31)) ?_ ?_
      · conv=>whnf
        refine Side.mk ch6 ?_
        conv=>whnf
        refine Nm.mk ⟨t31,et31,?_⟩
        conv=>whnf
        rfl
      obtain ⟨t32,et32,h8⟩:=letk_elim h7; clear h7
      conv=>whnf
      refine DNodeB.of (.lit (.bool t32)) ?_ ?_
      · conv=>whnf
        refine Nm.mk ⟨t32,et32,?_⟩
        conv=>whnf
        rfl
      conv=>whnf
      refine DNodeB.of (.lit (.bool t32)) ?_ ?_
      · conv=>whnf
        rfl
      exact BackS.by ⟨_,_,_,_,_,_,_,h8,rfl⟩ (Sees.of (Weak.objs (keep:=[0]) (frz:=[]) (m:=0) rfl (by decide) rfl rfl ⟨⟨_,rfl,WO.boxs ⟨.s,.s,.s,.s,.s,.s,trivial⟩⟩,⟨rfl,fun _ h=>by cases h⟩⟩ ⟨(.ptr _ _ 0 rfl),.s,trivial⟩))
    clear h1
    rintro s ⟨r0_0_5,r0_1_5,r0_2_5,r0_3_5,r0_4_5,r0_5_5,t33,hj0,rfl⟩
    unfold Ref15.reader.next_.j3 at hj0
    rcases t33 with _ | _
    · have hj1:=bif_f hj0
      clear hj0
      exact BackS.by ⟨_,_,_,_,_,_,hj1,rfl⟩ (Sees.of (Weak.objs (keep:=[0]) (frz:=[]) (m:=0) rfl (by decide) rfl rfl ⟨⟨_,rfl,WO.boxs ⟨.s,.s,.s,.s,.s,.s,trivial⟩⟩,⟨rfl,fun _ h=>by cases h⟩⟩ ⟨(.ptr _ _ 0 rfl),trivial⟩))
    have hj1:=bif_t hj0
    clear hj0
    obtain ⟨t38,et38,hj2⟩:=letk_elim hj1; clear hj1
    conv=>whnf
    refine Nm.mk ⟨t38,et38,?_⟩
    conv=>whnf
    refine Nm.mk ⟨[.lit (.string r0_0_5),.lit (.int .i64 t38),.lit (.bool r0_2_5),.lit (.int .i64 r0_3_5),.lit (.string r0_4_5),.lit (.bool r0_5_5)],rfl,?_⟩
    obtain ⟨⟨o_0_2,o_1_2,o_2_2,o_3_2,o_4_2,o_5_2⟩,ee_t42,hj3⟩:=bind_elim hj2; clear hj2
    conv=>whnf
    refine Gate.weak (Sees.of (Weak.objs (k:=147) (keep:=[0]) (frz:=[]) (m:=0) (ts:=[(0,.ptr 0 0),(41,.ptr 0 0)]) (hs:=[.box [.lit (.string r0_0_5),.lit (.int .i64 t38),.lit (.bool r0_2_5),.lit (.int .i64 r0_3_5),.lit (.string r0_4_5),.lit (.bool r0_5_5)]]) rfl (by decide) rfl rfl ⟨⟨_,rfl,WO.boxs ⟨.s,.s,.s,.s,.s,.s,trivial⟩⟩,⟨rfl,fun _ h=>by cases h⟩⟩ ⟨(.ptr _ _ 0 rfl),(.ptr _ _ 0 rfl),trivial⟩)) ?_
    conv=>whnf
    refine CallN.hand (k:=1) (v:=.tup []) (hs':=[.box [.lit (.string o_0_2),.lit (.int .i64 o_1_2),.lit (.bool o_2_2),.lit (.int .i64 o_3_2),.lit (.string o_4_2),.lit (.bool o_5_2)]]) (ts':=[(0,.ptr 0 0),(41,.ptr 0 0)]) (Ref15.reader.blanks_ok ee_t42) rfl rfl ?_
    exact BackS.by ⟨_,_,_,_,_,_,hj3,rfl⟩ (Sees.of (Weak.objs (keep:=[0]) (frz:=[]) (m:=0) rfl (by decide) rfl rfl ⟨⟨_,rfl,WO.boxs ⟨.s,.s,.s,.s,.s,.s,trivial⟩⟩,⟨rfl,fun _ h=>by cases h⟩⟩ ⟨(.ptr _ _ 0 rfl),trivial⟩))
  clear h1
  rintro s ⟨r0_0_1,r0_1_1,r0_2_1,r0_3_1,r0_4_1,r0_5_1,hj0,rfl⟩
  unfold Ref15.reader.next_.j0 at hj0
  conv=>whnf
  refine Nm.mk ⟨[.lit (.string r0_0_1),.lit (.int .i64 r0_1_1),.lit (.bool true),.lit (.int .i64 r0_3_1),.lit (.string r0_4_1),.lit (.bool r0_5_1)],rfl,?_⟩
  conv=>whnf
  refine DrawB.ofG [none,none,none,none,none,none,none,none,none,none] Tryz_mixed (by kernel_rfl) (by kernel_rfl) ?_
  conv=>whnf
  refine DNodeB.of (.ptr 0 0) ?_ ?_
  · conv=>whnf
    rfl
  conv=>whnf
  refine DNodeB.of (.ptr 0 0) ?_ ?_
  · conv=>whnf
    rfl
  conv=>whnf
  refine DNodeB.of (.ptr 0 1) ?_ ?_
  · conv=>whnf
    rfl
  conv=>whnf
  refine DNodeB.of (.lit (.int .i64 r0_1_1)) ?_ ?_
  · conv=>whnf
    rfl
  conv=>whnf
  refine DNodeB.of (.ptr 0 0) ?_ ?_
  · conv=>whnf
    rfl
  conv=>whnf
  refine DNodeB.of (.ptr 0 0) ?_ ?_
  · conv=>whnf
    rfl
  conv=>whnf
  refine DNodeB.of (.ptr 0 0) ?_ ?_
  · conv=>whnf
    rfl
  conv=>whnf
  refine DNodeB.of (.lit (.string r0_0_1)) ?_ ?_
  · conv=>whnf
    rfl
  obtain ⟨t54,et54,hj1⟩:=letk_elim hj0; clear hj0
  conv=>whnf
  refine DNodeB.of (.lit (.int .i64 t54)) ?_ ?_
  · conv=>whnf
    refine Nm.mk ⟨t54,et54,?_⟩
    conv=>whnf
    rfl
  obtain ⟨t55,et55,hj2⟩:=letk_elim hj1; clear hj1
  conv=>whnf
  refine DNodeB.of (.lit (.bool t55)) ?_ ?_
  · conv=>whnf
    refine Nm.mk ⟨t55,et55,?_⟩
    conv=>whnf
    rfl
  rcases t55 with _ | _
  · have hj3:=bif_f hj2
    clear hj2
    conv=>whnf
    refine DrawB.ofG [none,none,none,none,none,none,none,none,none,none] Tryz_mixed (by kernel_rfl) (by kernel_rfl) ?_
    conv=>whnf
    refine DNodeB.of (.ptr 0 0) ?_ ?_
    · conv=>whnf
      rfl
    conv=>whnf
    refine DNodeB.of (.ptr 0 0) ?_ ?_
    · conv=>whnf
      rfl
    conv=>whnf
    refine DNodeB.of (.ptr 0 0) ?_ ?_
    · conv=>whnf
      rfl
    conv=>whnf
    refine DNodeB.of (.lit (.string r0_0_1)) ?_ ?_
    · conv=>whnf
      rfl
    conv=>whnf
    refine DNodeB.of (.ptr 0 0) ?_ ?_
    · conv=>whnf
      rfl
    conv=>whnf
    refine DNodeB.of (.ptr 0 0) ?_ ?_
    · conv=>whnf
      rfl
    conv=>whnf
    refine DNodeB.of (.ptr 0 1) ?_ ?_
    · conv=>whnf
      rfl
    conv=>whnf
    refine DNodeB.of (.lit (.int .i64 r0_1_1)) ?_ ?_
    · conv=>whnf
      rfl
    obtain ⟨chj4,hj4⟩:=chk_elim hj3; clear hj3
    obtain ⟨t64,et64,hj5⟩:=letk_elim hj4; clear hj4
    conv=>whnf
    refine DNodeB.of (.lit (.int .u8 t64)) ?_ ?_
    · conv=>whnf
      refine Side.mk chj4 ?_
      conv=>whnf
      refine Nm.mk ⟨t64,et64,?_⟩
      conv=>whnf
      rfl
    obtain ⟨t65,et65,hj6⟩:=letk_elim hj5; clear hj5
    conv=>whnf
    refine DNodeB.of (.lit (.bool t65)) ?_ ?_
    · conv=>whnf
      refine Nm.mk ⟨t65,et65,?_⟩
      conv=>whnf
      rfl
    rcases t65 with _ | _
    · have hj7:=bif_f hj6
      clear hj6
      conv=>whnf
      refine CutN.of (fun s=>∃ (r0_0_2:ByteArray) (r0_1_2:Int) (r0_2_2:Bool) (r0_3_2:Int) (r0_4_2:ByteArray) (r0_5_2:Bool),Ref15.reader.next_.j1 r0_1_1 r0_0_2 r0_1_2 r0_2_2 r0_3_2 r0_4_2 r0_5_2 = some r ∧ s = (⟨147,[(0,.ptr 0 0),(3,.lit (.int .i64 r0_1_1))],[.box [.lit (.string r0_0_2),.lit (.int .i64 r0_1_2),.lit (.bool r0_2_2),.lit (.int .i64 r0_3_2),.lit (.string r0_4_2),.lit (.bool r0_5_2)]]⟩:St)) ?_ ?_
      · conv=>whnf
        unfold Ref15.reader.next_.l0 at hj7
        refine LoopB.of (σ:=ByteArray × Int × Bool × Int × ByteArray × Bool) (ρ:=ByteArray × Int × Bool × Int × ByteArray × Bool × ByteArray) (fun v:ByteArray × Int × Bool × Int × ByteArray × Bool=>Ref15.reader.next_.s0 r0_1_1 v.1 v.2.1 v.2.2.1 v.2.2.2.1 v.2.2.2.2.1 v.2.2.2.2.2) (fun v=>(⟨147,[(0,.ptr 0 0),(3,.lit (.int .i64 r0_1_1))],[.box [.lit (.string v.1),.lit (.int .i64 v.2.1),.lit (.bool v.2.2.1),.lit (.int .i64 v.2.2.2.1),.lit (.string v.2.2.2.2.1),.lit (.bool v.2.2.2.2.2)]]⟩:St)) (r0_0_1,r0_1_1,true,r0_3_1,r0_4_1,r0_5_1) hj7 (BackS.by rfl (Sees.of (Weak.objs (keep:=[0]) (frz:=[]) (m:=0) rfl (by decide) rfl rfl ⟨⟨_,rfl,WO.boxs ⟨.s,.s,.s,.s,.s,.s,trivial⟩⟩,⟨rfl,fun _ h=>by cases h⟩⟩ ⟨(.ptr _ _ 0 rfl),.s,trivial⟩))) ?_
        clear hj7
        rintro K1 ⟨r0_0_3,r0_1_3,r0_2_3,r0_3_3,r0_4_3,r0_5_3⟩ x1 hs0_0 hl1 hr1
        replace hs0_0:Ref15.reader.next_.s0 r0_1_1 r0_0_3 r0_1_3 r0_2_3 r0_3_3 r0_4_3 r0_5_3 = some x1:=hs0_0
        unfold Ref15.reader.next_.s0 at hs0_0
        change bwp _ _ _ _ _ (⟨147,[(0,.ptr 0 0),(3,.lit (.int .i64 r0_1_1))],[.box [.lit (.string r0_0_3),.lit (.int .i64 r0_1_3),.lit (.bool r0_2_3),.lit (.int .i64 r0_3_3),.lit (.string r0_4_3),.lit (.bool r0_5_3)]]⟩:St)
        conv=>whnf
        refine CutN.of (fun s=>∃ (r0_0_4:ByteArray) (r0_1_4:Int) (r0_2_4:Bool) (r0_3_4:Int) (r0_4_4:ByteArray) (r0_5_4:Bool),Ref15.reader.next_.j2 r0_1_1 r0_0_4 r0_1_4 r0_2_4 r0_3_4 r0_4_4 r0_5_4 = some x1 ∧ s = (⟨147,[(0,.ptr 0 0),(3,.lit (.int .i64 r0_1_1))],[.box [.lit (.string r0_0_4),.lit (.int .i64 r0_1_4),.lit (.bool r0_2_4),.lit (.int .i64 r0_3_4),.lit (.string r0_4_4),.lit (.bool r0_5_4)]]⟩:St)) ?_ ?_
        · conv=>whnf
          refine DrawB.ofG [none,none,none,none,none,none,none,none,none,none,none,some 80,some 80,some 80,some 80,some 80,some 80,some 80,some 80,some 80,some 80,none,none,some 92,some 92,some 92,some 92,some 92,some 92,some 92,some 92,some 92,some 92,none,none,some 104,some 104,some 104,some 104,some 104,some 104,some 104,some 104,some 104,some 104,none,none,some 116,some 116,some 116,some 116,some 116,some 116,some 116,some 116,some 116,some 116,none] Tryz_mixed (by kernel_rfl) (by kernel_rfl) ?_
          conv=>whnf
          refine DNodeB.of (.ptr 0 0) ?_ ?_
          · conv=>whnf
            rfl
          conv=>whnf
          refine DNodeB.of (.ptr 0 0) ?_ ?_
          · conv=>whnf
            rfl
          conv=>whnf
          refine DNodeB.of (.ptr 0 1) ?_ ?_
          · conv=>whnf
            rfl
          conv=>whnf
          refine DNodeB.of (.lit (.int .i64 r0_1_3)) ?_ ?_
          · conv=>whnf
            rfl
          conv=>whnf
          refine DNodeB.of (.ptr 0 0) ?_ ?_
          · conv=>whnf
            rfl
          conv=>whnf
          refine DNodeB.of (.ptr 0 0) ?_ ?_
          · conv=>whnf
            rfl
          conv=>whnf
          refine DNodeB.of (.ptr 0 0) ?_ ?_
          · conv=>whnf
            rfl
          conv=>whnf
          refine DNodeB.of (.lit (.string r0_0_3)) ?_ ?_
          · conv=>whnf
            rfl
          obtain ⟨t78,et78,hs0_1⟩:=letk_elim hs0_0; clear hs0_0
          conv=>whnf
          refine DNodeB.of (.lit (.int .i64 t78)) ?_ ?_
          · conv=>whnf
            refine Nm.mk ⟨t78,et78,?_⟩
            conv=>whnf
            rfl
          obtain ⟨t79,et79,hs0_2⟩:=letk_elim hs0_1; clear hs0_1
          conv=>whnf
          refine DNodeB.of (.lit (.bool t79)) ?_ ?_
          · conv=>whnf
            refine Nm.mk ⟨t79,et79,?_⟩
            conv=>whnf
            rfl
          conv=>whnf
          refine DNodeB.of (.lit (.bool t79)) ?_ ?_
          · conv=>whnf
            rfl
          rcases t79 with _ | _
          · have hs0_3:=bif_f hs0_2
            clear hs0_2
            conv=>whnf
            refine DNodeB.of (.lit (.bool false)) ?_ ?_
            · conv=>whnf
              rfl
            conv=>whnf
            refine DNodeB.of (.lit (.bool false)) ?_ ?_
            · conv=>whnf
              rfl
            conv=>whnf
            refine DNodeB.of (.lit (.bool false)) ?_ ?_
            · conv=>whnf
              rfl
            conv=>whnf
            refine DNodeB.of (.lit (.bool false)) ?_ ?_
            · conv=>whnf
              rfl
            conv=>whnf
            refine DNodeB.of (.lit (.bool false)) ?_ ?_
            · conv=>whnf
              rfl
            conv=>whnf
            refine DNodeB.of (.lit (.bool false)) ?_ ?_
            · conv=>whnf
              rfl
            conv=>whnf
            refine DNodeB.of (.lit (.bool false)) ?_ ?_
            · conv=>whnf
              rfl
            obtain ⟨yhs0_3_0,hs0_3u,ehs0_3_0⟩:=map_elim hs0_3
            have ehs0_3_0:=(hr1 _ ehs0_3_0.symm).symm
            subst ehs0_3_0
            exact BackS.by ⟨_,_,_,_,_,_,hs0_3u,rfl⟩ (Sees.of (Weak.objs (keep:=[0]) (frz:=[]) (m:=0) rfl (by decide) rfl rfl ⟨⟨_,rfl,WO.boxs ⟨.s,.s,.s,.s,.s,.s,trivial⟩⟩,⟨rfl,fun _ h=>by cases h⟩⟩ ⟨(.ptr _ _ 0 rfl),.s,trivial⟩))
          have hs0_3:=bif_t hs0_2
          clear hs0_2
          conv=>whnf
          refine DNodeB.of (.ptr 0 0) ?_ ?_
          · conv=>whnf
            rfl
          conv=>whnf
          refine DNodeB.of (.ptr 0 0) ?_ ?_
          · conv=>whnf
            rfl
          conv=>whnf
          refine DNodeB.of (.ptr 0 0) ?_ ?_
          · conv=>whnf
            rfl
          conv=>whnf
          refine DNodeB.of (.lit (.string r0_0_3)) ?_ ?_
          · conv=>whnf
            rfl
          conv=>whnf
          refine DNodeB.of (.ptr 0 0) ?_ ?_
          · conv=>whnf
            rfl
          conv=>whnf
          refine DNodeB.of (.ptr 0 0) ?_ ?_
          · conv=>whnf
            rfl
          conv=>whnf
          refine DNodeB.of (.ptr 0 1) ?_ ?_
          · conv=>whnf
            rfl
          conv=>whnf
          refine DNodeB.of (.lit (.int .i64 r0_1_3)) ?_ ?_
          · conv=>whnf
            rfl
          obtain ⟨chs0_4,hs0_4⟩:=chk_elim hs0_3; clear hs0_3
          obtain ⟨t89,et89,hs0_5⟩:=letk_elim hs0_4; clear hs0_4
          conv=>whnf
          refine DNodeB.of (.lit (.int .u8 t89)) ?_ ?_
          · conv=>whnf
            refine Side.mk chs0_4 ?_
            conv=>whnf
            refine Nm.mk ⟨t89,et89,?_⟩
            conv=>whnf
            rfl
          obtain ⟨t90,et90,hs0_6⟩:=letk_elim hs0_5; clear hs0_5
          conv=>whnf
          refine DNodeB.of (.lit (.bool t90)) ?_ ?_
          · conv=>whnf
            refine Nm.mk ⟨t90,et90,?_⟩
            conv=>whnf
            rfl
          conv=>whnf
          refine DNodeB.of (.lit (.bool t90)) ?_ ?_
          · conv=>whnf
            rfl
          conv=>whnf
          refine DNodeB.of (.lit (.bool t90)) ?_ ?_
          · conv=>whnf
            rfl
          rcases t90 with _ | _
          · have hs0_7:=bif_f hs0_6
            clear hs0_6
            conv=>whnf
            refine DNodeB.of (.lit (.bool false)) ?_ ?_
            · conv=>whnf
              rfl
            conv=>whnf
            refine DNodeB.of (.lit (.bool false)) ?_ ?_
            · conv=>whnf
              rfl
            conv=>whnf
            refine DNodeB.of (.lit (.bool false)) ?_ ?_
            · conv=>whnf
              rfl
            conv=>whnf
            refine DNodeB.of (.lit (.bool false)) ?_ ?_
            · conv=>whnf
              rfl
            conv=>whnf
            refine DNodeB.of (.lit (.bool false)) ?_ ?_
            · conv=>whnf
              rfl
            obtain ⟨yhs0_7_0,hs0_7u,ehs0_7_0⟩:=map_elim hs0_7
            have ehs0_7_0:=(hr1 _ ehs0_7_0.symm).symm
            subst ehs0_7_0
            exact BackS.by ⟨_,_,_,_,_,_,hs0_7u,rfl⟩ (Sees.of (Weak.objs (keep:=[0]) (frz:=[]) (m:=0) rfl (by decide) rfl rfl ⟨⟨_,rfl,WO.boxs ⟨.s,.s,.s,.s,.s,.s,trivial⟩⟩,⟨rfl,fun _ h=>by cases h⟩⟩ ⟨(.ptr _ _ 0 rfl),.s,trivial⟩))
          have hs0_7:=bif_t hs0_6
          clear hs0_6
          conv=>whnf
          refine DNodeB.of (.ptr 0 0) ?_ ?_
          · conv=>whnf
            rfl
          conv=>whnf
          refine DNodeB.of (.ptr 0 0) ?_ ?_
          · conv=>whnf
            rfl
          conv=>whnf
          refine DNodeB.of (.ptr 0 0) ?_ ?_
          · conv=>whnf
            rfl
          conv=>whnf
          refine DNodeB.of (.lit (.string r0_0_3)) ?_ ?_
          · conv=>whnf
            rfl
          conv=>whnf
          refine DNodeB.of (.ptr 0 0) ?_ ?_
          · conv=>whnf
            rfl
          conv=>whnf
          refine DNodeB.of (.ptr 0 0) ?_ ?_
          · conv=>whnf
            rfl
          conv=>whnf
          refine DNodeB.of (.ptr 0 1) ?_ ?_
          · conv=>whnf
            rfl
          conv=>whnf
          refine DNodeB.of (.lit (.int .i64 r0_1_3)) ?_ ?_
          · conv=>whnf
            rfl
          obtain ⟨chs0_8,hs0_8⟩:=chk_elim hs0_7; clear hs0_7
          obtain ⟨t101,et101,hs0_9⟩:=letk_elim hs0_8; clear hs0_8
          conv=>whnf
          refine DNodeB.of (.lit (.int .u8 t101)) ?_ ?_
          · conv=>whnf
            refine Side.mk chs0_8 ?_
            conv=>whnf
            refine Nm.mk ⟨t101,et101,?_⟩
            conv=>whnf
            rfl
          obtain ⟨t102,et102,hs0_10⟩:=letk_elim hs0_9; clear hs0_9
          conv=>whnf
          refine DNodeB.of (.lit (.bool t102)) ?_ ?_
          · conv=>whnf
            refine Nm.mk ⟨t102,et102,?_⟩
            conv=>whnf
            rfl
          conv=>whnf
          refine DNodeB.of (.lit (.bool t102)) ?_ ?_
          · conv=>whnf
            rfl
          conv=>whnf
          refine DNodeB.of (.lit (.bool t102)) ?_ ?_
          · conv=>whnf
            rfl
          rcases t102 with _ | _
          · have hs0_11:=bif_f hs0_10
            clear hs0_10
            conv=>whnf
            refine DNodeB.of (.lit (.bool false)) ?_ ?_
            · conv=>whnf
              rfl
            conv=>whnf
            refine DNodeB.of (.lit (.bool false)) ?_ ?_
            · conv=>whnf
              rfl
            conv=>whnf
            refine DNodeB.of (.lit (.bool false)) ?_ ?_
            · conv=>whnf
              rfl
            obtain ⟨yhs0_11_0,hs0_11u,ehs0_11_0⟩:=map_elim hs0_11
            have ehs0_11_0:=(hr1 _ ehs0_11_0.symm).symm
            subst ehs0_11_0
            exact BackS.by ⟨_,_,_,_,_,_,hs0_11u,rfl⟩ (Sees.of (Weak.objs (keep:=[0]) (frz:=[]) (m:=0) rfl (by decide) rfl rfl ⟨⟨_,rfl,WO.boxs ⟨.s,.s,.s,.s,.s,.s,trivial⟩⟩,⟨rfl,fun _ h=>by cases h⟩⟩ ⟨(.ptr _ _ 0 rfl),.s,trivial⟩))
          have hs0_11:=bif_t hs0_10
          clear hs0_10
          conv=>whnf
          refine DNodeB.of (.ptr 0 0) ?_ ?_
          · conv=>whnf
            rfl
          conv=>whnf
          refine DNodeB.of (.ptr 0 0) ?_ ?_
          · conv=>whnf
            rfl
          conv=>whnf
          refine DNodeB.of (.ptr 0 0) ?_ ?_
          · conv=>whnf
            rfl
          conv=>whnf
          refine DNodeB.of (.lit (.string r0_0_3)) ?_ ?_
          · conv=>whnf
            rfl
          conv=>whnf
          refine DNodeB.of (.ptr 0 0) ?_ ?_
          · conv=>whnf
            rfl
          conv=>whnf
          refine DNodeB.of (.ptr 0 0) ?_ ?_
          · conv=>whnf
            rfl
          conv=>whnf
          refine DNodeB.of (.ptr 0 1) ?_ ?_
          · conv=>whnf
            rfl
          conv=>whnf
          refine DNodeB.of (.lit (.int .i64 r0_1_3)) ?_ ?_
          · conv=>whnf
            rfl
          obtain ⟨chs0_12,hs0_12⟩:=chk_elim hs0_11; clear hs0_11
          obtain ⟨t113,et113,hs0_13⟩:=letk_elim hs0_12; clear hs0_12
          conv=>whnf
          refine DNodeB.of (.lit (.int .u8 t113)) ?_ ?_
          · conv=>whnf
            refine Side.mk chs0_12 ?_
            conv=>whnf
            refine Nm.mk ⟨t113,et113,?_⟩
            conv=>whnf
            rfl
          obtain ⟨t114,et114,hs0_14⟩:=letk_elim hs0_13; clear hs0_13
          conv=>whnf
          refine DNodeB.of (.lit (.bool t114)) ?_ ?_
          · conv=>whnf
            refine Nm.mk ⟨t114,et114,?_⟩
            conv=>whnf
            rfl
          conv=>whnf
          refine DNodeB.of (.lit (.bool t114)) ?_ ?_
          · conv=>whnf
            rfl
          conv=>whnf
          refine DNodeB.of (.lit (.bool t114)) ?_ ?_
          · conv=>whnf
            rfl
          rcases t114 with _ | _
          · have hs0_15:=bif_f hs0_14
            clear hs0_14
            conv=>whnf
            refine DNodeB.of (.lit (.bool false)) ?_ ?_
            · conv=>whnf
              rfl
            obtain ⟨yhs0_15_0,hs0_15u,ehs0_15_0⟩:=map_elim hs0_15
            have ehs0_15_0:=(hr1 _ ehs0_15_0.symm).symm
            subst ehs0_15_0
            exact BackS.by ⟨_,_,_,_,_,_,hs0_15u,rfl⟩ (Sees.of (Weak.objs (keep:=[0]) (frz:=[]) (m:=0) rfl (by decide) rfl rfl ⟨⟨_,rfl,WO.boxs ⟨.s,.s,.s,.s,.s,.s,trivial⟩⟩,⟨rfl,fun _ h=>by cases h⟩⟩ ⟨(.ptr _ _ 0 rfl),.s,trivial⟩))
          have hs0_15:=bif_t hs0_14
          clear hs0_14
          conv=>whnf
          refine DNodeB.of (.ptr 0 0) ?_ ?_
          · conv=>whnf
            rfl
          conv=>whnf
          refine DNodeB.of (.ptr 0 0) ?_ ?_
          · conv=>whnf
            rfl
          conv=>whnf
          refine DNodeB.of (.ptr 0 0) ?_ ?_
          · conv=>whnf
            rfl
          conv=>whnf
          refine DNodeB.of (.lit (.string r0_0_3)) ?_ ?_
          · conv=>whnf
            rfl
          conv=>whnf
          refine DNodeB.of (.ptr 0 0) ?_ ?_
          · conv=>whnf
            rfl
          conv=>whnf
          refine DNodeB.of (.ptr 0 0) ?_ ?_
          · conv=>whnf
            rfl
          conv=>whnf
          refine DNodeB.of (.ptr 0 1) ?_ ?_
          · conv=>whnf
            rfl
          conv=>whnf
          refine DNodeB.of (.lit (.int .i64 r0_1_3)) ?_ ?_
          · conv=>whnf
            rfl
          obtain ⟨chs0_16,hs0_16⟩:=chk_elim hs0_15; clear hs0_15
          obtain ⟨t125,et125,hs0_17⟩:=letk_elim hs0_16; clear hs0_16
          conv=>whnf
          refine DNodeB.of (.lit (.int .u8 t125)) ?_ ?_
          · conv=>whnf
            refine Side.mk chs0_16 ?_
            conv=>whnf
            refine Nm.mk ⟨t125,et125,?_⟩
            conv=>whnf
            rfl
          obtain ⟨t126,et126,hs0_18⟩:=letk_elim hs0_17; clear hs0_17
          conv=>whnf
          refine DNodeB.of (.lit (.bool t126)) ?_ ?_
          · conv=>whnf
            refine Nm.mk ⟨t126,et126,?_⟩
            conv=>whnf
            rfl
          conv=>whnf
          refine DNodeB.of (.lit (.bool t126)) ?_ ?_
          · conv=>whnf
            rfl
          rcases t126 with _ | _
          · have hs0_19:=bif_f hs0_18
            clear hs0_18
            obtain ⟨yhs0_19_0,hs0_19u,ehs0_19_0⟩:=map_elim hs0_19
            have ehs0_19_0:=(hr1 _ ehs0_19_0.symm).symm
            subst ehs0_19_0
            exact BackS.by ⟨_,_,_,_,_,_,hs0_19u,rfl⟩ (Sees.of (Weak.objs (keep:=[0]) (frz:=[]) (m:=0) rfl (by decide) rfl rfl ⟨⟨_,rfl,WO.boxs ⟨.s,.s,.s,.s,.s,.s,trivial⟩⟩,⟨rfl,fun _ h=>by cases h⟩⟩ ⟨(.ptr _ _ 0 rfl),.s,trivial⟩))
          have hs0_19:=bif_t hs0_18
          clear hs0_18
          exact BackS.by ⟨_,_,_,_,_,_,hs0_19,rfl⟩ (Sees.of (Weak.objs (keep:=[0]) (frz:=[]) (m:=0) rfl (by decide) rfl rfl ⟨⟨_,rfl,WO.boxs ⟨.s,.s,.s,.s,.s,.s,trivial⟩⟩,⟨rfl,fun _ h=>by cases h⟩⟩ ⟨(.ptr _ _ 0 rfl),.s,trivial⟩))
        clear hs0_0
        rintro s ⟨r0_0_4,r0_1_4,r0_2_4,r0_3_4,r0_4_4,r0_5_4,hj0,rfl⟩
        unfold Ref15.reader.next_.j2 at hj0
        obtain ⟨t132,et132,hj1⟩:=letk_elim hj0; clear hj0
        conv=>whnf
        refine Nm.mk ⟨t132,et132,?_⟩
        conv=>whnf
        refine Nm.mk ⟨[.lit (.string r0_0_4),.lit (.int .i64 t132),.lit (.bool r0_2_4),.lit (.int .i64 r0_3_4),.lit (.string r0_4_4),.lit (.bool r0_5_4)],rfl,?_⟩
        exact BackS.by ⟨_,hl1 _ (Option.some.inj hj1).symm,rfl⟩ (Sees.of (Weak.objs (keep:=[0]) (frz:=[]) (m:=0) rfl (by decide) rfl rfl ⟨⟨_,rfl,WO.boxs ⟨.s,.s,.s,.s,.s,.s,trivial⟩⟩,⟨rfl,fun _ h=>by cases h⟩⟩ ⟨(.ptr _ _ 0 rfl),.s,trivial⟩))
      clear hj7
      rintro s ⟨r0_0_2,r0_1_2,r0_2_2,r0_3_2,r0_4_2,r0_5_2,hj0,rfl⟩
      unfold Ref15.reader.next_.j1 at hj0
      conv=>whnf
      refine DrawB.ofFN 0 [.box [.lit (.string r0_0_2),.lit (.int .i64 r0_1_2),.lit (.bool r0_2_2),.lit (.int .i64 r0_3_2),.lit (.string r0_4_2),.lit (.bool r0_5_2)]] 1 1 [[],[],[0],[0],[0],[],[],[0],[0],[0],[],[0]] [[],[],[],[],[],[],[],[],[],[],[],[0]] [none,none,none,none,none,none,none,none,none,none,none,none] Tryz_mixed (by kernel_rfl) rfl rfl rfl (by kernel_rfl) ?_
      conv=>whnf
      refine FNode.mv (W:=[]) (.ptr 0 0) rfl rfl ?_
      conv=>whnf
      refine FNode.mv (W:=[]) (.ptr 0 0) rfl rfl ?_
      conv=>whnf
      refine FNode.rd (F:=[0]) (W:=[]) (.ptr 0 0) ?_ rfl rfl ?_
      · conv=>whnf
        rfl
      conv=>whnf
      refine FNode.rd (F:=[0]) (W:=[]) (.ptr 0 0) ?_ rfl rfl ?_
      · conv=>whnf
        rfl
      conv=>whnf
      refine FNode.rd (F:=[0]) (W:=[]) (.lit (.string r0_0_2)) ?_ rfl rfl ?_
      · conv=>whnf
        rfl
      conv=>whnf
      refine FNode.no (W:=[]) (.lit (.int .i64 r0_1_1)) ?_ rfl ?_
      · conv=>whnf
        rfl
      conv=>whnf
      refine FNode.mv (W:=[]) (.ptr 0 0) rfl rfl ?_
      conv=>whnf
      refine FNode.rd (F:=[0]) (W:=[]) (.ptr 0 0) ?_ rfl rfl ?_
      · conv=>whnf
        rfl
      conv=>whnf
      refine FNode.rd (F:=[0]) (W:=[]) (.ptr 0 1) ?_ rfl rfl ?_
      · conv=>whnf
        rfl
      conv=>whnf
      refine FNode.rd (F:=[0]) (W:=[]) (.lit (.int .i64 r0_1_2)) ?_ rfl rfl ?_
      · conv=>whnf
        rfl
      obtain ⟨chj1,hj1⟩:=chk_elim hj0; clear hj0
      obtain ⟨t145,et145,hj2⟩:=letk_elim hj1; clear hj1
      conv=>whnf
      refine FNode.no (W:=[]) (.lit (.string t145)) ?_ rfl ?_
      · conv=>whnf
        refine Side.mk chj1 ?_
        conv=>whnf
        refine Nm.mk ⟨t145,et145,?_⟩
        conv=>whnf
        rfl
      obtain ⟨⟨o_0_1,o_1_1,o_2_1,o_3_1,o_4_1,o_5_1⟩,ee_t146,hj3⟩:=bind_elim hj2; clear hj2
      conv=>whnf
      refine FNode.pl (F:=[0]) (W:=[0]) (.tup []) [.box [.lit (.string o_0_1),.lit (.int .i64 o_1_1),.lit (.bool o_2_1),.lit (.int .i64 o_3_1),.lit (.string o_4_1),.lit (.bool o_5_1)]] ?_ rfl rfl rfl rfl ?_
      · conv=>whnf
        refine CallN.hand (k:=1) (v:=.tup []) (hs':=[.box [.lit (.string o_0_1),.lit (.int .i64 o_1_1),.lit (.bool o_2_1),.lit (.int .i64 o_3_1),.lit (.string o_4_1),.lit (.bool o_5_1)]]) (ts':=[(135,.ptr 0 0),(145,.lit (.string t145))]) (Ref15.reader.repeats_ok ee_t146) rfl rfl ?_
        conv=>whnf
        rfl
      have ehj3_0:=Option.some.inj hj3
      subst ehj3_0
      conv=>whnf
      exact Returns.hand (v:=.lit (.string (⟨#[118,97,108,117,101]⟩))) (keep:=[0]) (frz:=[]) (m:=0) (h':=[.box [.lit (.string o_0_1),.lit (.int .i64 o_1_1),.lit (.bool o_2_1),.lit (.int .i64 o_3_1),.lit (.string o_4_1),.lit (.bool o_5_1)]]) rfl rfl (WH.of (by decide) rfl rfl ⟨⟨_,rfl,WO.boxs ⟨.s,.s,.s,.s,.s,.s,trivial⟩⟩,⟨rfl,fun _ h=>by cases h⟩⟩) (.s) ⟨rfl,rfl⟩
    have hj7:=bif_t hj6
    clear hj6
    have ehj7_0:=Option.some.inj hj7
    subst ehj7_0
    conv=>whnf
    exact Returns.hand (v:=.lit (.string (⟨#[115,108,97,115,104]⟩))) (keep:=[0]) (frz:=[]) (m:=0) (h':=[.box [.lit (.string r0_0_1),.lit (.int .i64 r0_1_1),.lit (.bool true),.lit (.int .i64 r0_3_1),.lit (.string r0_4_1),.lit (.bool r0_5_1)]]) rfl rfl (WH.of (by decide) rfl rfl ⟨⟨_,rfl,WO.boxs ⟨.s,.s,.s,.s,.s,.s,trivial⟩⟩,⟨rfl,fun _ h=>by cases h⟩⟩) (.s) ⟨rfl,rfl⟩
  have hj3:=bif_t hj2
  clear hj2
  have ehj3_0:=Option.some.inj hj3
  subst ehj3_0
  conv=>whnf
  exact Returns.hand (v:=.lit (.string (⟨#[101,110,100]⟩))) (keep:=[0]) (frz:=[]) (m:=0) (h':=[.box [.lit (.string r0_0_1),.lit (.int .i64 r0_1_1),.lit (.bool true),.lit (.int .i64 r0_3_1),.lit (.string r0_4_1),.lit (.bool r0_5_1)]]) rfl rfl (WH.of (by decide) rfl rfl ⟨⟨_,rfl,WO.boxs ⟨.s,.s,.s,.s,.s,.s,trivial⟩⟩,⟨rfl,fun _ h=>by cases h⟩⟩) (.s) ⟨rfl,rfl⟩
end Go.Q
