import Derived.Test.YtognkiddigibnaaGreatDoorLG1
import Derived.Test.YtognkiddigibnaaGreatDoorFX
import Derived.Test.YtognkiddigibnaaGreatDoorFY
import Derived.Test.YtognkiddigibnaaGreatDoorProg
namespace Go.Q
open Go Go.Proofs
set_option maxRecDepth 10000
set_option maxHeartbeats 2000000
noncomputable def Lst.Input.j2 (was1:List api.Value) (out6_3:List api.Value) (r7_3:ByteArray) (at8_2:Int) (x11_0_2:Int) (x11_1_2:ByteArray):Option (((List api.Value) × ByteArray × Int × Int × ByteArray) ⊕ (((List api.Value) × ByteArray × Int) ⊕ ((List api.Value) × Int))) :=
  letk (IntKind.i64.wrap (x11_0_2 - (1:Int))) fun t59 =>
  some (.inl (out6_3,r7_3,at8_2,t59,x11_1_2))
noncomputable def Lst.Input.j1 (was1:List api.Value) (at8_1:Int) (out6_2:List api.Value) (r7_2:ByteArray) (x11_0_1:Int) (x11_1_1:ByteArray):Option (((List api.Value) × ByteArray × Int × Int × ByteArray) ⊕ (((List api.Value) × ByteArray × Int) ⊕ ((List api.Value) × Int))) :=
  letk (!(x11_1_1.toList == (⟨#[]⟩:ByteArray).toList)) fun t63 =>
  bif t63 then
    chk (0 ≤ at8_1) <|
    Option.bind (was1[at8_1.toNat]?) fun t71 =>
    Option.bind (Lst.value x11_1_1 t71.Kind) fun (t74_0,t74_1) =>
    chk (0 ≤ at8_1 ∧ at8_1 < (out6_2.length:Int)) <|
    letk (0 + at8_1.toNat) fun t77 =>
    Option.bind (out6_2[t77]?) fun old =>
    letk (out6_2.set t77 ((⟨t74_0.Kind,t74_0.N⟩:api.Value))) fun l =>
    letk (t74_1 != (0:Int)) fun t79 =>
    bif t79 then
      some (.inr (.inr ([],t74_1)))
    else
      letk (IntKind.i64.wrap (at8_1 + (1:Int))) fun t82_1 =>
      Lst.Input.j2 was1 l r7_2 t82_1 x11_0_1 x11_1_1
  else
    letk (IntKind.i64.wrap (at8_1 + (1:Int))) fun t82 =>
    Lst.Input.j2 was1 out6_2 r7_2 t82 x11_0_1 x11_1_1
noncomputable def Lst.Input.s1 (was1:List api.Value) (out6_1:List api.Value) (r7_1:ByteArray) (at8_1:Int) (x11_0:Int) (x11_1:ByteArray):Option (((List api.Value) × ByteArray × Int × Int × ByteArray) ⊕ (((List api.Value) × ByteArray × Int) ⊕ ((List api.Value) × Int))) :=
  letk (decide (x11_0 > (0:Int))) fun t50 =>
  bif t50 then
    letk ((out6_1.length:Int)) fun t54 =>
    letk (decide (at8_1 < t54)) fun t55 =>
    bif t55 then
      Lst.Input.j1 was1 at8_1 out6_1 r7_1 x11_0 x11_1
    else
      some (.inr (.inl (out6_1,r7_1,at8_1)))
  else
    some (.inr (.inl (out6_1,r7_1,at8_1)))
noncomputable def Lst.Input.l1 (was1:List api.Value) (out6_1:List api.Value) (r7_1:ByteArray) (at8_1:Int) (x11_0:Int) (x11_1:ByteArray):Option (((List api.Value) × ByteArray × Int) ⊕ ((List api.Value) × Int)):=loopO (fun v:(List api.Value) × ByteArray × Int × Int × ByteArray=>Lst.Input.s1 was1 v.1 v.2.1 v.2.2.1 v.2.2.2.1 v.2.2.2.2) (out6_1,r7_1,at8_1,x11_0,x11_1)
noncomputable def Lst.Input.s0 (was1:List api.Value) (out6:List api.Value) (r7:ByteArray) (at8:Int):Option (((List api.Value) × ByteArray × Int) ⊕ ((List api.Value) × Int)) :=
  letk ((out6.length:Int)) fun t28 =>
  letk (decide (at8 < t28)) fun t29 =>
  bif t29 then
    Option.bind (Lst.reader.ended r7) fun (o_0,t32_0,t32_1) =>
    bif t32_1 then
      some (.inr (out6,0))
    else
      bif t32_0 then
        some (.inr ([],6))
      else
        Option.bind (Lst.reader.next_ o_0) fun (o_0_1,t42_0,t42_1) =>
        letk (t42_1 != (0:Int)) fun t46 =>
        bif t46 then
          some (.inr ([],t42_1))
        else
          Lst.Input.l1 was1 out6 o_0_1 at8 t42_0.times t42_0.text
  else
    some (.inr (out6,0))
noncomputable def Lst.Input.l0 (was1:List api.Value) (out6:List api.Value) (r7:ByteArray) (at8:Int):Option ((List api.Value) × Int):=loopO (fun v:(List api.Value) × ByteArray × Int=>Lst.Input.s0 was1 v.1 v.2.1 v.2.2) (out6,r7,at8)
noncomputable def Lst.Input.j0 (text0:ByteArray) (was1:List api.Value):Option ((List api.Value) × Int) :=
  Option.bind (Slcs.CloneV was1) fun t22 =>
  Lst.Input.l0 was1 t22 text0 0
noncomputable def Lst.Input (text0:ByteArray) (was1:List api.Value):Option ((List api.Value) × Int) :=
  Option.bind (Lst.areValues was1) fun t14 =>
  letk (!t14) fun t15 =>
  bif t15 then
    some ([],2)
  else
    Option.bind (Lst.isText text0) fun t18 =>
    letk (!t18) fun t19 =>
    bif t19 then
      some ([],2)
    else
      Lst.Input.j0 text0 was1
theorem Lst.Input_ok {text0:ByteArray} {was1:List api.Value} {r:(List api.Value) × Int} (h0:Lst.Input text0 was1 = some r):Gives Tryz.prog 13 [.lit (.string text0),.vs 2 (was1.map (api.Value.enc))] (.tup [.vs 2 (r.1.map (api.Value.enc)),.lit (.int .i64 r.2)]):=by
  unfold Lst.Input at h0
  refine ACalls.of_swp Tryz.func13 rfl (by decide) rfl (st0:=⟨84,[(0,.lit (.string text0)),(1,.vs 2 (was1.map (api.Value.enc)))],[]⟩) rfl (bwp_ok (C:=[(0,3),(1,4),(0,16)]) ?_)
  conv=>whnf
  refine CutN.of (fun s=>Lst.Input.j0 text0 was1 = some r ∧ s = (⟨84,[(0,.lit (.string text0)),(1,.vs 2 (was1.map (api.Value.enc)))],[]⟩:St)) ?_ ?_
  · obtain ⟨t14,et14,h1⟩:=bind_elim h0; clear h0
    conv=>whnf
    refine Gate.go ?_
    conv=>whnf
    refine CallN.by (v:=.lit (.bool t14)) (Lst.areValues_ok et14) rfl rfl ?_
    obtain ⟨t15,et15,h2⟩:=letk_elim h1; clear h1
    conv=>whnf
    refine Nm.mk ⟨t15,et15,?_⟩
    rcases t15 with _ | _
    · have h3:=bif_f h2
      clear h2
      obtain ⟨t18,et18,h4⟩:=bind_elim h3; clear h3
      conv=>whnf
      refine Gate.go ?_
      conv=>whnf
      refine CallN.by (v:=.lit (.bool t18)) (Lst.isText_ok et18) rfl rfl ?_
      obtain ⟨t19,et19,h5⟩:=letk_elim h4; clear h4
      conv=>whnf
      refine Nm.mk ⟨t19,et19,?_⟩
      rcases t19 with _ | _
      · have h6:=bif_f h5
        clear h5
        exact BackS.by ⟨h6,rfl⟩ (Sees.e ⟨.s,.s,trivial⟩)
      have h6:=bif_t h5
      clear h5
      have eh6_0:=Option.some.inj h6
      subst eh6_0
      conv=>whnf
      exact Returns.frozen (r:=.tup [.vs 2 (([]).map (api.Value.enc)),.lit (.int .i64 2)]) [] rfl rfl (WV.tups ⟨(.nilsVs _),.s,trivial⟩) ⟨rfl,rfl⟩
    have h3:=bif_t h2
    clear h2
    have eh3_0:=Option.some.inj h3
    subst eh3_0
    conv=>whnf
    exact Returns.frozen (r:=.tup [.vs 2 (([]).map (api.Value.enc)),.lit (.int .i64 2)]) [] rfl rfl (WV.tups ⟨(.nilsVs _),.s,trivial⟩) ⟨rfl,rfl⟩
  clear h0
  rintro s ⟨hj0,rfl⟩
  unfold Lst.Input.j0 at hj0
  obtain ⟨t22,et22,hj1⟩:=bind_elim hj0; clear hj0
  conv=>whnf
  refine Gate.go ?_
  conv=>whnf
  refine CallN.fresh (s:=2) (es:=t22.map (api.Value.enc)) (Slcs.CloneV_ok et22) rfl ?_
  conv=>whnf
  refine Gate.go ?_
  conv=>whnf
  refine Nm.mk ⟨[.lit (.string text0)],rfl,?_⟩
  conv=>whnf
  refine Nm.mk ⟨[.lit (.string text0)],rfl,?_⟩
  conv=>whnf
  unfold Lst.Input.l0 at hj1
  refine LoopB.of (σ:=(List api.Value) × ByteArray × Int) (ρ:=(List api.Value) × Int) (fun v:(List api.Value) × ByteArray × Int=>Lst.Input.s0 was1 v.1 v.2.1 v.2.2) (fun v=>(⟨84,[(1,.vs 2 (was1.map (api.Value.enc))),(6,.ref 0 0 ((v.1.map (api.Value.enc)).length)),(7,.ptr 1 0),(8,.lit (.int .i64 v.2.2))],[.arr 2 (v.1.map (api.Value.enc)),.box [.lit (.string v.2.1)]]⟩:St)) (t22,text0,0) hj1 (BackS.by rfl (Sees.of (Weak.objs (keep:=[0,1]) (frz:=[]) (m:=0) rfl (by decide) rfl rfl ⟨⟨_,rfl,.arr _ _⟩,⟨⟨_,rfl,WO.boxs ⟨.s,trivial⟩⟩,⟨rfl,fun _ h=>by cases h⟩⟩⟩ ⟨.s,(.ref _ _ _ 0 rfl),(.ptr _ _ 1 rfl),.s,trivial⟩))) ?_
  clear hj1
  rintro K1 ⟨out6,r7,at8⟩ x1 hs0_0 hl1 hr1
  replace hs0_0:Lst.Input.s0 was1 out6 r7 at8 = some x1:=hs0_0
  unfold Lst.Input.s0 at hs0_0
  change bwp _ _ _ _ _ (⟨84,[(1,.vs 2 (was1.map (api.Value.enc))),(6,.ref 0 0 ((out6.map (api.Value.enc)).length)),(7,.ptr 1 0),(8,.lit (.int .i64 at8))],[.arr 2 (out6.map (api.Value.enc)),.box [.lit (.string r7)]]⟩:St)
  obtain ⟨t28,et28,hs0_1⟩:=letk_elim hs0_0; clear hs0_0
  conv=>whnf
  refine Nm.mk ⟨t28,by rw [et28,List.length_map],?_⟩
  obtain ⟨t29,et29,hs0_2⟩:=letk_elim hs0_1; clear hs0_1
  conv=>whnf
  refine Nm.mk ⟨t29,et29,?_⟩
  rcases t29 with _ | _
  · have hs0_3:=bif_f hs0_2
    clear hs0_2
    have ehs0_3u_0:=hr1 _ (Option.some.inj hs0_3).symm
    have hs0_3u:=congrArg some ehs0_3u_0
    have ehs0_3u_0:=Option.some.inj hs0_3u
    subst ehs0_3u_0
    conv=>whnf
    exact Returns.frozen (r:=.tup [.vs 2 (out6.map (api.Value.enc)),.lit (.int .i64 0)]) [0] rfl rfl (WV.tups ⟨(WV.all (k:=0) (by decide) rfl),.s,trivial⟩) ⟨rfl,rfl⟩
  have hs0_3:=bif_t hs0_2
  clear hs0_2
  obtain ⟨⟨o_0,t32_0,t32_1⟩,ee_t32,hs0_4⟩:=bind_elim hs0_3; clear hs0_3
  conv=>whnf
  refine Gate.weak (Sees.of (Weak.objs (k:=84) (keep:=[1,0]) (frz:=[]) (m:=0) (ts:=[(1,.vs 2 (was1.map (api.Value.enc))),(6,.ref 1 0 ((out6.map (api.Value.enc)).length)),(7,.ptr 0 0),(8,.lit (.int .i64 at8)),(31,.ptr 0 0)]) (hs:=[.box [.lit (.string r7)],.arr 2 (out6.map (api.Value.enc))]) rfl (by decide) rfl rfl ⟨⟨_,rfl,WO.boxs ⟨.s,trivial⟩⟩,⟨⟨_,rfl,.arr _ _⟩,⟨rfl,fun _ h=>by cases h⟩⟩⟩ ⟨.s,(.ref _ _ _ 1 rfl),(.ptr _ _ 0 rfl),.s,(.ptr _ _ 0 rfl),trivial⟩)) ?_
  conv=>whnf
  refine CallN.handF (k:=1) (m:=1) (v:=.tup [.lit (.bool t32_0),.lit (.bool t32_1)]) (hs':=[.box [.lit (.string o_0)]]) (rest:=[.arr 2 (out6.map (api.Value.enc))]) (hs2:=[.box [.lit (.string o_0)],.arr 2 (out6.map (api.Value.enc))]) (ts':=[(1,.vs 2 (was1.map (api.Value.enc))),(6,.ref 1 0 ((out6.map (api.Value.enc)).length)),(7,.ptr 0 0),(8,.lit (.int .i64 at8)),(31,.ptr 0 0)]) (Lst.reader.ended_ok ee_t32) rfl rfl rfl rfl rfl rfl rfl rfl rfl ?_
  rcases t32_1 with _ | _
  · have hs0_5:=bif_f hs0_4
    clear hs0_4
    rcases t32_0 with _ | _
    · have hs0_6:=bif_f hs0_5
      clear hs0_5
      obtain ⟨⟨o_0_1,t42_0,t42_1⟩,ee_t42,hs0_7⟩:=bind_elim hs0_6; clear hs0_6
      conv=>whnf
      refine Gate.weak (Sees.of (Weak.objs (k:=84) (keep:=[0,1]) (frz:=[]) (m:=0) (ts:=[(1,.vs 2 (was1.map (api.Value.enc))),(6,.ref 1 0 ((out6.map (api.Value.enc)).length)),(7,.ptr 0 0),(8,.lit (.int .i64 at8)),(41,.ptr 0 0)]) (hs:=[.box [.lit (.string o_0)],.arr 2 (out6.map (api.Value.enc))]) rfl (by decide) rfl rfl ⟨⟨_,rfl,WO.boxs ⟨.s,trivial⟩⟩,⟨⟨_,rfl,.arr _ _⟩,⟨rfl,fun _ h=>by cases h⟩⟩⟩ ⟨.s,(.ref _ _ _ 1 rfl),(.ptr _ _ 0 rfl),.s,(.ptr _ _ 0 rfl),trivial⟩)) ?_
      conv=>whnf
      refine CallN.handF (k:=1) (m:=1) (v:=.tup [listing.item.enc t42_0,.lit (.int .i64 t42_1)]) (hs':=[.box [.lit (.string o_0_1)]]) (rest:=[.arr 2 (out6.map (api.Value.enc))]) (hs2:=[.box [.lit (.string o_0_1)],.arr 2 (out6.map (api.Value.enc))]) (ts':=[(1,.vs 2 (was1.map (api.Value.enc))),(6,.ref 1 0 ((out6.map (api.Value.enc)).length)),(7,.ptr 0 0),(8,.lit (.int .i64 at8)),(41,.ptr 0 0)]) (Lst.reader.next__ok ee_t42) rfl rfl rfl rfl rfl rfl rfl rfl rfl ?_
      conv=>whnf
      refine Nm.mk ⟨[.lit (.int .i64 0),.lit (.string (⟨#[]⟩))],rfl,?_⟩
      conv=>whnf
      refine Nm.mk ⟨[.lit (.int .i64 t42_0.times),.lit (.string t42_0.text)],rfl,?_⟩
      obtain ⟨t46,et46,hs0_8⟩:=letk_elim hs0_7; clear hs0_7
      conv=>whnf
      refine Nm.mk ⟨t46,et46,?_⟩
      rcases t46 with _ | _
      · have hs0_9:=bif_f hs0_8
        clear hs0_8
        conv=>whnf
        unfold Lst.Input.l1 at hs0_9
        refine LoopB.of (σ:=(List api.Value) × ByteArray × Int × Int × ByteArray) (ρ:=((List api.Value) × ByteArray × Int) ⊕ ((List api.Value) × Int)) (fun v:(List api.Value) × ByteArray × Int × Int × ByteArray=>Lst.Input.s1 was1 v.1 v.2.1 v.2.2.1 v.2.2.2.1 v.2.2.2.2) (fun v=>(⟨84,[(1,.vs 2 (was1.map (api.Value.enc))),(6,.ref 0 0 ((v.1.map (api.Value.enc)).length)),(7,.ptr 1 0),(8,.lit (.int .i64 v.2.2.1)),(11,.ptr 2 0)],[.arr 2 (v.1.map (api.Value.enc)),.box [.lit (.string v.2.1)],.box [.lit (.int .i64 v.2.2.2.1),.lit (.string v.2.2.2.2)]]⟩:St)) (out6,o_0_1,at8,t42_0.times,t42_0.text) hs0_9 (BackS.by rfl (Sees.of (Weak.objs (keep:=[1,0,2]) (frz:=[]) (m:=0) rfl (by decide) rfl rfl ⟨⟨_,rfl,.arr _ _⟩,⟨⟨_,rfl,WO.boxs ⟨.s,trivial⟩⟩,⟨⟨_,rfl,WO.boxs ⟨.s,.s,trivial⟩⟩,⟨rfl,fun _ h=>by cases h⟩⟩⟩⟩ ⟨.s,(.ref _ _ _ 0 rfl),(.ptr _ _ 1 rfl),.s,(.ptr _ _ 2 rfl),trivial⟩))) ?_
        clear hs0_9
        rintro K2 ⟨out6_1,r7_1,at8_1,x11_0,x11_1⟩ x2 hs1_0 hl2 hr2
        replace hs1_0:Lst.Input.s1 was1 out6_1 r7_1 at8_1 x11_0 x11_1 = some x2:=hs1_0
        unfold Lst.Input.s1 at hs1_0
        change bwp _ _ _ _ _ (⟨84,[(1,.vs 2 (was1.map (api.Value.enc))),(6,.ref 0 0 ((out6_1.map (api.Value.enc)).length)),(7,.ptr 1 0),(8,.lit (.int .i64 at8_1)),(11,.ptr 2 0)],[.arr 2 (out6_1.map (api.Value.enc)),.box [.lit (.string r7_1)],.box [.lit (.int .i64 x11_0),.lit (.string x11_1)]]⟩:St)
        conv=>whnf
        refine CutN.of (fun s=>∃ (out6_2:List api.Value) (r7_2:ByteArray) (x11_0_1:Int) (x11_1_1:ByteArray),Lst.Input.j1 was1 at8_1 out6_2 r7_2 x11_0_1 x11_1_1 = some x2 ∧ s = (⟨84,[(1,.vs 2 (was1.map (api.Value.enc))),(6,.ref 0 0 ((out6_2.map (api.Value.enc)).length)),(7,.ptr 1 0),(8,.lit (.int .i64 at8_1)),(11,.ptr 2 0)],[.arr 2 (out6_2.map (api.Value.enc)),.box [.lit (.string r7_2)],.box [.lit (.int .i64 x11_0_1),.lit (.string x11_1_1)]]⟩:St)) ?_ ?_
        · obtain ⟨t50,et50,hs1_1⟩:=letk_elim hs1_0; clear hs1_0
          conv=>whnf
          refine Nm.mk ⟨t50,et50,?_⟩
          rcases t50 with _ | _
          · have hs1_2:=bif_f hs1_1
            clear hs1_1
            have ehs1_2u_0:=hr2 _ (Option.some.inj hs1_2).symm
            have hs1_2u:=congrArg some ehs1_2u_0
            exact BackS.by ⟨_,hl1 _ (Option.some.inj hs1_2u).symm,rfl⟩ (Sees.of (Weak.objs (keep:=[0,1]) (frz:=[]) (m:=0) rfl (by decide) rfl rfl ⟨⟨_,rfl,.arr _ _⟩,⟨⟨_,rfl,WO.boxs ⟨.s,trivial⟩⟩,⟨rfl,fun _ h=>by cases h⟩⟩⟩ ⟨.s,(.ref _ _ _ 0 rfl),(.ptr _ _ 1 rfl),.s,trivial⟩))
          have hs1_2:=bif_t hs1_1
          clear hs1_1
          obtain ⟨t54,et54,hs1_3⟩:=letk_elim hs1_2; clear hs1_2
          conv=>whnf
          refine Nm.mk ⟨t54,by rw [et54,List.length_map],?_⟩
          obtain ⟨t55,et55,hs1_4⟩:=letk_elim hs1_3; clear hs1_3
          conv=>whnf
          refine Nm.mk ⟨t55,et55,?_⟩
          rcases t55 with _ | _
          · have hs1_5:=bif_f hs1_4
            clear hs1_4
            have ehs1_5u_0:=hr2 _ (Option.some.inj hs1_5).symm
            have hs1_5u:=congrArg some ehs1_5u_0
            exact BackS.by ⟨_,hl1 _ (Option.some.inj hs1_5u).symm,rfl⟩ (Sees.of (Weak.objs (keep:=[0,1]) (frz:=[]) (m:=0) rfl (by decide) rfl rfl ⟨⟨_,rfl,.arr _ _⟩,⟨⟨_,rfl,WO.boxs ⟨.s,trivial⟩⟩,⟨rfl,fun _ h=>by cases h⟩⟩⟩ ⟨.s,(.ref _ _ _ 0 rfl),(.ptr _ _ 1 rfl),.s,trivial⟩))
          have hs1_5:=bif_t hs1_4
          clear hs1_4
          exact BackS.by ⟨_,_,_,_,hs1_5,rfl⟩ (Sees.of (Weak.objs (keep:=[0,1,2]) (frz:=[]) (m:=0) rfl (by decide) rfl rfl ⟨⟨_,rfl,.arr _ _⟩,⟨⟨_,rfl,WO.boxs ⟨.s,trivial⟩⟩,⟨⟨_,rfl,WO.boxs ⟨.s,.s,trivial⟩⟩,⟨rfl,fun _ h=>by cases h⟩⟩⟩⟩ ⟨.s,(.ref _ _ _ 0 rfl),(.ptr _ _ 1 rfl),.s,(.ptr _ _ 2 rfl),trivial⟩))
        clear hs1_0
        rintro s ⟨out6_2,r7_2,x11_0_1,x11_1_1,hj0,rfl⟩
        unfold Lst.Input.j1 at hj0
        conv=>whnf
        refine CutN.of (fun s=>∃ (out6_3:List api.Value) (r7_3:ByteArray) (at8_2:Int) (x11_0_2:Int) (x11_1_2:ByteArray),Lst.Input.j2 was1 out6_3 r7_3 at8_2 x11_0_2 x11_1_2 = some x2 ∧ s = (⟨84,[(1,.vs 2 (was1.map (api.Value.enc))),(6,.ref 0 0 ((out6_3.map (api.Value.enc)).length)),(7,.ptr 1 0),(8,.lit (.int .i64 at8_2)),(11,.ptr 2 0)],[.arr 2 (out6_3.map (api.Value.enc)),.box [.lit (.string r7_3)],.box [.lit (.int .i64 x11_0_2),.lit (.string x11_1_2)]]⟩:St)) ?_ ?_
        · obtain ⟨t63,et63,hj1⟩:=letk_elim hj0; clear hj0
          conv=>whnf
          refine Nm.mk ⟨t63,et63,?_⟩
          rcases t63 with _ | _
          · have hj2:=bif_f hj1
            clear hj1
            obtain ⟨t82,et82,hj3⟩:=letk_elim hj2; clear hj2
            conv=>whnf
            refine Nm.mk ⟨t82,et82,?_⟩
            exact BackS.by ⟨_,_,_,_,_,hj3,rfl⟩ (Sees.of (Weak.objs (keep:=[0,1,2]) (frz:=[]) (m:=0) rfl (by decide) rfl rfl ⟨⟨_,rfl,.arr _ _⟩,⟨⟨_,rfl,WO.boxs ⟨.s,trivial⟩⟩,⟨⟨_,rfl,WO.boxs ⟨.s,.s,trivial⟩⟩,⟨rfl,fun _ h=>by cases h⟩⟩⟩⟩ ⟨.s,(.ref _ _ _ 0 rfl),(.ptr _ _ 1 rfl),.s,(.ptr _ _ 2 rfl),trivial⟩))
          have hj2:=bif_t hj1
          clear hj1
          conv=>whnf
          refine DrawB.sees (Sees.of (Weak.objs (k:=84) (keep:=[0,1,2]) (frz:=[]) (m:=0) (ts:=[(1,.vs 2 (was1.map (api.Value.enc))),(6,.ref 0 0 ((out6_2.map (api.Value.enc)).length)),(7,.ptr 1 0),(8,.lit (.int .i64 at8_1)),(11,.ptr 2 0)]) (hs:=[.arr 2 (out6_2.map (api.Value.enc)),.box [.lit (.string r7_2)],.box [.lit (.int .i64 x11_0_1),.lit (.string x11_1_1)]]) rfl (by decide) rfl rfl ⟨⟨_,rfl,.arr _ _⟩,⟨⟨_,rfl,WO.refl rfl⟩,⟨⟨_,rfl,WO.refl rfl⟩,⟨rfl,fun _ h=>by cases h⟩⟩⟩⟩ ⟨.s,(.ref _ _ _ 0 rfl),(.ptr _ _ 1 rfl),.s,(.ptr _ _ 2 rfl),trivial⟩)) ?_
          refine DrawB.ofFN 0 [.arr 2 (out6_2.map (api.Value.enc)),.box [.lit (.string r7_2)],.box [.lit (.int .i64 x11_0_1),.lit (.string x11_1_1)]] 3 3 [[],[],[2],[2],[],[],[],[],[],[],[],[],[],[0],[0],[]] [[],[],[],[],[],[],[],[],[],[],[],[],[],[],[0],[]] [none,none,none,none,none,none,none,none,none,none,none,none,none,none,none,none] Tryz_mixed (by kernel_rfl) rfl rfl rfl (by kernel_rfl) ?_
          conv=>whnf
          refine FNode.mv (W:=[]) (.ref 0 0 ((out6_2.map (api.Value.enc)).length)) rfl rfl ?_
          conv=>whnf
          refine FNode.no (W:=[]) (.lit (.int .i64 at8_1)) ?_ rfl ?_
          · conv=>whnf
            rfl
          conv=>whnf
          refine FNode.rd (F:=[2]) (W:=[]) (.ptr 2 1) ?_ rfl rfl ?_
          · conv=>whnf
            rfl
          conv=>whnf
          refine FNode.rd (F:=[2]) (W:=[]) (.lit (.string x11_1_1)) ?_ rfl rfl ?_
          · conv=>whnf
            rfl
          conv=>whnf
          refine FNode.no (W:=[]) (.vs 2 (was1.map (api.Value.enc))) ?_ rfl ?_
          · conv=>whnf
            rfl
          conv=>whnf
          refine FNode.no (W:=[]) (.lit (.int .i64 at8_1)) ?_ rfl ?_
          · conv=>whnf
            rfl
          obtain ⟨chj3,hj3⟩:=chk_elim hj2; clear hj2
          obtain ⟨t71,et71,hj4⟩:=bind_elim hj3; clear hj3
          conv=>whnf
          refine FNode.no (W:=[]) (.iptr (api.Value.enc t71)) ?_ rfl ?_
          · conv=>whnf
            refine Side.mk chj3 ?_
            conv=>whnf
            refine At.by et71 ?_
            conv=>whnf
            rfl
          conv=>whnf
          refine FNode.no (W:=[]) (.iptr (.lit (.int .i64 t71.Kind))) ?_ rfl ?_
          · conv=>whnf
            rfl
          conv=>whnf
          refine FNode.no (W:=[]) (.lit (.int .i64 t71.Kind)) ?_ rfl ?_
          · conv=>whnf
            rfl
          obtain ⟨⟨t74_0,t74_1⟩,et74,hj5⟩:=bind_elim hj4; clear hj4
          conv=>whnf
          refine FNode.no (W:=[]) (.tup [api.Value.enc t74_0,.lit (.int .i64 t74_1)]) ?_ rfl ?_
          · conv=>whnf
            refine CallN.by (v:=.tup [api.Value.enc t74_0,.lit (.int .i64 t74_1)]) (Lst.value_ok et74) rfl rfl ?_
            conv=>whnf
            rfl
          conv=>whnf
          refine FNode.no (W:=[]) (.tup [api.Value.enc t74_0,.lit (.int .i64 t74_1)]) ?_ rfl ?_
          · conv=>whnf
            rfl
          conv=>whnf
          refine FNode.no (W:=[]) (api.Value.enc t74_0) ?_ rfl ?_
          · conv=>whnf
            rfl
          conv=>whnf
          refine FNode.no (W:=[]) (.lit (.int .i64 t74_1)) ?_ rfl ?_
          · conv=>whnf
            rfl
          obtain ⟨chj6,hj6⟩:=chk_elim hj5; clear hj5
          obtain ⟨t77,et77,hj7⟩:=letk_elim hj6; clear hj6
          conv=>whnf
          refine FNode.rd (F:=[0]) (W:=[]) (.eptr 0 t77 0) ?_ rfl rfl ?_
          · conv=>whnf
            refine Side.mk (by simpa only [List.length_map] using chj6) ?_
            conv=>whnf
            refine Nm.mk ⟨t77,et77,?_⟩
            conv=>whnf
            rfl
          obtain ⟨old,eold,hj8⟩:=bind_elim hj7; clear hj7
          obtain ⟨l,el,hj9⟩:=letk_elim hj8; clear hj8
          conv=>whnf
          refine FNode.pl (F:=[0]) (W:=[0]) (.undef) [.arr 2 (l.map (api.Value.enc)),.box [.lit (.string r7_2)],.box [.lit (.int .i64 x11_0_1),.lit (.string x11_1_1)]] ?_ rfl rfl rfl rfl ?_
          · conv=>whnf
            refine At.by eold ?_
            conv=>whnf
            refine Side.mk ⟨Nat.le_of_ble_eq_true rfl,rfl⟩ ?_
            conv=>whnf
            refine Nm.mk ⟨l.map (api.Value.enc),by rw [el,List.map_set]; rfl,?_⟩
            rw [show (out6_2.map (api.Value.enc)).length = (l.map (api.Value.enc)).length from by rw [el,List.length_map,List.length_map,List.length_set]]
            conv=>whnf
            rfl
          rw [show (out6_2.map (api.Value.enc)).length = (l.map (api.Value.enc)).length from by rw [el,List.length_map,List.length_map,List.length_set]]
          conv=>whnf
          refine FNode.no (W:=[]) (.lit (.int .i64 t74_1)) ?_ rfl ?_
          · conv=>whnf
            rfl
          obtain ⟨t79,et79,hj10⟩:=letk_elim hj9; clear hj9
          conv=>whnf
          refine Nm.mk ⟨t79,et79,?_⟩
          rcases t79 with _ | _
          · have hj11:=bif_f hj10
            clear hj10
            obtain ⟨t82_1,et82_1,hj12⟩:=letk_elim hj11; clear hj11
            conv=>whnf
            refine Nm.mk ⟨t82_1,et82_1,?_⟩
            exact BackS.by ⟨_,_,_,_,_,hj12,rfl⟩ (Sees.of (Weak.objs (keep:=[0,1,2]) (frz:=[]) (m:=0) rfl (by decide) rfl rfl ⟨⟨_,rfl,.arr _ _⟩,⟨⟨_,rfl,WO.boxs ⟨.s,trivial⟩⟩,⟨⟨_,rfl,WO.boxs ⟨.s,.s,trivial⟩⟩,⟨rfl,fun _ h=>by cases h⟩⟩⟩⟩ ⟨.s,(.ref _ _ _ 0 rfl),(.ptr _ _ 1 rfl),.s,(.ptr _ _ 2 rfl),trivial⟩))
          have hj11:=bif_t hj10
          clear hj10
          have ehj11_0:=hr2 _ (Option.some.inj hj11).symm
          have ehj11_1:=hr1 _ ehj11_0.symm
          subst ehj11_1
          conv=>whnf
          exact Returns.frozen (r:=.tup [.vs 2 (([]).map (api.Value.enc)),.lit (.int .i64 t74_1)]) [] rfl rfl (WV.tups ⟨(.nilsVs _),.s,trivial⟩) ⟨rfl,rfl⟩
        clear hj0
        rintro s ⟨out6_3,r7_3,at8_2,x11_0_2,x11_1_2,hj0,rfl⟩
        unfold Lst.Input.j2 at hj0
        obtain ⟨t59,et59,hj1⟩:=letk_elim hj0; clear hj0
        conv=>whnf
        refine Nm.mk ⟨t59,et59,?_⟩
        conv=>whnf
        refine Nm.mk ⟨[.lit (.int .i64 t59),.lit (.string x11_1_2)],rfl,?_⟩
        exact BackS.by ⟨_,hl2 _ (Option.some.inj hj1).symm,rfl⟩ (Sees.of (Weak.objs (keep:=[0,1,2]) (frz:=[]) (m:=0) rfl (by decide) rfl rfl ⟨⟨_,rfl,.arr _ _⟩,⟨⟨_,rfl,WO.boxs ⟨.s,trivial⟩⟩,⟨⟨_,rfl,WO.boxs ⟨.s,.s,trivial⟩⟩,⟨rfl,fun _ h=>by cases h⟩⟩⟩⟩ ⟨.s,(.ref _ _ _ 0 rfl),(.ptr _ _ 1 rfl),.s,(.ptr _ _ 2 rfl),trivial⟩))
      have hs0_9:=bif_t hs0_8
      clear hs0_8
      have ehs0_9_0:=hr1 _ (Option.some.inj hs0_9).symm
      subst ehs0_9_0
      conv=>whnf
      exact Returns.frozen (r:=.tup [.vs 2 (([]).map (api.Value.enc)),.lit (.int .i64 t42_1)]) [] rfl rfl (WV.tups ⟨(.nilsVs _),.s,trivial⟩) ⟨rfl,rfl⟩
    have hs0_6:=bif_t hs0_5
    clear hs0_5
    have ehs0_6_0:=hr1 _ (Option.some.inj hs0_6).symm
    subst ehs0_6_0
    conv=>whnf
    exact Returns.frozen (r:=.tup [.vs 2 (([]).map (api.Value.enc)),.lit (.int .i64 6)]) [] rfl rfl (WV.tups ⟨(.nilsVs _),.s,trivial⟩) ⟨rfl,rfl⟩
  have hs0_5:=bif_t hs0_4
  clear hs0_4
  have ehs0_5_0:=hr1 _ (Option.some.inj hs0_5).symm
  subst ehs0_5_0
  conv=>whnf
  exact Returns.frozen (r:=.tup [.vs 2 (out6.map (api.Value.enc)),.lit (.int .i64 0)]) [1] rfl rfl (WV.tups ⟨(WV.all (k:=1) (by decide) rfl),.s,trivial⟩) ⟨rfl,rfl⟩
noncomputable def Law15.Awake :Option Bool :=
  Option.bind (Lst.Input ⟨#[49,44,32,44,32,50,42,55,32,47]⟩ ([(⟨1,9⟩:api.Value),(⟨1,9⟩:api.Value),(⟨1,9⟩:api.Value),(⟨1,9⟩:api.Value),(⟨1,9⟩:api.Value)])) fun (t12_0,t12_1) =>
  letk (t12_1 == (0:Int)) fun t16 =>
  bif t16 then
    letk ((t12_0.length:Int)) fun t19 =>
    letk (t19 == (5:Int)) fun t20 =>
    bif t20 then
      chk (0 ≤ (0:Int)) <|
      Option.bind (t12_0[(0:Int).toNat]?) fun t24 =>
      letk (t24.N == (1:Int)) fun t27 =>
      bif t27 then
        chk (0 ≤ (1:Int)) <|
        Option.bind (t12_0[(1:Int).toNat]?) fun t31 =>
        letk (t31.N == (9:Int)) fun t34 =>
        bif t34 then
          chk (0 ≤ (2:Int)) <|
          Option.bind (t12_0[(2:Int).toNat]?) fun t38 =>
          letk (t38.N == (7:Int)) fun t41 =>
          bif t41 then
            chk (0 ≤ (3:Int)) <|
            Option.bind (t12_0[(3:Int).toNat]?) fun t45 =>
            letk (t45.N == (7:Int)) fun t48 =>
            bif t48 then
              chk (0 ≤ (4:Int)) <|
              Option.bind (t12_0[(4:Int).toNat]?) fun t52 =>
              letk (t52.N == (9:Int)) fun t55 =>
              some t55
            else
              some false
          else
            some false
        else
          some false
      else
        some false
    else
      some false
  else
    some false
theorem Law15.Awake_ok {r:Bool} (h0:Law15.Awake = some r):Gives Tryz.prog 12 [] (.lit (.bool r)):=by
  unfold Law15.Awake at h0
  refine ACalls.of_swp Tryz.func12 rfl (by decide) rfl (st0:=⟨57,[],[]⟩) rfl (bwp_ok (C:=[]) ?_)
  conv=>whnf
  refine Gate.go ?_
  conv=>whnf
  refine Nm.mk ⟨[.lit (.int .i64 1),.lit (.int .i64 9)],rfl,?_⟩
  conv=>whnf
  refine Nm.mk ⟨[.lit (.int .i64 0),.lit (.int .i64 0)],rfl,?_⟩
  conv=>whnf
  refine Nm.mk ⟨[.lit (.int .i64 1),.lit (.int .i64 9)],rfl,?_⟩
  conv=>whnf
  refine Gate.go ?_
  conv=>whnf
  refine Nm.mk ⟨([(⟨1,9⟩:api.Value),(⟨1,9⟩:api.Value),(⟨1,9⟩:api.Value),(⟨1,9⟩:api.Value),(⟨1,9⟩:api.Value)]).map (api.Value.enc),rfl,?_⟩
  obtain ⟨⟨t12_0,t12_1⟩,et12,h1⟩:=bind_elim h0; clear h0
  conv=>whnf
  refine Gate.weak (Sees.of (Weak.objs (k:=57) (keep:=[]) (frz:=[1]) (m:=0) (ts:=[(11,.vs 2 (([(⟨1,9⟩:api.Value),(⟨1,9⟩:api.Value),(⟨1,9⟩:api.Value),(⟨1,9⟩:api.Value),(⟨1,9⟩:api.Value)]).map (api.Value.enc)))]) (hs:=[]) rfl (by decide) rfl rfl ⟨rfl,fun _ h=>by cases h⟩ ⟨(WV.all (k:=1) (by decide) rfl),trivial⟩)) ?_
  conv=>whnf
  refine CallN.by (v:=.tup [.vs 2 (t12_0.map (api.Value.enc)),.lit (.int .i64 t12_1)]) (Lst.Input_ok et12) rfl rfl ?_
  obtain ⟨t16,et16,h2⟩:=letk_elim h1; clear h1
  conv=>whnf
  refine Nm.mk ⟨t16,et16,?_⟩
  rcases t16 with _ | _
  · have h3:=bif_f h2
    clear h2
    have eh3_0:=Option.some.inj h3
    subst eh3_0
    conv=>whnf
    exact Returns.pure (r:=.lit (.bool false)) rfl rfl rfl rfl ⟨rfl,rfl⟩
  have h3:=bif_t h2
  clear h2
  obtain ⟨t19,et19,h4⟩:=letk_elim h3; clear h3
  conv=>whnf
  refine Nm.mk ⟨t19,by rw [et19,List.length_map],?_⟩
  obtain ⟨t20,et20,h5⟩:=letk_elim h4; clear h4
  conv=>whnf
  refine Nm.mk ⟨t20,et20,?_⟩
  rcases t20 with _ | _
  · have h6:=bif_f h5
    clear h5
    have eh6_0:=Option.some.inj h6
    subst eh6_0
    conv=>whnf
    exact Returns.pure (r:=.lit (.bool false)) rfl rfl rfl rfl ⟨rfl,rfl⟩
  have h6:=bif_t h5
  clear h5
  obtain ⟨ch7,h7⟩:=chk_elim h6; clear h6
  obtain ⟨t24,et24,h8⟩:=bind_elim h7; clear h7
  conv=>whnf
  refine Side.mk ch7 ?_
  conv=>whnf
  refine At.by et24 ?_
  obtain ⟨t27,et27,h9⟩:=letk_elim h8; clear h8
  conv=>whnf
  refine Nm.mk ⟨t27,et27,?_⟩
  rcases t27 with _ | _
  · have h10:=bif_f h9
    clear h9
    have eh10_0:=Option.some.inj h10
    subst eh10_0
    conv=>whnf
    exact Returns.pure (r:=.lit (.bool false)) rfl rfl rfl rfl ⟨rfl,rfl⟩
  have h10:=bif_t h9
  clear h9
  obtain ⟨ch11,h11⟩:=chk_elim h10; clear h10
  obtain ⟨t31,et31,h12⟩:=bind_elim h11; clear h11
  conv=>whnf
  refine Side.mk ch11 ?_
  conv=>whnf
  refine At.by et31 ?_
  obtain ⟨t34,et34,h13⟩:=letk_elim h12; clear h12
  conv=>whnf
  refine Nm.mk ⟨t34,et34,?_⟩
  rcases t34 with _ | _
  · have h14:=bif_f h13
    clear h13
    have eh14_0:=Option.some.inj h14
    subst eh14_0
    conv=>whnf
    exact Returns.pure (r:=.lit (.bool false)) rfl rfl rfl rfl ⟨rfl,rfl⟩
  have h14:=bif_t h13
  clear h13
  obtain ⟨ch15,h15⟩:=chk_elim h14; clear h14
  obtain ⟨t38,et38,h16⟩:=bind_elim h15; clear h15
  conv=>whnf
  refine Side.mk ch15 ?_
  conv=>whnf
  refine At.by et38 ?_
  obtain ⟨t41,et41,h17⟩:=letk_elim h16; clear h16
  conv=>whnf
  refine Nm.mk ⟨t41,et41,?_⟩
  rcases t41 with _ | _
  · have h18:=bif_f h17
    clear h17
    have eh18_0:=Option.some.inj h18
    subst eh18_0
    conv=>whnf
    exact Returns.pure (r:=.lit (.bool false)) rfl rfl rfl rfl ⟨rfl,rfl⟩
  have h18:=bif_t h17
  clear h17
  obtain ⟨ch19,h19⟩:=chk_elim h18; clear h18
  obtain ⟨t45,et45,h20⟩:=bind_elim h19; clear h19
  conv=>whnf
  refine Side.mk ch19 ?_
  conv=>whnf
  refine At.by et45 ?_
  obtain ⟨t48,et48,h21⟩:=letk_elim h20; clear h20
  conv=>whnf
  refine Nm.mk ⟨t48,et48,?_⟩
  rcases t48 with _ | _
  · have h22:=bif_f h21
    clear h21
    have eh22_0:=Option.some.inj h22
    subst eh22_0
    conv=>whnf
    exact Returns.pure (r:=.lit (.bool false)) rfl rfl rfl rfl ⟨rfl,rfl⟩
  have h22:=bif_t h21
  clear h21
  obtain ⟨ch23,h23⟩:=chk_elim h22; clear h22
  obtain ⟨t52,et52,h24⟩:=bind_elim h23; clear h23
  conv=>whnf
  refine Side.mk ch23 ?_
  conv=>whnf
  refine At.by et52 ?_
  obtain ⟨t55,et55,h25⟩:=letk_elim h24; clear h24
  conv=>whnf
  refine Nm.mk ⟨t55,et55,?_⟩
  have eh25_0:=Option.some.inj h25
  subst eh25_0
  conv=>whnf
  exact Returns.pure (r:=.lit (.bool t55)) rfl rfl rfl rfl ⟨rfl,rfl⟩
noncomputable def Ref15.SameValues.s0 (a0:List api.Value) (b1:List api.Value) (i5:Int):Option (Int ⊕ Bool) :=
  letk ((a0.length:Int)) fun t13 =>
  letk (decide (i5 < t13)) fun t14 =>
  bif t14 then
    chk (0 ≤ i5) <|
    Option.bind (a0[i5.toNat]?) fun t19 =>
    chk (0 ≤ i5) <|
    Option.bind (b1[i5.toNat]?) fun t23 =>
    letk (!((t19.Kind == t23.Kind) && ((t19.N == t23.N) && true))) fun t25 =>
    bif t25 then
      some (.inr false)
    else
      letk (IntKind.i64.wrap (i5 + (1:Int))) fun t16 =>
      some (.inl t16)
  else
    some (.inr true)
noncomputable def Ref15.SameValues.l0 (a0:List api.Value) (b1:List api.Value) (i5:Int):Option Bool:=loopO (fun v:Int=>Ref15.SameValues.s0 a0 b1 v) i5
noncomputable def Ref15.SameValues (a0:List api.Value) (b1:List api.Value):Option Bool :=
  letk ((a0.length:Int)) fun t7 =>
  letk ((b1.length:Int)) fun t9 =>
  letk (t7 != t9) fun t10 =>
  bif t10 then
    some false
  else
    Ref15.SameValues.l0 a0 b1 0
theorem Ref15.SameValues_ok {a0:List api.Value} {b1:List api.Value} {r:Bool} (h0:Ref15.SameValues a0 b1 = some r):Gives Tryz.prog 15 [.vs 2 (a0.map (api.Value.enc)),.vs 2 (b1.map (api.Value.enc))] (.lit (.bool r)):=by
  unfold Ref15.SameValues at h0
  refine ACalls.of_swp Tryz.func15 rfl (by decide) rfl (st0:=⟨26,[(0,.vs 2 (a0.map (api.Value.enc))),(1,.vs 2 (b1.map (api.Value.enc)))],[]⟩) rfl (bwp_ok (C:=[]) ?_)
  obtain ⟨t7,et7,h1⟩:=letk_elim h0; clear h0
  conv=>whnf
  refine Nm.mk ⟨t7,by rw [et7,List.length_map],?_⟩
  obtain ⟨t9,et9,h2⟩:=letk_elim h1; clear h1
  conv=>whnf
  refine Nm.mk ⟨t9,by rw [et9,List.length_map],?_⟩
  obtain ⟨t10,et10,h3⟩:=letk_elim h2; clear h2
  conv=>whnf
  refine Nm.mk ⟨t10,et10,?_⟩
  rcases t10 with _ | _
  · have h4:=bif_f h3
    clear h3
    conv=>whnf
    unfold Ref15.SameValues.l0 at h4
    refine LoopB.of (σ:=Int) (ρ:=Bool) (fun v:Int=>Ref15.SameValues.s0 a0 b1 v) (fun v=>(⟨26,[(0,.vs 2 (a0.map (api.Value.enc))),(1,.vs 2 (b1.map (api.Value.enc))),(5,.lit (.int .i64 v))],[]⟩:St)) 0 h4 (BackS.by rfl (Sees.e ⟨.s,.s,.s,trivial⟩)) ?_
    clear h4
    rintro K1 i5 x1 hs0_0 hl1 hr1
    replace hs0_0:Ref15.SameValues.s0 a0 b1 i5 = some x1:=hs0_0
    unfold Ref15.SameValues.s0 at hs0_0
    change bwp _ _ _ _ _ (⟨26,[(0,.vs 2 (a0.map (api.Value.enc))),(1,.vs 2 (b1.map (api.Value.enc))),(5,.lit (.int .i64 i5))],[]⟩:St)
    obtain ⟨t13,et13,hs0_1⟩:=letk_elim hs0_0; clear hs0_0
    conv=>whnf
    refine Nm.mk ⟨t13,by rw [et13,List.length_map],?_⟩
    obtain ⟨t14,et14,hs0_2⟩:=letk_elim hs0_1; clear hs0_1
    conv=>whnf
    refine Nm.mk ⟨t14,et14,?_⟩
    rcases t14 with _ | _
    · have hs0_3:=bif_f hs0_2
      clear hs0_2
      have ehs0_3u_0:=hr1 _ (Option.some.inj hs0_3).symm
      have hs0_3u:=congrArg some ehs0_3u_0
      have ehs0_3u_0:=Option.some.inj hs0_3u
      subst ehs0_3u_0
      conv=>whnf
      exact Returns.pure (r:=.lit (.bool true)) rfl rfl rfl rfl ⟨rfl,rfl⟩
    have hs0_3:=bif_t hs0_2
    clear hs0_2
    conv=>whnf
    refine DrawB.ofG [none,none,none,none,none,none,none,none,none] Tryz_mixed (by kernel_rfl) (by kernel_rfl) ?_
    conv=>whnf
    refine DNodeB.of (.vs 2 (a0.map (api.Value.enc))) ?_ ?_
    · conv=>whnf
      rfl
    conv=>whnf
    refine DNodeB.of (.lit (.int .i64 i5)) ?_ ?_
    · conv=>whnf
      rfl
    obtain ⟨chs0_4,hs0_4⟩:=chk_elim hs0_3; clear hs0_3
    obtain ⟨t19,et19,hs0_5⟩:=bind_elim hs0_4; clear hs0_4
    conv=>whnf
    refine DNodeB.of (.iptr (api.Value.enc t19)) ?_ ?_
    · conv=>whnf
      refine Side.mk chs0_4 ?_
      conv=>whnf
      refine At.by et19 ?_
      conv=>whnf
      rfl
    conv=>whnf
    refine DNodeB.of (api.Value.enc t19) ?_ ?_
    · conv=>whnf
      rfl
    conv=>whnf
    refine DNodeB.of (.vs 2 (b1.map (api.Value.enc))) ?_ ?_
    · conv=>whnf
      rfl
    conv=>whnf
    refine DNodeB.of (.lit (.int .i64 i5)) ?_ ?_
    · conv=>whnf
      rfl
    obtain ⟨chs0_6,hs0_6⟩:=chk_elim hs0_5; clear hs0_5
    obtain ⟨t23,et23,hs0_7⟩:=bind_elim hs0_6; clear hs0_6
    conv=>whnf
    refine DNodeB.of (.iptr (api.Value.enc t23)) ?_ ?_
    · conv=>whnf
      refine Side.mk chs0_6 ?_
      conv=>whnf
      refine At.by et23 ?_
      conv=>whnf
      rfl
    conv=>whnf
    refine DNodeB.of (api.Value.enc t23) ?_ ?_
    · conv=>whnf
      rfl
    obtain ⟨t25,et25,hs0_8⟩:=letk_elim hs0_7; clear hs0_7
    conv=>whnf
    refine DNodeB.of (.lit (.bool t25)) ?_ ?_
    · conv=>whnf
      refine EqS.mk ⟨[.i,.i],by kernel_rfl,?_⟩
      conv=>whnf
      refine Nm.mk ⟨t25,et25,?_⟩
      conv=>whnf
      rfl
    rcases t25 with _ | _
    · have hs0_9:=bif_f hs0_8
      clear hs0_8
      obtain ⟨t16,et16,hs0_10⟩:=letk_elim hs0_9; clear hs0_9
      conv=>whnf
      refine Nm.mk ⟨t16,et16,?_⟩
      exact BackS.by ⟨_,hl1 _ (Option.some.inj hs0_10).symm,rfl⟩ (Sees.e ⟨.s,.s,.s,trivial⟩)
    have hs0_9:=bif_t hs0_8
    clear hs0_8
    have ehs0_9_0:=hr1 _ (Option.some.inj hs0_9).symm
    subst ehs0_9_0
    conv=>whnf
    exact Returns.pure (r:=.lit (.bool false)) rfl rfl rfl rfl ⟨rfl,rfl⟩
  have h4:=bif_t h3
  clear h3
  have eh4_0:=Option.some.inj h4
  subst eh4_0
  conv=>whnf
  exact Returns.pure (r:=.lit (.bool false)) rfl rfl rfl rfl ⟨rfl,rfl⟩
noncomputable def Law15.ListingNulls.s0 (was0:List api.Value) (s3:ByteArray) (i4:Int):Option ((ByteArray × Int) ⊕ Bool) :=
  letk ((was0.length:Int)) fun t22 =>
  letk (decide (i4 < t22)) fun t23 =>
  bif t23 then
    chk (((s3.size + (⟨#[44]⟩:ByteArray).size:Nat):Int) ≤ 9223372036854775807) <|
    letk (s3 ++ (⟨#[44]⟩:ByteArray)) fun t27 =>
    letk (IntKind.i64.wrap (i4 + (1:Int))) fun t25 =>
    some (.inl (t27,t25))
  else
    ((
    chk (((s3.size + (⟨#[32,47]⟩:ByteArray).size:Nat):Int) ≤ 9223372036854775807) <|
    letk (s3 ++ (⟨#[32,47]⟩:ByteArray)) fun t30 =>
    Option.bind (Lst.Input t30 was0) fun (t32_0,t32_1) =>
    Option.bind (Lst.Input ⟨#[57,57,57,42]⟩ was0) fun (t37_0,t37_1) =>
    Option.bind (Lst.Input ⟨#[47]⟩ was0) fun (t42_0,t42_1) =>
    letk (t32_1 == (0:Int)) fun t46 =>
    bif t46 then
      Option.bind (Ref15.SameValues t32_0 was0) fun t50 =>
      bif t50 then
        letk (t37_1 == (0:Int)) fun t54 =>
        bif t54 then
          Option.bind (Ref15.SameValues t37_0 was0) fun t59 =>
          bif t59 then
            letk (t42_1 == (0:Int)) fun t63 =>
            bif t63 then
              Option.bind (Ref15.SameValues t42_0 was0) fun t68 =>
              bif t68 then
                Option.bind (Law15.Awake) fun t71 =>
                some t71
              else
                some false
            else
              some false
          else
            some false
        else
          some false
      else
        some false
    else
      some false)).map .inr
noncomputable def Law15.ListingNulls.l0 (was0:List api.Value) (s3:ByteArray) (i4:Int):Option Bool:=loopO (fun v:ByteArray × Int=>Law15.ListingNulls.s0 was0 v.1 v.2) (s3,i4)
noncomputable def Law15.ListingNulls.j0 (was0:List api.Value):Option Bool :=
  Law15.ListingNulls.l0 was0 (⟨#[]⟩) 0
noncomputable def Law15.ListingNulls (was0:List api.Value):Option Bool :=
  letk ((was0.length:Int)) fun t12 =>
  letk (decide (t12 > (500:Int))) fun t13 =>
  bif t13 then
    Option.bind (Law15.Awake) fun t19_1 =>
    some t19_1
  else
    Option.bind (Ref15.AreValues was0) fun t16 =>
    letk (!t16) fun t17 =>
    bif t17 then
      Option.bind (Law15.Awake) fun t19 =>
      some t19
    else
      Law15.ListingNulls.j0 was0
theorem Law15.ListingNulls_ok {was0:List api.Value} {r:Bool} (h0:Law15.ListingNulls was0 = some r):Gives Tryz.prog 4 [.vs 2 (was0.map (api.Value.enc))] (.lit (.bool r)):=by
  unfold Law15.ListingNulls at h0
  refine ACalls.of_swp Tryz.func4 rfl (by decide) rfl (st0:=⟨73,[(0,.vs 2 (was0.map (api.Value.enc)))],[]⟩) rfl (bwp_ok (C:=[(0,3)]) ?_)
  conv=>whnf
  refine CutN.of (fun s=>Law15.ListingNulls.j0 was0 = some r ∧ s = (⟨73,[(0,.vs 2 (was0.map (api.Value.enc)))],[]⟩:St)) ?_ ?_
  · obtain ⟨t12,et12,h1⟩:=letk_elim h0; clear h0
    conv=>whnf
    refine Nm.mk ⟨t12,by rw [et12,List.length_map],?_⟩
    obtain ⟨t13,et13,h2⟩:=letk_elim h1; clear h1
    conv=>whnf
    refine Nm.mk ⟨t13,et13,?_⟩
    rcases t13 with _ | _
    · have h3:=bif_f h2
      clear h2
      obtain ⟨t16,et16,h4⟩:=bind_elim h3; clear h3
      conv=>whnf
      refine Gate.go ?_
      conv=>whnf
      refine CallN.by (v:=.lit (.bool t16)) (Ref15.AreValues_ok et16) rfl rfl ?_
      obtain ⟨t17,et17,h5⟩:=letk_elim h4; clear h4
      conv=>whnf
      refine Nm.mk ⟨t17,et17,?_⟩
      rcases t17 with _ | _
      · have h6:=bif_f h5
        clear h5
        exact BackS.by ⟨h6,rfl⟩ (Sees.e ⟨.s,trivial⟩)
      have h6:=bif_t h5
      clear h5
      obtain ⟨t19,et19,h7⟩:=bind_elim h6; clear h6
      conv=>whnf
      refine Gate.go ?_
      conv=>whnf
      refine CallN.by (v:=.lit (.bool t19)) (Law15.Awake_ok et19) rfl rfl ?_
      have eh7_0:=Option.some.inj h7
      subst eh7_0
      conv=>whnf
      exact Returns.pure (r:=.lit (.bool t19)) rfl rfl rfl rfl ⟨rfl,rfl⟩
    have h3:=bif_t h2
    clear h2
    obtain ⟨t19_1,et19_1,h4⟩:=bind_elim h3; clear h3
    conv=>whnf
    refine Gate.go ?_
    conv=>whnf
    refine CallN.by (v:=.lit (.bool t19_1)) (Law15.Awake_ok et19_1) rfl rfl ?_
    have eh4_0:=Option.some.inj h4
    subst eh4_0
    conv=>whnf
    exact Returns.pure (r:=.lit (.bool t19_1)) rfl rfl rfl rfl ⟨rfl,rfl⟩
  clear h0
  rintro s ⟨hj0,rfl⟩
  unfold Law15.ListingNulls.j0 at hj0
  conv=>whnf
  unfold Law15.ListingNulls.l0 at hj0
  refine LoopB.of (σ:=ByteArray × Int) (ρ:=Bool) (fun v:ByteArray × Int=>Law15.ListingNulls.s0 was0 v.1 v.2) (fun v=>(⟨73,[(0,.vs 2 (was0.map (api.Value.enc))),(3,.lit (.string v.1)),(4,.lit (.int .i64 v.2))],[]⟩:St)) (⟨#[]⟩,0) hj0 (BackS.by rfl (Sees.e ⟨.s,.s,.s,trivial⟩)) ?_
  clear hj0
  rintro K1 ⟨s3,i4⟩ x1 hs0_0 hl1 hr1
  replace hs0_0:Law15.ListingNulls.s0 was0 s3 i4 = some x1:=hs0_0
  unfold Law15.ListingNulls.s0 at hs0_0
  change bwp _ _ _ _ _ (⟨73,[(0,.vs 2 (was0.map (api.Value.enc))),(3,.lit (.string s3)),(4,.lit (.int .i64 i4))],[]⟩:St)
  obtain ⟨t22,et22,hs0_1⟩:=letk_elim hs0_0; clear hs0_0
  conv=>whnf
  refine Nm.mk ⟨t22,by rw [et22,List.length_map],?_⟩
  obtain ⟨t23,et23,hs0_2⟩:=letk_elim hs0_1; clear hs0_1
  conv=>whnf
  refine Nm.mk ⟨t23,et23,?_⟩
  rcases t23 with _ | _
  · have hs0_3:=bif_f hs0_2
    clear hs0_2
    obtain ⟨yhs0_3_0,hs0_3u,ehs0_3_0⟩:=map_elim hs0_3
    have ehs0_3_0:=(hr1 _ ehs0_3_0.symm).symm
    subst ehs0_3_0
    obtain ⟨chs0_3u0,hs0_3u0⟩:=chk_elim hs0_3u; clear hs0_3u
    obtain ⟨t30,et30,hs0_3u1⟩:=letk_elim hs0_3u0; clear hs0_3u0
    conv=>whnf
    refine Side.mk chs0_3u0 ?_
    conv=>whnf
    refine Nm.mk ⟨t30,et30,?_⟩
    obtain ⟨⟨t32_0,t32_1⟩,et32,hs0_3u2⟩:=bind_elim hs0_3u1; clear hs0_3u1
    conv=>whnf
    refine Gate.go ?_
    conv=>whnf
    refine CallN.by (v:=.tup [.vs 2 (t32_0.map (api.Value.enc)),.lit (.int .i64 t32_1)]) (Lst.Input_ok et32) rfl rfl ?_
    obtain ⟨⟨t37_0,t37_1⟩,et37,hs0_3u3⟩:=bind_elim hs0_3u2; clear hs0_3u2
    conv=>whnf
    refine Gate.go ?_
    conv=>whnf
    refine CallN.by (v:=.tup [.vs 2 (t37_0.map (api.Value.enc)),.lit (.int .i64 t37_1)]) (Lst.Input_ok et37) rfl rfl ?_
    obtain ⟨⟨t42_0,t42_1⟩,et42,hs0_3u4⟩:=bind_elim hs0_3u3; clear hs0_3u3
    conv=>whnf
    refine Gate.go ?_
    conv=>whnf
    refine CallN.by (v:=.tup [.vs 2 (t42_0.map (api.Value.enc)),.lit (.int .i64 t42_1)]) (Lst.Input_ok et42) rfl rfl ?_
    obtain ⟨t46,et46,hs0_3u5⟩:=letk_elim hs0_3u4; clear hs0_3u4
    conv=>whnf
    refine Nm.mk ⟨t46,et46,?_⟩
    rcases t46 with _ | _
    · have hs0_3u6:=bif_f hs0_3u5
      clear hs0_3u5
      have ehs0_3u6_0:=Option.some.inj hs0_3u6
      subst ehs0_3u6_0
      conv=>whnf
      exact Returns.pure (r:=.lit (.bool false)) rfl rfl rfl rfl ⟨rfl,rfl⟩
    have hs0_3u6:=bif_t hs0_3u5
    clear hs0_3u5
    obtain ⟨t50,et50,hs0_3u7⟩:=bind_elim hs0_3u6; clear hs0_3u6
    conv=>whnf
    refine Gate.go ?_
    conv=>whnf
    refine CallN.by (v:=.lit (.bool t50)) (Ref15.SameValues_ok et50) rfl rfl ?_
    rcases t50 with _ | _
    · have hs0_3u8:=bif_f hs0_3u7
      clear hs0_3u7
      have ehs0_3u8_0:=Option.some.inj hs0_3u8
      subst ehs0_3u8_0
      conv=>whnf
      exact Returns.pure (r:=.lit (.bool false)) rfl rfl rfl rfl ⟨rfl,rfl⟩
    have hs0_3u8:=bif_t hs0_3u7
    clear hs0_3u7
    obtain ⟨t54,et54,hs0_3u9⟩:=letk_elim hs0_3u8; clear hs0_3u8
    conv=>whnf
    refine Nm.mk ⟨t54,et54,?_⟩
    rcases t54 with _ | _
    · have hs0_3u10:=bif_f hs0_3u9
      clear hs0_3u9
      have ehs0_3u10_0:=Option.some.inj hs0_3u10
      subst ehs0_3u10_0
      conv=>whnf
      exact Returns.pure (r:=.lit (.bool false)) rfl rfl rfl rfl ⟨rfl,rfl⟩
    have hs0_3u10:=bif_t hs0_3u9
    clear hs0_3u9
    obtain ⟨t59,et59,hs0_3u11⟩:=bind_elim hs0_3u10; clear hs0_3u10
    conv=>whnf
    refine Gate.go ?_
    conv=>whnf
    refine CallN.by (v:=.lit (.bool t59)) (Ref15.SameValues_ok et59) rfl rfl ?_
    rcases t59 with _ | _
    · have hs0_3u12:=bif_f hs0_3u11
      clear hs0_3u11
      have ehs0_3u12_0:=Option.some.inj hs0_3u12
      subst ehs0_3u12_0
      conv=>whnf
      exact Returns.pure (r:=.lit (.bool false)) rfl rfl rfl rfl ⟨rfl,rfl⟩
    have hs0_3u12:=bif_t hs0_3u11
    clear hs0_3u11
    obtain ⟨t63,et63,hs0_3u13⟩:=letk_elim hs0_3u12; clear hs0_3u12
    conv=>whnf
    refine Nm.mk ⟨t63,et63,?_⟩
    rcases t63 with _ | _
    · have hs0_3u14:=bif_f hs0_3u13
      clear hs0_3u13
      have ehs0_3u14_0:=Option.some.inj hs0_3u14
      subst ehs0_3u14_0
      conv=>whnf
      exact Returns.pure (r:=.lit (.bool false)) rfl rfl rfl rfl ⟨rfl,rfl⟩
    have hs0_3u14:=bif_t hs0_3u13
    clear hs0_3u13
    obtain ⟨t68,et68,hs0_3u15⟩:=bind_elim hs0_3u14; clear hs0_3u14
    conv=>whnf
    refine Gate.go ?_
    conv=>whnf
    refine CallN.by (v:=.lit (.bool t68)) (Ref15.SameValues_ok et68) rfl rfl ?_
    rcases t68 with _ | _
    · have hs0_3u16:=bif_f hs0_3u15
      clear hs0_3u15
      have ehs0_3u16_0:=Option.some.inj hs0_3u16
      subst ehs0_3u16_0
      conv=>whnf
      exact Returns.pure (r:=.lit (.bool false)) rfl rfl rfl rfl ⟨rfl,rfl⟩
    have hs0_3u16:=bif_t hs0_3u15
    clear hs0_3u15
    obtain ⟨t71,et71,hs0_3u17⟩:=bind_elim hs0_3u16; clear hs0_3u16
    conv=>whnf
    refine Gate.go ?_
    conv=>whnf
    refine CallN.by (v:=.lit (.bool t71)) (Law15.Awake_ok et71) rfl rfl ?_
    have ehs0_3u17_0:=Option.some.inj hs0_3u17
    subst ehs0_3u17_0
    conv=>whnf
    exact Returns.pure (r:=.lit (.bool t71)) rfl rfl rfl rfl ⟨rfl,rfl⟩
  have hs0_3:=bif_t hs0_2
  clear hs0_2
  obtain ⟨chs0_4,hs0_4⟩:=chk_elim hs0_3; clear hs0_3
  obtain ⟨t27,et27,hs0_5⟩:=letk_elim hs0_4; clear hs0_4
  conv=>whnf
  refine Side.mk chs0_4 ?_
  conv=>whnf
  refine Nm.mk ⟨t27,et27,?_⟩
  obtain ⟨t25,et25,hs0_6⟩:=letk_elim hs0_5; clear hs0_5
  conv=>whnf
  refine Nm.mk ⟨t25,et25,?_⟩
  exact BackS.by ⟨_,hl1 _ (Option.some.inj hs0_6).symm,rfl⟩ (Sees.e ⟨.s,.s,.s,trivial⟩)
end Go.Q
