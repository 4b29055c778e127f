import Derived.Test.YtoecgpemlfoogaaGreatDoorGN5
import Derived.Test.YtoecgpemlfoogaaGreatDoorFX
import Derived.Test.YtoecgpemlfoogaaGreatDoorProg
namespace Go.Q
open Go Go.Proofs
set_option maxRecDepth 10000
set_option maxHeartbeats 2000000
noncomputable def Ref3.SameLines.s0 (a0 b1:List api.Line) (at2_1:Bool) (i7:Int):Option ((Bool × Int) ⊕ Bool) :=
  letk ((a0.length:Int)) fun t15 =>
  letk (decide (i7 < t15)) fun t16 =>
  bif t16 then
    chk (0 ≤ i7) <|
    Option.bind (a0[i7.toNat]?) fun t21 =>
    chk (0 ≤ i7) <|
    Option.bind (b1[i7.toNat]?) fun t26 =>
    letk (t21.Label != t26.Label) fun t29 =>
    bif t29 then
      some (.inr false)
    else
      chk (0 ≤ i7) <|
      Option.bind (a0[i7.toNat]?) fun t33 =>
      chk (0 ≤ i7) <|
      Option.bind (b1[i7.toNat]?) fun t38 =>
      letk (!(t33.Text.toList == t38.Text.toList)) fun t41 =>
      bif t41 then
        some (.inr false)
      else
        bif at2_1 then
          chk (0 ≤ i7) <|
          Option.bind (a0[i7.toNat]?) fun t48 =>
          chk (0 ≤ i7) <|
          Option.bind (b1[i7.toNat]?) fun t53 =>
          letk (t48.At != t53.At) fun t56 =>
          bif t56 then
            some (.inr false)
          else
            letk (IntKind.i64.wrap (i7 + (1:Int))) fun t18_1 =>
            some (.inl (true,t18_1))
        else
          letk (IntKind.i64.wrap (i7 + (1:Int))) fun t18 =>
          some (.inl (false,t18))
  else
    some (.inr true)
noncomputable def Ref3.SameLines.l0 (a0 b1:List api.Line) (at2_1:Bool) (i7:Int):Option Bool:=loopO (fun v:Bool × Int=>Ref3.SameLines.s0 a0 b1 v.1 v.2) (at2_1,i7)
noncomputable def Ref3.SameLines (a0 b1:List api.Line) (at2:Bool):Option Bool :=
  letk ((a0.length:Int)) fun t9 =>
  letk ((b1.length:Int)) fun t11 =>
  letk (t9 != t11) fun t12 =>
  bif t12 then
    some false
  else
    Ref3.SameLines.l0 a0 b1 at2 0
theorem Ref3.SameLines_ok {a0 b1:List api.Line} {at2 r:Bool} (h0:Ref3.SameLines a0 b1 at2 = some r):Gives Tryz.prog 11 [.vs 3 (a0.map (api.Line.enc)),.vs 3 (b1.map (api.Line.enc)),.lit (.bool at2)] (.lit (.bool r)):=by
  unfold Ref3.SameLines at h0
  refine ACalls.of_swp Tryz.func11 rfl (by decide) rfl (st0:=⟨59,[(0,.vs 3 (a0.map (api.Line.enc))),(1,.vs 3 (b1.map (api.Line.enc))),(2,.lit (.bool at2))],[]⟩) rfl (bwp_ok (C:=[]) ?_)
  obtain ⟨t9,et9,h1⟩:=letk_elim h0
  conv=>whnf
  refine Nm.mk ⟨t9,by rw [et9,List.length_map],?_⟩
  obtain ⟨t11,et11,h2⟩:=letk_elim h1
  conv=>whnf
  refine Nm.mk ⟨t11,by rw [et11,List.length_map],?_⟩
  obtain ⟨t12,et12,h3⟩:=letk_elim h2
  conv=>whnf
  refine Nm.mk ⟨t12,et12,?_⟩
  rcases t12 with _ | _
  · have h4:=bif_f h3
    conv=>whnf
    unfold Ref3.SameLines.l0 at h4
    refine LoopB.of (σ:=Bool × Int) (ρ:=Bool) (fun v:Bool × Int=>Ref3.SameLines.s0 a0 b1 v.1 v.2) (fun v=>(⟨59,[(0,.vs 3 (a0.map (api.Line.enc))),(1,.vs 3 (b1.map (api.Line.enc))),(2,.lit (.bool v.1)),(7,J v.2)],[]⟩:St)) (at2,0) h4 (BackS.of (Sees.of (Weak.objs (keep:=[]) (frz:=[]) (m:=0) (ts:=[(0,.vs 3 (a0.map (api.Line.enc))),(1,.vs 3 (b1.map (api.Line.enc))),(2,.lit (.bool at2)),(7,J 0)]) (hs:=[]) rfl (by decide) rfl rfl ⟨rfl,fun _ h=>by cases h⟩ ⟨(.same (.vs 3 (a0.map (api.Line.enc))) rfl),(.same (.vs 3 (b1.map (api.Line.enc))) rfl),(.same (.lit (.bool at2)) rfl),(.same (J 0) rfl),trivial⟩)) rfl) ?_
    rintro _ ⟨at2_1,i7⟩ x1 hs0_0 hl1 hr1
    replace hs0_0:Ref3.SameLines.s0 a0 b1 at2_1 i7 = some x1:=hs0_0
    unfold Ref3.SameLines.s0 at hs0_0
    change bwp _ _ _ _ _ (⟨59,[(0,.vs 3 (a0.map (api.Line.enc))),(1,.vs 3 (b1.map (api.Line.enc))),(2,.lit (.bool at2_1)),(7,J i7)],[]⟩:St)
    obtain ⟨t15,et15,hs0_1⟩:=letk_elim hs0_0
    conv=>whnf
    refine Nm.mk ⟨t15,by rw [et15,List.length_map],?_⟩
    obtain ⟨t16,et16,hs0_2⟩:=letk_elim hs0_1
    conv=>whnf
    refine Nm.mk ⟨t16,et16,?_⟩
    rcases t16 with _ | _
    · have hs0_3:=bif_f hs0_2
      have ehs0_3u_0:=hr1 _ (Option.some.inj hs0_3).symm
      have hs0_3u:=congrArg some ehs0_3u_0
      have ehs0_3u_0:=Option.some.inj hs0_3u
      subst ehs0_3u_0
      conv=>whnf
      exact Returns.pure (r:=.lit (.bool true)) rfl rfl rfl rfl ⟨rfl,rfl⟩
    · have hs0_3:=bif_t hs0_2
      conv=>whnf
      refine DrawB.of Tryz_mixed rfl ?_
      conv=>whnf
      refine DNodeB.of (.vs 3 (a0.map (api.Line.enc))) ?_ ?_
      · conv=>whnf
        rfl
      · conv=>whnf
        refine DNodeB.of (J i7) ?_ ?_
        · conv=>whnf
          rfl
        · obtain ⟨chs0_4,hs0_4⟩:=chk_elim hs0_3
          obtain ⟨t21,et21,hs0_5⟩:=bind_elim hs0_4
          conv=>whnf
          refine DNodeB.of (.iptr (api.Line.enc t21)) ?_ ?_
          · conv=>whnf
            refine Side.mk chs0_4 ?_
            conv=>whnf
            refine At.by et21 ?_
            conv=>whnf
            rfl
          · conv=>whnf
            refine DNodeB.of (.iptr (J t21.Label)) ?_ ?_
            · conv=>whnf
              rfl
            · conv=>whnf
              refine DNodeB.of (J t21.Label) ?_ ?_
              · conv=>whnf
                rfl
              · conv=>whnf
                refine DNodeB.of (.vs 3 (b1.map (api.Line.enc))) ?_ ?_
                · conv=>whnf
                  rfl
                · conv=>whnf
                  refine DNodeB.of (J i7) ?_ ?_
                  · conv=>whnf
                    rfl
                  · obtain ⟨chs0_6,hs0_6⟩:=chk_elim hs0_5
                    obtain ⟨t26,et26,hs0_7⟩:=bind_elim hs0_6
                    conv=>whnf
                    refine DNodeB.of (.iptr (api.Line.enc t26)) ?_ ?_
                    · conv=>whnf
                      refine Side.mk chs0_6 ?_
                      conv=>whnf
                      refine At.by et26 ?_
                      conv=>whnf
                      rfl
                    · conv=>whnf
                      refine DNodeB.of (.iptr (J t26.Label)) ?_ ?_
                      · conv=>whnf
                        rfl
                      · conv=>whnf
                        refine DNodeB.of (J t26.Label) ?_ ?_
                        · conv=>whnf
                          rfl
                        · obtain ⟨t29,et29,hs0_8⟩:=letk_elim hs0_7
                          conv=>whnf
                          refine DNodeB.of (.lit (.bool t29)) ?_ ?_
                          · conv=>whnf
                            refine Nm.mk ⟨t29,et29,?_⟩
                            conv=>whnf
                            rfl
                          · conv=>whnf
                            refine DNodeB.of (.lit (.bool t29)) ?_ ?_
                            · conv=>whnf
                              rfl
                            · rcases t29 with _ | _
                              · have hs0_9:=bif_f hs0_8
                                conv=>whnf
                                refine DNodeB.of (.vs 3 (a0.map (api.Line.enc))) ?_ ?_
                                · conv=>whnf
                                  rfl
                                · conv=>whnf
                                  refine DNodeB.of (J i7) ?_ ?_
                                  · conv=>whnf
                                    rfl
                                  · obtain ⟨chs0_10,hs0_10⟩:=chk_elim hs0_9
                                    obtain ⟨t33,et33,hs0_11⟩:=bind_elim hs0_10
                                    conv=>whnf
                                    refine DNodeB.of (.iptr (api.Line.enc t33)) ?_ ?_
                                    · conv=>whnf
                                      refine Side.mk chs0_10 ?_
                                      conv=>whnf
                                      refine At.by et33 ?_
                                      conv=>whnf
                                      rfl
                                    · conv=>whnf
                                      refine DNodeB.of (.iptr (.lit (.string t33.Text))) ?_ ?_
                                      · conv=>whnf
                                        rfl
                                      · conv=>whnf
                                        refine DNodeB.of (.lit (.string t33.Text)) ?_ ?_
                                        · conv=>whnf
                                          rfl
                                        · conv=>whnf
                                          refine DNodeB.of (.vs 3 (b1.map (api.Line.enc))) ?_ ?_
                                          · conv=>whnf
                                            rfl
                                          · conv=>whnf
                                            refine DNodeB.of (J i7) ?_ ?_
                                            · conv=>whnf
                                              rfl
                                            · obtain ⟨chs0_12,hs0_12⟩:=chk_elim hs0_11
                                              obtain ⟨t38,et38,hs0_13⟩:=bind_elim hs0_12
                                              conv=>whnf
                                              refine DNodeB.of (.iptr (api.Line.enc t38)) ?_ ?_
                                              · conv=>whnf
                                                refine Side.mk chs0_12 ?_
                                                conv=>whnf
                                                refine At.by et38 ?_
                                                conv=>whnf
                                                rfl
                                              · conv=>whnf
                                                refine DNodeB.of (.iptr (.lit (.string t38.Text))) ?_ ?_
                                                · conv=>whnf
                                                  rfl
                                                · conv=>whnf
                                                  refine DNodeB.of (.lit (.string t38.Text)) ?_ ?_
                                                  · conv=>whnf
                                                    rfl
                                                  · obtain ⟨t41,et41,hs0_14⟩:=letk_elim hs0_13
                                                    conv=>whnf
                                                    refine DNodeB.of (.lit (.bool t41)) ?_ ?_
                                                    · conv=>whnf
                                                      refine Nm.mk ⟨t41,et41,?_⟩
                                                      conv=>whnf
                                                      rfl
                                                    · conv=>whnf
                                                      refine DNodeB.of (.lit (.bool t41)) ?_ ?_
                                                      · conv=>whnf
                                                        rfl
                                                      · conv=>whnf
                                                        refine DNodeB.of (.lit (.bool t41)) ?_ ?_
                                                        · conv=>whnf
                                                          rfl
                                                        · rcases t41 with _ | _
                                                          · have hs0_15:=bif_f hs0_14
                                                            conv=>whnf
                                                            refine DNodeB.of (.lit (.bool at2_1)) ?_ ?_
                                                            · conv=>whnf
                                                              rfl
                                                            · conv=>whnf
                                                              refine DNodeB.of (.lit (.bool at2_1)) ?_ ?_
                                                              · conv=>whnf
                                                                rfl
                                                              · rcases at2_1 with _ | _
                                                                · have hs0_16:=bif_f hs0_15
                                                                  conv=>whnf
                                                                  refine DNodeB.of (.lit (.bool false)) ?_ ?_
                                                                  · conv=>whnf
                                                                    rfl
                                                                  · conv=>whnf
                                                                    refine DNodeB.of (.lit (.bool false)) ?_ ?_
                                                                    · conv=>whnf
                                                                      rfl
                                                                    · obtain ⟨t18,et18,hs0_17⟩:=letk_elim hs0_16
                                                                      conv=>whnf
                                                                      refine Nm.mk ⟨t18,et18,?_⟩
                                                                      exact BackS.of (Sees.of (Weak.objs (keep:=[]) (frz:=[]) (m:=0) (ts:=[(0,.vs 3 (a0.map (api.Line.enc))),(1,.vs 3 (b1.map (api.Line.enc))),(2,.lit (.bool false)),(7,J t18)]) (hs:=[]) rfl (by decide) rfl rfl ⟨rfl,fun _ h=>by cases h⟩ ⟨(.same (.vs 3 (a0.map (api.Line.enc))) rfl),(.same (.vs 3 (b1.map (api.Line.enc))) rfl),(.same (.lit (.bool false)) rfl),(.same (J t18) rfl),trivial⟩)) ⟨_,hl1 _ (Option.some.inj hs0_17).symm,rfl⟩
                                                                · have hs0_16:=bif_t hs0_15
                                                                  conv=>whnf
                                                                  refine DNodeB.of (.vs 3 (a0.map (api.Line.enc))) ?_ ?_
                                                                  · conv=>whnf
                                                                    rfl
                                                                  · conv=>whnf
                                                                    refine DNodeB.of (J i7) ?_ ?_
                                                                    · conv=>whnf
                                                                      rfl
                                                                    · obtain ⟨chs0_17,hs0_17⟩:=chk_elim hs0_16
                                                                      obtain ⟨t48,et48,hs0_18⟩:=bind_elim hs0_17
                                                                      conv=>whnf
                                                                      refine DNodeB.of (.iptr (api.Line.enc t48)) ?_ ?_
                                                                      · conv=>whnf
                                                                        refine Side.mk chs0_17 ?_
                                                                        conv=>whnf
                                                                        refine At.by et48 ?_
                                                                        conv=>whnf
                                                                        rfl
                                                                      · conv=>whnf
                                                                        refine DNodeB.of (.iptr (J t48.At)) ?_ ?_
                                                                        · conv=>whnf
                                                                          rfl
                                                                        · conv=>whnf
                                                                          refine DNodeB.of (J t48.At) ?_ ?_
                                                                          · conv=>whnf
                                                                            rfl
                                                                          · conv=>whnf
                                                                            refine DNodeB.of (.vs 3 (b1.map (api.Line.enc))) ?_ ?_
                                                                            · conv=>whnf
                                                                              rfl
                                                                            · conv=>whnf
                                                                              refine DNodeB.of (J i7) ?_ ?_
                                                                              · conv=>whnf
                                                                                rfl
                                                                              · obtain ⟨chs0_19,hs0_19⟩:=chk_elim hs0_18
                                                                                obtain ⟨t53,et53,hs0_20⟩:=bind_elim hs0_19
                                                                                conv=>whnf
                                                                                refine DNodeB.of (.iptr (api.Line.enc t53)) ?_ ?_
                                                                                · conv=>whnf
                                                                                  refine Side.mk chs0_19 ?_
                                                                                  conv=>whnf
                                                                                  refine At.by et53 ?_
                                                                                  conv=>whnf
                                                                                  rfl
                                                                                · conv=>whnf
                                                                                  refine DNodeB.of (.iptr (J t53.At)) ?_ ?_
                                                                                  · conv=>whnf
                                                                                    rfl
                                                                                  · conv=>whnf
                                                                                    refine DNodeB.of (J t53.At) ?_ ?_
                                                                                    · conv=>whnf
                                                                                      rfl
                                                                                    · obtain ⟨t56,et56,hs0_21⟩:=letk_elim hs0_20
                                                                                      conv=>whnf
                                                                                      refine DNodeB.of (.lit (.bool t56)) ?_ ?_
                                                                                      · conv=>whnf
                                                                                        refine Nm.mk ⟨t56,et56,?_⟩
                                                                                        conv=>whnf
                                                                                        rfl
                                                                                      · conv=>whnf
                                                                                        refine DNodeB.of (.lit (.bool t56)) ?_ ?_
                                                                                        · conv=>whnf
                                                                                          rfl
                                                                                        · conv=>whnf
                                                                                          refine DNodeB.of (.lit (.bool t56)) ?_ ?_
                                                                                          · conv=>whnf
                                                                                            rfl
                                                                                          · rcases t56 with _ | _
                                                                                            · have hs0_22:=bif_f hs0_21
                                                                                              obtain ⟨t18_1,et18_1,hs0_23⟩:=letk_elim hs0_22
                                                                                              conv=>whnf
                                                                                              refine Nm.mk ⟨t18_1,et18_1,?_⟩
                                                                                              exact BackS.of (Sees.of (Weak.objs (keep:=[]) (frz:=[]) (m:=0) (ts:=[(0,.vs 3 (a0.map (api.Line.enc))),(1,.vs 3 (b1.map (api.Line.enc))),(2,.lit (.bool true)),(7,J t18_1)]) (hs:=[]) rfl (by decide) rfl rfl ⟨rfl,fun _ h=>by cases h⟩ ⟨(.same (.vs 3 (a0.map (api.Line.enc))) rfl),(.same (.vs 3 (b1.map (api.Line.enc))) rfl),(.same (.lit (.bool true)) rfl),(.same (J t18_1) rfl),trivial⟩)) ⟨_,hl1 _ (Option.some.inj hs0_23).symm,rfl⟩
                                                                                            · have hs0_22:=bif_t hs0_21
                                                                                              have ehs0_22_0:=hr1 _ (Option.some.inj hs0_22).symm
                                                                                              subst ehs0_22_0
                                                                                              conv=>whnf
                                                                                              exact Returns.pure (r:=.lit (.bool false)) rfl rfl rfl rfl ⟨rfl,rfl⟩
                                                          · have hs0_15:=bif_t hs0_14
                                                            conv=>whnf
                                                            refine DNodeB.of (.lit (.bool true)) ?_ ?_
                                                            · conv=>whnf
                                                              rfl
                                                            · have ehs0_15_0:=hr1 _ (Option.some.inj hs0_15).symm
                                                              subst ehs0_15_0
                                                              conv=>whnf
                                                              exact Returns.pure (r:=.lit (.bool false)) rfl rfl rfl rfl ⟨rfl,rfl⟩
                              · have hs0_9:=bif_t hs0_8
                                conv=>whnf
                                refine DNodeB.of (.lit (.bool true)) ?_ ?_
                                · conv=>whnf
                                  rfl
                                · conv=>whnf
                                  refine DNodeB.of (.lit (.bool true)) ?_ ?_
                                  · conv=>whnf
                                    rfl
                                  · conv=>whnf
                                    refine DNodeB.of (.lit (.bool true)) ?_ ?_
                                    · conv=>whnf
                                      rfl
                                    · have ehs0_9_0:=hr1 _ (Option.some.inj hs0_9).symm
                                      subst ehs0_9_0
                                      conv=>whnf
                                      exact Returns.pure (r:=.lit (.bool false)) rfl rfl rfl rfl ⟨rfl,rfl⟩
  · have h4:=bif_t h3
    have eh4_0:=Option.some.inj h4
    subst eh4_0
    conv=>whnf
    exact Returns.pure (r:=.lit (.bool false)) rfl rfl rfl rfl ⟨rfl,rfl⟩
noncomputable def Slite.HasPrefix (s0 prefix1:ByteArray):Option Bool :=
  letk ((s0.size:Int)) fun t6 =>
  letk ((prefix1.size:Int)) fun t8 =>
  letk (decide (t6 ≥ t8)) fun t9 =>
  bif t9 then
    letk ((prefix1.size:Int)) fun t13 =>
    chk (0 ≤ t13 ∧ t13 ≤ (s0.size:Int)) <|
    letk (s0.extract 0 t13.toNat) fun t14 =>
    letk (t14.toList == prefix1.toList) fun t16 =>
    some t16
  else
    some false
theorem Slite.HasPrefix_ok {s0 prefix1:ByteArray} {r:Bool} (h0:Slite.HasPrefix s0 prefix1 = some r):Gives Tryz.prog 91 [.lit (.string s0),.lit (.string prefix1)] (.lit (.bool r)):=by
  unfold Slite.HasPrefix at h0
  refine ACalls.of_swp Tryz.func91 rfl (by decide) rfl (st0:=⟨18,[(0,.lit (.string s0)),(1,.lit (.string prefix1))],[]⟩) rfl (bwp_ok (C:=[]) ?_)
  obtain ⟨t6,et6,h1⟩:=letk_elim h0
  conv=>whnf
  refine Nm.mk ⟨t6,et6,?_⟩
  obtain ⟨t8,et8,h2⟩:=letk_elim h1
  conv=>whnf
  refine Nm.mk ⟨t8,et8,?_⟩
  obtain ⟨t9,et9,h3⟩:=letk_elim h2
  conv=>whnf
  refine Nm.mk ⟨t9,et9,?_⟩
  rcases t9 with _ | _
  · have h4:=bif_f h3
    have eh4_0:=Option.some.inj h4
    subst eh4_0
    conv=>whnf
    exact Returns.pure (r:=.lit (.bool false)) rfl rfl rfl rfl ⟨rfl,rfl⟩
  · have h4:=bif_t h3
    obtain ⟨t13,et13,h5⟩:=letk_elim h4
    conv=>whnf
    refine Nm.mk ⟨t13,et13,?_⟩
    obtain ⟨ch6,h6⟩:=chk_elim h5
    obtain ⟨t14,et14,h7⟩:=letk_elim h6
    conv=>whnf
    refine Side.mk ch6 ?_
    conv=>whnf
    refine Nm.mk ⟨t14,et14,?_⟩
    obtain ⟨t16,et16,h8⟩:=letk_elim h7
    conv=>whnf
    refine Nm.mk ⟨t16,et16,?_⟩
    have eh8_0:=Option.some.inj h8
    subst eh8_0
    conv=>whnf
    exact Returns.pure (r:=.lit (.bool t16)) rfl rfl rfl rfl ⟨rfl,rfl⟩
noncomputable def Slite.CutPrefix (s0 prefix1:ByteArray):Option (ByteArray × Bool) :=
  Option.bind (Slite.HasPrefix s0 prefix1) fun t8 =>
  letk (!t8) fun t9 =>
  bif t9 then
    some (s0,false)
  else
    letk ((prefix1.size:Int)) fun t13 =>
    chk (0 ≤ t13 ∧ t13 ≤ (s0.size:Int)) <|
    letk (s0.extract t13.toNat s0.size) fun t14 =>
    some (t14,true)
theorem Slite.CutPrefix_ok {s0 prefix1:ByteArray} {r:ByteArray × Bool} (h0:Slite.CutPrefix s0 prefix1 = some r):Gives Tryz.prog 71 [.lit (.string s0),.lit (.string prefix1)] (.tup [.lit (.string r.1),.lit (.bool r.2)]):=by
  unfold Slite.CutPrefix at h0
  refine ACalls.of_swp Tryz.func71 rfl (by decide) rfl (st0:=⟨15,[(0,.lit (.string s0)),(1,.lit (.string prefix1))],[]⟩) rfl (bwp_ok (C:=[]) ?_)
  obtain ⟨t8,et8,h1⟩:=bind_elim h0
  conv=>whnf
  refine Gate.go ?_
  conv=>whnf
  refine CallN.by (v:=.lit (.bool t8)) (Slite.HasPrefix_ok et8) rfl rfl ?_
  obtain ⟨t9,et9,h2⟩:=letk_elim h1
  conv=>whnf
  refine Nm.mk ⟨t9,et9,?_⟩
  rcases t9 with _ | _
  · have h3:=bif_f h2
    obtain ⟨t13,et13,h4⟩:=letk_elim h3
    conv=>whnf
    refine Nm.mk ⟨t13,et13,?_⟩
    obtain ⟨ch5,h5⟩:=chk_elim h4
    obtain ⟨t14,et14,h6⟩:=letk_elim h5
    conv=>whnf
    refine Side.mk ch5 ?_
    conv=>whnf
    refine Nm.mk ⟨t14,et14,?_⟩
    have eh6_0:=Option.some.inj h6
    subst eh6_0
    conv=>whnf
    exact Returns.pure (r:=.tup [.lit (.string t14),.lit (.bool true)]) rfl rfl rfl rfl ⟨rfl,rfl⟩
  · have h3:=bif_t h2
    have eh3_0:=Option.some.inj h3
    subst eh3_0
    conv=>whnf
    exact Returns.pure (r:=.tup [.lit (.string s0),.lit (.bool false)]) rfl rfl rfl rfl ⟨rfl,rfl⟩
noncomputable def Strs.CutPrefix (s0 prefix1:ByteArray):Option (ByteArray × Bool) :=
  Option.bind (Slite.CutPrefix s0 prefix1) fun (t8_0,t8_1) =>
  some (t8_0,t8_1)
theorem Strs.CutPrefix_ok {s0 prefix1:ByteArray} {r:ByteArray × Bool} (h0:Strs.CutPrefix s0 prefix1 = some r):Gives Tryz.prog 46 [.lit (.string s0),.lit (.string prefix1)] (.tup [.lit (.string r.1),.lit (.bool r.2)]):=by
  unfold Strs.CutPrefix at h0
  refine ACalls.of_swp Tryz.func46 rfl (by decide) rfl (st0:=⟨11,[(0,.lit (.string s0)),(1,.lit (.string prefix1))],[]⟩) rfl (bwp_ok (C:=[]) ?_)
  obtain ⟨⟨t8_0,t8_1⟩,et8,h1⟩:=bind_elim h0
  conv=>whnf
  refine Gate.go ?_
  conv=>whnf
  refine CallN.by (v:=.tup [.lit (.string t8_0),.lit (.bool t8_1)]) (Slite.CutPrefix_ok et8) rfl rfl ?_
  have eh1_0:=Option.some.inj h1
  subst eh1_0
  conv=>whnf
  exact Returns.pure (r:=.tup [.lit (.string t8_0),.lit (.bool t8_1)]) rfl rfl rfl rfl ⟨rfl,rfl⟩
noncomputable def Src.reader.put.j0 (s2:ByteArray) (r0_0_1:List api.Line) (r0_1_1:Int) (r0_2_1:Bool) (r0_3_1 r0_4_1:Int) (r0_5_1:ByteArray) (r0_6_1:Int):Option ((List api.Line) × Int × Bool × Int × Int × ByteArray × Int) :=
  chk (((r0_5_1.size + s2.size:Nat):Int) ≤ 9223372036854775807) <|
  letk (r0_5_1 ++ s2) fun t24 =>
  some (r0_0_1,r0_1_1,true,r0_3_1,r0_4_1,t24,r0_6_1)
noncomputable def Src.reader.put (r0_0:List api.Line) (r0_1:Int) (r0_2:Bool) (r0_3 r0_4:Int) (r0_5:ByteArray) (r0_6 at1:Int) (s2:ByteArray):Option ((List api.Line) × Int × Bool × Int × Int × ByteArray × Int) :=
  Option.bind (Strs.Trim r0_5 ⟨#[32]⟩) fun t10 =>
  letk (t10.toList == (⟨#[]⟩:ByteArray).toList) fun t11 =>
  bif t11 then
    Src.reader.put.j0 s2 r0_0 r0_1 r0_2 r0_3 at1 r0_5 r0_6
  else
    Src.reader.put.j0 s2 r0_0 r0_1 r0_2 r0_3 r0_4 r0_5 r0_6
theorem Src.reader.put_ok {r0_0:List api.Line} {r0_1:Int} {r0_2:Bool} {r0_3 r0_4:Int} {r0_5:ByteArray} {r0_6 at1:Int} {s2:ByteArray} {r:(List api.Line) × Int × Bool × Int × Int × ByteArray × Int} (h0:Src.reader.put r0_0 r0_1 r0_2 r0_3 r0_4 r0_5 r0_6 at1 s2 = some r):GivesK Tryz.prog 76 [.ptr 0 0,J at1,.lit (.string s2)] [.box [.ref 1 0 ((r0_0.map (api.Line.enc)).length),J r0_1,.lit (.bool r0_2),J r0_3,J r0_4,.lit (.string r0_5),.lit (.int .u8 r0_6)],.arr 3 (r0_0.map (api.Line.enc))] 1 (.tup []) [.box [.ref 1 0 ((r.1.map (api.Line.enc)).length),J r.2.1,.lit (.bool r.2.2.1),J r.2.2.2.1,J r.2.2.2.2.1,.lit (.string r.2.2.2.2.2.1),.lit (.int .u8 r.2.2.2.2.2.2)],.arr 3 (r.1.map (api.Line.enc))]:=by
  unfold Src.reader.put at h0
  refine ACallsK.of_swp Tryz.func76 rfl (by decide) rfl (st0:=⟨27,[(0,.ptr 0 0),(1,J at1),(2,.lit (.string s2))],[.box [.ref 1 0 ((r0_0.map (api.Line.enc)).length),J r0_1,.lit (.bool r0_2),J r0_3,J r0_4,.lit (.string r0_5),.lit (.int .u8 r0_6)],.arr 3 (r0_0.map (api.Line.enc))]⟩) rfl rfl (bwp_ok (C:=[(0,2)]) ?_)
  conv=>whnf
  refine CutN.of (fun s=>∃ (r0_0_1:List api.Line) (r0_1_1:Int) (r0_2_1:Bool) (r0_3_1 r0_4_1:Int) (r0_5_1:ByteArray) (r0_6_1:Int),Src.reader.put.j0 s2 r0_0_1 r0_1_1 r0_2_1 r0_3_1 r0_4_1 r0_5_1 r0_6_1 = some r ∧ s = (⟨27,[(0,.ptr 0 0),(2,.lit (.string s2))],[.box [.ref 1 0 ((r0_0_1.map (api.Line.enc)).length),J r0_1_1,.lit (.bool r0_2_1),J r0_3_1,J r0_4_1,.lit (.string r0_5_1),.lit (.int .u8 r0_6_1)],.arr 3 (r0_0_1.map (api.Line.enc))]⟩:St)) ?_ ?_
  · obtain ⟨t10,et10,h1⟩:=bind_elim h0
    conv=>whnf
    refine Gate.go ?_
    conv=>whnf
    refine CallN.by (v:=.lit (.string t10)) (Strs.Trim_ok et10) rfl rfl ?_
    obtain ⟨t11,et11,h2⟩:=letk_elim h1
    conv=>whnf
    refine Nm.mk ⟨t11,et11,?_⟩
    rcases t11 with _ | _
    · have h3:=bif_f h2
      exact BackS.of (Sees.of (Weak.objs (keep:=[0,1]) (frz:=[]) (m:=0) (ts:=[(0,.ptr 0 0),(2,.lit (.string s2))]) (hs:=[.box [.ref 1 0 ((r0_0.map (api.Line.enc)).length),J r0_1,.lit (.bool r0_2),J r0_3,J r0_4,.lit (.string r0_5),.lit (.int .u8 r0_6)],.arr 3 (r0_0.map (api.Line.enc))]) rfl (by decide) rfl rfl ⟨⟨_,rfl,WO.boxs ⟨(.ref _ _ _ 1 rfl),(.same (J r0_1) rfl),(.same (.lit (.bool r0_2)) rfl),(.same (J r0_3) rfl),(.same (J r0_4) rfl),(.same (.lit (.string r0_5)) rfl),(.same (.lit (.int .u8 r0_6)) rfl),trivial⟩⟩,⟨⟨_,rfl,.arr _ _⟩,⟨rfl,fun _ h=>by cases h⟩⟩⟩ ⟨(.ptr _ _ 0 rfl),(.same (.lit (.string s2)) rfl),trivial⟩)) ⟨_,_,_,_,_,_,_,h3,rfl⟩
    · have h3:=bif_t h2
      conv=>whnf
      refine Nm.mk ⟨[.ref 1 0 ((r0_0.map (api.Line.enc)).length),J r0_1,.lit (.bool r0_2),J r0_3,J at1,.lit (.string r0_5),.lit (.int .u8 r0_6)],rfl,?_⟩
      exact BackS.of (Sees.of (Weak.objs (keep:=[0,1]) (frz:=[]) (m:=0) (ts:=[(0,.ptr 0 0),(2,.lit (.string s2))]) (hs:=[.box [.ref 1 0 ((r0_0.map (api.Line.enc)).length),J r0_1,.lit (.bool r0_2),J r0_3,J at1,.lit (.string r0_5),.lit (.int .u8 r0_6)],.arr 3 (r0_0.map (api.Line.enc))]) rfl (by decide) rfl rfl ⟨⟨_,rfl,WO.boxs ⟨(.ref _ _ _ 1 rfl),(.same (J r0_1) rfl),(.same (.lit (.bool r0_2)) rfl),(.same (J r0_3) rfl),(.same (J at1) rfl),(.same (.lit (.string r0_5)) rfl),(.same (.lit (.int .u8 r0_6)) rfl),trivial⟩⟩,⟨⟨_,rfl,.arr _ _⟩,⟨rfl,fun _ h=>by cases h⟩⟩⟩ ⟨(.ptr _ _ 0 rfl),(.same (.lit (.string s2)) rfl),trivial⟩)) ⟨_,_,_,_,_,_,_,h3,rfl⟩
  · clear h0
    rintro s ⟨r0_0_1,r0_1_1,_,r0_3_1,r0_4_1,r0_5_1,r0_6_1,hj0,rfl⟩
    unfold Src.reader.put.j0 at hj0
    conv=>whnf
    refine Nm.mk ⟨[.ref 1 0 ((r0_0_1.map (api.Line.enc)).length),J r0_1_1,.lit (.bool true),J r0_3_1,J r0_4_1,.lit (.string r0_5_1),.lit (.int .u8 r0_6_1)],rfl,?_⟩
    obtain ⟨chj1,hj1⟩:=chk_elim hj0
    obtain ⟨t24,et24,hj2⟩:=letk_elim hj1
    conv=>whnf
    refine Side.mk chj1 ?_
    conv=>whnf
    refine Nm.mk ⟨t24,et24,?_⟩
    conv=>whnf
    refine Nm.mk ⟨[.ref 1 0 ((r0_0_1.map (api.Line.enc)).length),J r0_1_1,.lit (.bool true),J r0_3_1,J r0_4_1,.lit (.string t24),.lit (.int .u8 r0_6_1)],rfl,?_⟩
    have ehj2_0:=Option.some.inj hj2
    subst ehj2_0
    conv=>whnf
    exact Returns.hand (v:=.tup []) (keep:=[0,1]) (frz:=[]) (m:=0) (h':=[.box [.ref 1 0 ((r0_0_1.map (api.Line.enc)).length),J r0_1_1,.lit (.bool true),J r0_3_1,J r0_4_1,.lit (.string t24),.lit (.int .u8 r0_6_1)],.arr 3 (r0_0_1.map (api.Line.enc))]) rfl rfl (WH.of (by decide) rfl rfl ⟨⟨_,rfl,WO.boxs ⟨(.ref _ _ _ 1 rfl),(.same (J r0_1_1) rfl),(.same (.lit (.bool true)) rfl),(.same (J r0_3_1) rfl),(.same (J r0_4_1) rfl),(.same (.lit (.string t24)) rfl),(.same (.lit (.int .u8 r0_6_1)) rfl),trivial⟩⟩,⟨⟨_,rfl,.arr _ _⟩,⟨rfl,fun _ h=>by cases h⟩⟩⟩) (WV.tups trivial) ⟨rfl,rfl⟩
noncomputable def Src.reader.over_.j1 (r0_0_2:List api.Line) (r0_1_2:Int) (r0_2_2:Bool) (r0_3_2 r0_4_2:Int) (r0_5_2:ByteArray) (r0_6_2:Int):Option ((List api.Line) × Int × Bool × Int × Int × ByteArray × Int) :=
  Option.bind (Src.reader.end_ r0_0_2 r0_1_2 r0_2_2 r0_3_2 r0_4_2 r0_5_2 r0_6_2) fun (o_0,o_1,_,_,_,_,_) =>
  some (o_0,o_1,false,0,0,⟨#[]⟩,0)
noncomputable def Src.reader.over_.j0 (r0_0_1:List api.Line) (r0_1_1:Int) (r0_2_1:Bool) (r0_3_1 r0_4_1:Int) (r0_5_1:ByteArray) (r0_6_1:Int) (text2:ByteArray) (label3:Int):Option ((List api.Line) × Int × Bool × Int × Int × ByteArray × Int) :=
  bif r0_2_1 then
    letk (!(text2.toList == (⟨#[]⟩:ByteArray).toList)) fun t46 =>
    Src.reader.over_.j1 r0_0_1 r0_1_1 t46 label3 r0_4_1 text2 r0_6_1
  else
    Src.reader.over_.j1 r0_0_1 r0_1_1 false label3 r0_4_1 text2 r0_6_1
noncomputable def Src.reader.over_ (r0_0:List api.Line) (r0_1:Int) (r0_2:Bool) (r0_3 r0_4:Int) (r0_5:ByteArray) (r0_6:Int):Option ((List api.Line) × Int × Bool × Int × Int × ByteArray × Int) :=
  Option.bind (Strs.Trim r0_5 ⟨#[32]⟩) fun t10 =>
  Option.bind (Src.numbered t10) fun (t13_0,t13_1) =>
  bif t13_1 then
    chk (0 ≤ t13_0 ∧ t13_0 ≤ (t10.size:Int)) <|
    letk (t10.extract 0 t13_0.toNat) fun t20 =>
    Option.bind (Src.labelOf t20) fun (t21_0,t21_1) =>
    letk (!t21_1) fun t25 =>
    bif t25 then
      Option.bind (Src.reader.fail r0_0 r0_1 r0_2 r0_3 r0_4 r0_5 r0_6 r0_4) fun (o_0_1,o_1_1,o_2_1,o_3_1,o_4_1,o_5_1,o_6_1) =>
      chk (0 ≤ t13_0 ∧ t13_0 ≤ (t10.size:Int)) <|
      letk (t10.extract t13_0.toNat t10.size) fun t34_1 =>
      Src.reader.over_.j0 o_0_1 o_1_1 o_2_1 o_3_1 o_4_1 o_5_1 o_6_1 t34_1 t21_0
    else
      chk (0 ≤ t13_0 ∧ t13_0 ≤ (t10.size:Int)) <|
      letk (t10.extract t13_0.toNat t10.size) fun t34 =>
      Src.reader.over_.j0 r0_0 r0_1 r0_2 r0_3 r0_4 r0_5 r0_6 t34 t21_0
  else
    Src.reader.over_.j0 r0_0 r0_1 r0_2 r0_3 r0_4 r0_5 r0_6 t10 0
theorem Src.reader.over__ok {r0_0:List api.Line} {r0_1:Int} {r0_2:Bool} {r0_3 r0_4:Int} {r0_5:ByteArray} {r0_6:Int} {r:(List api.Line) × Int × Bool × Int × Int × ByteArray × Int} (h0:Src.reader.over_ r0_0 r0_1 r0_2 r0_3 r0_4 r0_5 r0_6 = some r):GivesK Tryz.prog 49 [.ptr 0 0] [.box [.ref 1 0 ((r0_0.map (api.Line.enc)).length),J r0_1,.lit (.bool r0_2),J r0_3,J r0_4,.lit (.string r0_5),.lit (.int .u8 r0_6)],.arr 3 (r0_0.map (api.Line.enc))] 1 (.tup []) [.box [.ref 1 0 ((r.1.map (api.Line.enc)).length),J r.2.1,.lit (.bool r.2.2.1),J r.2.2.2.1,J r.2.2.2.2.1,.lit (.string r.2.2.2.2.2.1),.lit (.int .u8 r.2.2.2.2.2.2)],.arr 3 (r.1.map (api.Line.enc))]:=by
  unfold Src.reader.over_ at h0
  refine ACallsK.of_swp Tryz.func49 rfl (by decide) rfl (st0:=⟨67,[(0,.ptr 0 0)],[.box [.ref 1 0 ((r0_0.map (api.Line.enc)).length),J r0_1,.lit (.bool r0_2),J r0_3,J r0_4,.lit (.string r0_5),.lit (.int .u8 r0_6)],.arr 3 (r0_0.map (api.Line.enc))]⟩) rfl rfl (bwp_ok (C:=[(0,8),(0,9)]) ?_)
  obtain ⟨t10,et10,h1⟩:=bind_elim h0
  conv=>whnf
  refine Gate.go ?_
  conv=>whnf
  refine CallN.by (v:=.lit (.string t10)) (Strs.Trim_ok et10) rfl rfl ?_
  conv=>whnf
  refine CutN.of (fun s=>∃ (r0_0_1:List api.Line) (r0_1_1:Int) (r0_2_1:Bool) (r0_3_1 r0_4_1:Int) (r0_5_1:ByteArray) (r0_6_1:Int) (text2:ByteArray) (label3:Int),Src.reader.over_.j0 r0_0_1 r0_1_1 r0_2_1 r0_3_1 r0_4_1 r0_5_1 r0_6_1 text2 label3 = some r ∧ s = (⟨67,[(0,.ptr 0 0),(2,.lit (.string text2)),(3,J label3)],[.box [.ref 1 0 ((r0_0_1.map (api.Line.enc)).length),J r0_1_1,.lit (.bool r0_2_1),J r0_3_1,J r0_4_1,.lit (.string r0_5_1),.lit (.int .u8 r0_6_1)],.arr 3 (r0_0_1.map (api.Line.enc))]⟩:St)) ?_ ?_
  · obtain ⟨⟨t13_0,t13_1⟩,et13,h2⟩:=bind_elim h1
    conv=>whnf
    refine Gate.go ?_
    conv=>whnf
    refine CallN.by (v:=.tup [J t13_0,.lit (.bool t13_1)]) (Src.numbered_ok et13) rfl rfl ?_
    rcases t13_1 with _ | _
    · have h3:=bif_f h2
      exact BackS.of (Sees.of (Weak.objs (keep:=[0,1]) (frz:=[]) (m:=0) (ts:=[(0,.ptr 0 0),(2,.lit (.string t10)),(3,J 0)]) (hs:=[.box [.ref 1 0 ((r0_0.map (api.Line.enc)).length),J r0_1,.lit (.bool r0_2),J r0_3,J r0_4,.lit (.string r0_5),.lit (.int .u8 r0_6)],.arr 3 (r0_0.map (api.Line.enc))]) rfl (by decide) rfl rfl ⟨⟨_,rfl,WO.boxs ⟨(.ref _ _ _ 1 rfl),(.same (J r0_1) rfl),(.same (.lit (.bool r0_2)) rfl),(.same (J r0_3) rfl),(.same (J r0_4) rfl),(.same (.lit (.string r0_5)) rfl),(.same (.lit (.int .u8 r0_6)) rfl),trivial⟩⟩,⟨⟨_,rfl,.arr _ _⟩,⟨rfl,fun _ h=>by cases h⟩⟩⟩ ⟨(.ptr _ _ 0 rfl),(.same (.lit (.string t10)) rfl),(.same (J 0) rfl),trivial⟩)) ⟨_,_,_,_,_,_,_,_,_,h3,rfl⟩
    · have h3:=bif_t h2
      obtain ⟨ch4,h4⟩:=chk_elim h3
      obtain ⟨t20,et20,h5⟩:=letk_elim h4
      conv=>whnf
      refine Side.mk ch4 ?_
      conv=>whnf
      refine Nm.mk ⟨t20,et20,?_⟩
      obtain ⟨⟨t21_0,t21_1⟩,et21,h6⟩:=bind_elim h5
      conv=>whnf
      refine Gate.go ?_
      conv=>whnf
      refine CallN.by (v:=.tup [J t21_0,.lit (.bool t21_1)]) (Src.labelOf_ok et21) rfl rfl ?_
      obtain ⟨t25,et25,h7⟩:=letk_elim h6
      conv=>whnf
      refine Nm.mk ⟨t25,et25,?_⟩
      rcases t25 with _ | _
      · have h8:=bif_f h7
        obtain ⟨ch9,h9⟩:=chk_elim h8
        obtain ⟨t34,et34,h10⟩:=letk_elim h9
        conv=>whnf
        refine Side.mk ch9 ?_
        conv=>whnf
        refine Nm.mk ⟨t34,et34,?_⟩
        exact BackS.of (Sees.of (Weak.objs (keep:=[0,1]) (frz:=[]) (m:=0) (ts:=[(0,.ptr 0 0),(2,.lit (.string t34)),(3,J t21_0)]) (hs:=[.box [.ref 1 0 ((r0_0.map (api.Line.enc)).length),J r0_1,.lit (.bool r0_2),J r0_3,J r0_4,.lit (.string r0_5),.lit (.int .u8 r0_6)],.arr 3 (r0_0.map (api.Line.enc))]) rfl (by decide) rfl rfl ⟨⟨_,rfl,WO.boxs ⟨(.ref _ _ _ 1 rfl),(.same (J r0_1) rfl),(.same (.lit (.bool r0_2)) rfl),(.same (J r0_3) rfl),(.same (J r0_4) rfl),(.same (.lit (.string r0_5)) rfl),(.same (.lit (.int .u8 r0_6)) rfl),trivial⟩⟩,⟨⟨_,rfl,.arr _ _⟩,⟨rfl,fun _ h=>by cases h⟩⟩⟩ ⟨(.ptr _ _ 0 rfl),(.same (.lit (.string t34)) rfl),(.same (J t21_0) rfl),trivial⟩)) ⟨_,_,_,_,_,_,_,_,_,h10,rfl⟩
      · have h8:=bif_t h7
        obtain ⟨⟨o_0_1,o_1_1,o_2_1,o_3_1,o_4_1,o_5_1,o_6_1⟩,ee_t31,h9⟩:=bind_elim h8
        conv=>whnf
        refine Gate.weak (Sees.of (Weak.objs (keep:=[0,1]) (frz:=[]) (m:=0) (ts:=[(0,.ptr 0 0),(2,.lit (.string t10)),(3,J t21_0),(4,J t13_0),(26,.ptr 0 0),(30,J r0_4)]) (hs:=[.box [.ref 1 0 ((r0_0.map (api.Line.enc)).length),J r0_1,.lit (.bool r0_2),J r0_3,J r0_4,.lit (.string r0_5),.lit (.int .u8 r0_6)],.arr 3 (r0_0.map (api.Line.enc))]) rfl (by decide) rfl rfl ⟨⟨_,rfl,WO.boxs ⟨(.ref _ _ _ 1 rfl),(.same (J r0_1) rfl),(.same (.lit (.bool r0_2)) rfl),(.same (J r0_3) rfl),(.same (J r0_4) rfl),(.same (.lit (.string r0_5)) rfl),(.same (.lit (.int .u8 r0_6)) rfl),trivial⟩⟩,⟨⟨_,rfl,.arr _ _⟩,⟨rfl,fun _ h=>by cases h⟩⟩⟩ ⟨(.ptr _ _ 0 rfl),(.same (.lit (.string t10)) rfl),(.same (J t21_0) rfl),(.same (J t13_0) rfl),(.ptr _ _ 0 rfl),(.same (J r0_4) rfl),trivial⟩)) ?_
        conv=>whnf
        refine CallN.hand (k:=1) (v:=.tup []) (hs':=[.box [.ref 1 0 ((o_0_1.map (api.Line.enc)).length),J o_1_1,.lit (.bool o_2_1),J o_3_1,J o_4_1,.lit (.string o_5_1),.lit (.int .u8 o_6_1)],.arr 3 (o_0_1.map (api.Line.enc))]) (ts':=[(0,.ptr 0 0),(2,.lit (.string t10)),(3,J t21_0),(4,J t13_0),(26,.ptr 0 0),(30,J r0_4)]) (Src.reader.fail_ok ee_t31) rfl rfl ?_
        obtain ⟨ch10,h10⟩:=chk_elim h9
        obtain ⟨t34_1,et34_1,h11⟩:=letk_elim h10
        conv=>whnf
        refine Side.mk ch10 ?_
        conv=>whnf
        refine Nm.mk ⟨t34_1,et34_1,?_⟩
        exact BackS.of (Sees.of (Weak.objs (keep:=[0,1]) (frz:=[]) (m:=0) (ts:=[(0,.ptr 0 0),(2,.lit (.string t34_1)),(3,J t21_0)]) (hs:=[.box [.ref 1 0 ((o_0_1.map (api.Line.enc)).length),J o_1_1,.lit (.bool o_2_1),J o_3_1,J o_4_1,.lit (.string o_5_1),.lit (.int .u8 o_6_1)],.arr 3 (o_0_1.map (api.Line.enc))]) rfl (by decide) rfl rfl ⟨⟨_,rfl,WO.boxs ⟨(.ref _ _ _ 1 rfl),(.same (J o_1_1) rfl),(.same (.lit (.bool o_2_1)) rfl),(.same (J o_3_1) rfl),(.same (J o_4_1) rfl),(.same (.lit (.string o_5_1)) rfl),(.same (.lit (.int .u8 o_6_1)) rfl),trivial⟩⟩,⟨⟨_,rfl,.arr _ _⟩,⟨rfl,fun _ h=>by cases h⟩⟩⟩ ⟨(.ptr _ _ 0 rfl),(.same (.lit (.string t34_1)) rfl),(.same (J t21_0) rfl),trivial⟩)) ⟨_,_,_,_,_,_,_,_,_,h11,rfl⟩
  · clear h1
    rintro s ⟨r0_0_1,r0_1_1,r0_2_1,_,r0_4_1,r0_5_1,r0_6_1,text2,label3,hj0,rfl⟩
    unfold Src.reader.over_.j0 at hj0
    conv=>whnf
    refine CutN.of (fun s=>∃ (r0_0_2:List api.Line) (r0_1_2:Int) (r0_2_2:Bool) (r0_3_2 r0_4_2:Int) (r0_5_2:ByteArray) (r0_6_2:Int),Src.reader.over_.j1 r0_0_2 r0_1_2 r0_2_2 r0_3_2 r0_4_2 r0_5_2 r0_6_2 = some r ∧ s = (⟨67,[(0,.ptr 0 0)],[.box [.ref 1 0 ((r0_0_2.map (api.Line.enc)).length),J r0_1_2,.lit (.bool r0_2_2),J r0_3_2,J r0_4_2,.lit (.string r0_5_2),.lit (.int .u8 r0_6_2)],.arr 3 (r0_0_2.map (api.Line.enc))]⟩:St)) ?_ ?_
    · rcases r0_2_1 with _ | _
      · have hj1:=bif_f hj0
        conv=>whnf
        refine Nm.mk ⟨[.ref 1 0 ((r0_0_1.map (api.Line.enc)).length),J r0_1_1,.lit (.bool false),J label3,J r0_4_1,.lit (.string r0_5_1),.lit (.int .u8 r0_6_1)],rfl,?_⟩
        conv=>whnf
        refine Nm.mk ⟨[.ref 1 0 ((r0_0_1.map (api.Line.enc)).length),J r0_1_1,.lit (.bool false),J label3,J r0_4_1,.lit (.string text2),.lit (.int .u8 r0_6_1)],rfl,?_⟩
        conv=>whnf
        refine Nm.mk ⟨[.ref 1 0 ((r0_0_1.map (api.Line.enc)).length),J r0_1_1,.lit (.bool false),J label3,J r0_4_1,.lit (.string text2),.lit (.int .u8 r0_6_1)],rfl,?_⟩
        exact BackS.of (Sees.of (Weak.objs (keep:=[0,1]) (frz:=[]) (m:=0) (ts:=[(0,.ptr 0 0)]) (hs:=[.box [.ref 1 0 ((r0_0_1.map (api.Line.enc)).length),J r0_1_1,.lit (.bool false),J label3,J r0_4_1,.lit (.string text2),.lit (.int .u8 r0_6_1)],.arr 3 (r0_0_1.map (api.Line.enc))]) rfl (by decide) rfl rfl ⟨⟨_,rfl,WO.boxs ⟨(.ref _ _ _ 1 rfl),(.same (J r0_1_1) rfl),(.same (.lit (.bool false)) rfl),(.same (J label3) rfl),(.same (J r0_4_1) rfl),(.same (.lit (.string text2)) rfl),(.same (.lit (.int .u8 r0_6_1)) rfl),trivial⟩⟩,⟨⟨_,rfl,.arr _ _⟩,⟨rfl,fun _ h=>by cases h⟩⟩⟩ ⟨(.ptr _ _ 0 rfl),trivial⟩)) ⟨_,_,_,_,_,_,_,hj1,rfl⟩
      · have hj1:=bif_t hj0
        obtain ⟨t46,et46,hj2⟩:=letk_elim hj1
        conv=>whnf
        refine Nm.mk ⟨t46,et46,?_⟩
        conv=>whnf
        refine Nm.mk ⟨[.ref 1 0 ((r0_0_1.map (api.Line.enc)).length),J r0_1_1,.lit (.bool true),J label3,J r0_4_1,.lit (.string r0_5_1),.lit (.int .u8 r0_6_1)],rfl,?_⟩
        conv=>whnf
        refine Nm.mk ⟨[.ref 1 0 ((r0_0_1.map (api.Line.enc)).length),J r0_1_1,.lit (.bool true),J label3,J r0_4_1,.lit (.string text2),.lit (.int .u8 r0_6_1)],rfl,?_⟩
        conv=>whnf
        refine Nm.mk ⟨[.ref 1 0 ((r0_0_1.map (api.Line.enc)).length),J r0_1_1,.lit (.bool t46),J label3,J r0_4_1,.lit (.string text2),.lit (.int .u8 r0_6_1)],rfl,?_⟩
        exact BackS.of (Sees.of (Weak.objs (keep:=[0,1]) (frz:=[]) (m:=0) (ts:=[(0,.ptr 0 0)]) (hs:=[.box [.ref 1 0 ((r0_0_1.map (api.Line.enc)).length),J r0_1_1,.lit (.bool t46),J label3,J r0_4_1,.lit (.string text2),.lit (.int .u8 r0_6_1)],.arr 3 (r0_0_1.map (api.Line.enc))]) rfl (by decide) rfl rfl ⟨⟨_,rfl,WO.boxs ⟨(.ref _ _ _ 1 rfl),(.same (J r0_1_1) rfl),(.same (.lit (.bool t46)) rfl),(.same (J label3) rfl),(.same (J r0_4_1) rfl),(.same (.lit (.string text2)) rfl),(.same (.lit (.int .u8 r0_6_1)) rfl),trivial⟩⟩,⟨⟨_,rfl,.arr _ _⟩,⟨rfl,fun _ h=>by cases h⟩⟩⟩ ⟨(.ptr _ _ 0 rfl),trivial⟩)) ⟨_,_,_,_,_,_,_,hj2,rfl⟩
    · clear hj0
      rintro s ⟨r0_0_2,r0_1_2,r0_2_2,r0_3_2,r0_4_2,r0_5_2,r0_6_2,hj0,rfl⟩
      unfold Src.reader.over_.j1 at hj0
      obtain ⟨⟨o_0,o_1,o_2,o_3,o_4,o_5,o_6⟩,ee_t55,hj1⟩:=bind_elim hj0
      conv=>whnf
      refine Gate.weak (Sees.of (Weak.objs (keep:=[0,1]) (frz:=[]) (m:=0) (ts:=[(0,.ptr 0 0),(54,.ptr 0 0)]) (hs:=[.box [.ref 1 0 ((r0_0_2.map (api.Line.enc)).length),J r0_1_2,.lit (.bool r0_2_2),J r0_3_2,J r0_4_2,.lit (.string r0_5_2),.lit (.int .u8 r0_6_2)],.arr 3 (r0_0_2.map (api.Line.enc))]) rfl (by decide) rfl rfl ⟨⟨_,rfl,WO.boxs ⟨(.ref _ _ _ 1 rfl),(.same (J r0_1_2) rfl),(.same (.lit (.bool r0_2_2)) rfl),(.same (J r0_3_2) rfl),(.same (J r0_4_2) rfl),(.same (.lit (.string r0_5_2)) rfl),(.same (.lit (.int .u8 r0_6_2)) rfl),trivial⟩⟩,⟨⟨_,rfl,.arr _ _⟩,⟨rfl,fun _ h=>by cases h⟩⟩⟩ ⟨(.ptr _ _ 0 rfl),(.ptr _ _ 0 rfl),trivial⟩)) ?_
      conv=>whnf
      refine CallN.hand (k:=1) (v:=.tup []) (hs':=[.box [.ref 1 0 ((o_0.map (api.Line.enc)).length),J o_1,.lit (.bool o_2),J o_3,J o_4,.lit (.string o_5),.lit (.int .u8 o_6)],.arr 3 (o_0.map (api.Line.enc))]) (ts':=[(0,.ptr 0 0),(54,.ptr 0 0)]) (Src.reader.end__ok ee_t55) rfl rfl ?_
      conv=>whnf
      refine DrawB.ofM [11] [0,0,0,0,0,0,0,0,0,0,0,0] Tryz_mixed (by kernel_rfl) (by kernel_rfl) ?_
      conv=>whnf
      refine DNodeH.mv (.ptr 0 0) rfl (fun h=>?_) ?_
      · conv=>whnf
        rfl
      · conv=>whnf
        refine DNodeH.mv (.ptr 0 0) rfl (fun h=>?_) ?_
        · conv=>whnf
          rfl
        · conv=>whnf
          refine DNodeH.of (.ptr 0 0) rfl ?_ rfl rfl ?_
          · conv=>whnf
            rfl
          · conv=>whnf
            refine DNodeH.of (.ptr 0 0) rfl ?_ rfl rfl ?_
            · conv=>whnf
              rfl
            · conv=>whnf
              refine DNodeH.of (.ref 1 0 ((o_0.map (api.Line.enc)).length)) rfl ?_ rfl rfl ?_
              · conv=>whnf
                rfl
              · conv=>whnf
                refine DNodeH.mv (.ptr 0 0) rfl (fun h=>?_) ?_
                · conv=>whnf
                  rfl
                · conv=>whnf
                  refine DNodeH.of (.ptr 0 0) rfl ?_ rfl rfl ?_
                  · conv=>whnf
                    rfl
                  · conv=>whnf
                    refine DNodeH.of (.ptr 0 1) rfl ?_ rfl rfl ?_
                    · conv=>whnf
                      rfl
                    · conv=>whnf
                      refine DNodeH.of (J o_1) rfl ?_ rfl rfl ?_
                      · conv=>whnf
                        rfl
                      · conv=>whnf
                        refine DNodeH.of (.agg [.ref 1 0 ((o_0.map (api.Line.enc)).length),J o_1,.lit (.bool false),J 0,J 0,.lit (.string (⟨#[]⟩)),.lit (.int .u8 0)]) rfl ?_ rfl rfl ?_
                        · conv=>whnf
                          refine Nm.mk ⟨[.ref 1 0 ((o_0.map (api.Line.enc)).length),J o_1,.lit (.bool false),J 0,J 0,.lit (.string (⟨#[]⟩)),.lit (.int .u8 0)],rfl,?_⟩
                          conv=>whnf
                          rfl
                        · conv=>whnf
                          refine DNodeH.of (.ptr 0 0) rfl ?_ rfl rfl ?_
                          · conv=>whnf
                            rfl
                          · conv=>whnf
                            refine MNodeB.of (.undef) [.box [.ref 1 0 ((o_0.map (api.Line.enc)).length),J o_1,.lit (.bool false),J 0,J 0,.lit (.string (⟨#[]⟩)),.lit (.int .u8 0)],.arr 3 (o_0.map (api.Line.enc))] ?_ (fun h=>Bool.noConfusion (show false = true from h)) ?_
                            · conv=>whnf
                              refine Nm.mk ⟨[.ref 1 0 ((o_0.map (api.Line.enc)).length),J o_1,.lit (.bool false),J 0,J 0,.lit (.string (⟨#[]⟩)),.lit (.int .u8 0)],rfl,?_⟩
                              conv=>whnf
                              rfl
                            · have ehj1_0:=Option.some.inj hj1
                              subst ehj1_0
                              conv=>whnf
                              exact Returns.hand (v:=.tup []) (keep:=[0,1]) (frz:=[]) (m:=0) (h':=[.box [.ref 1 0 ((o_0.map (api.Line.enc)).length),J o_1,.lit (.bool false),J 0,J 0,.lit (.string (⟨#[]⟩)),.lit (.int .u8 0)],.arr 3 (o_0.map (api.Line.enc))]) rfl rfl (WH.of (by decide) rfl rfl ⟨⟨_,rfl,WO.boxs ⟨(.ref _ _ _ 1 rfl),(.same (J o_1) rfl),(.same (.lit (.bool false)) rfl),(.same (J 0) rfl),(.same (J 0) rfl),(.same (.lit (.string (⟨#[]⟩))) rfl),(.same (.lit (.int .u8 0)) rfl),trivial⟩⟩,⟨⟨_,rfl,.arr _ _⟩,⟨rfl,fun _ h=>by cases h⟩⟩⟩) (WV.tups trivial) ⟨rfl,rfl⟩
noncomputable def Slite.CutSuffix (s0 suffix1:ByteArray):Option (ByteArray × Bool) :=
  Option.bind (Slite.HasSuffix s0 suffix1) fun t8 =>
  letk (!t8) fun t9 =>
  bif t9 then
    some (s0,false)
  else
    letk ((s0.size:Int)) fun t13 =>
    letk ((suffix1.size:Int)) fun t15 =>
    letk (IntKind.i64.wrap (t13 - t15)) fun t16 =>
    chk (0 ≤ t16 ∧ t16 ≤ (s0.size:Int)) <|
    letk (s0.extract 0 t16.toNat) fun t17 =>
    some (t17,true)
theorem Slite.CutSuffix_ok {s0 suffix1:ByteArray} {r:ByteArray × Bool} (h0:Slite.CutSuffix s0 suffix1 = some r):Gives Tryz.prog 98 [.lit (.string s0),.lit (.string suffix1)] (.tup [.lit (.string r.1),.lit (.bool r.2)]):=by
  unfold Slite.CutSuffix at h0
  refine ACalls.of_swp Tryz.func98 rfl (by decide) rfl (st0:=⟨18,[(0,.lit (.string s0)),(1,.lit (.string suffix1))],[]⟩) rfl (bwp_ok (C:=[]) ?_)
  obtain ⟨t8,et8,h1⟩:=bind_elim h0
  conv=>whnf
  refine Gate.go ?_
  conv=>whnf
  refine CallN.by (v:=.lit (.bool t8)) (Slite.HasSuffix_ok et8) rfl rfl ?_
  obtain ⟨t9,et9,h2⟩:=letk_elim h1
  conv=>whnf
  refine Nm.mk ⟨t9,et9,?_⟩
  rcases t9 with _ | _
  · have h3:=bif_f h2
    obtain ⟨t13,et13,h4⟩:=letk_elim h3
    conv=>whnf
    refine Nm.mk ⟨t13,et13,?_⟩
    obtain ⟨t15,et15,h5⟩:=letk_elim h4
    conv=>whnf
    refine Nm.mk ⟨t15,et15,?_⟩
    obtain ⟨t16,et16,h6⟩:=letk_elim h5
    conv=>whnf
    refine Nm.mk ⟨t16,et16,?_⟩
    obtain ⟨ch7,h7⟩:=chk_elim h6
    obtain ⟨t17,et17,h8⟩:=letk_elim h7
    conv=>whnf
    refine Side.mk ch7 ?_
    conv=>whnf
    refine Nm.mk ⟨t17,et17,?_⟩
    have eh8_0:=Option.some.inj h8
    subst eh8_0
    conv=>whnf
    exact Returns.pure (r:=.tup [.lit (.string t17),.lit (.bool true)]) rfl rfl rfl rfl ⟨rfl,rfl⟩
  · have h3:=bif_t h2
    have eh3_0:=Option.some.inj h3
    subst eh3_0
    conv=>whnf
    exact Returns.pure (r:=.tup [.lit (.string s0),.lit (.bool false)]) rfl rfl rfl rfl ⟨rfl,rfl⟩
noncomputable def Strs.CutSuffix (s0 suffix1:ByteArray):Option (ByteArray × Bool) :=
  Option.bind (Slite.CutSuffix s0 suffix1) fun (t8_0,t8_1) =>
  some (t8_0,t8_1)
theorem Strs.CutSuffix_ok {s0 suffix1:ByteArray} {r:ByteArray × Bool} (h0:Strs.CutSuffix s0 suffix1 = some r):Gives Tryz.prog 78 [.lit (.string s0),.lit (.string suffix1)] (.tup [.lit (.string r.1),.lit (.bool r.2)]):=by
  unfold Strs.CutSuffix at h0
  refine ACalls.of_swp Tryz.func78 rfl (by decide) rfl (st0:=⟨11,[(0,.lit (.string s0)),(1,.lit (.string suffix1))],[]⟩) rfl (bwp_ok (C:=[]) ?_)
  obtain ⟨⟨t8_0,t8_1⟩,et8,h1⟩:=bind_elim h0
  conv=>whnf
  refine Gate.go ?_
  conv=>whnf
  refine CallN.by (v:=.tup [.lit (.string t8_0),.lit (.bool t8_1)]) (Slite.CutSuffix_ok et8) rfl rfl ?_
  have eh1_0:=Option.some.inj h1
  subst eh1_0
  conv=>whnf
  exact Returns.pure (r:=.tup [.lit (.string t8_0),.lit (.bool t8_1)]) rfl rfl rfl rfl ⟨rfl,rfl⟩
end Go.Q
