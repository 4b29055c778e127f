import Derived.Test.YtoecgpemlfoogaaGreatDoorBI
import Derived.Test.YtoecgpemlfoogaaGreatDoorGN11
import Derived.Test.YtoecgpemlfoogaaGreatDoorFX
import Derived.Test.YtoecgpemlfoogaaGreatDoorFY
import Derived.Test.YtoecgpemlfoogaaGreatDoorProg
namespace Go.Q
open Go Go.Proofs
set_option maxRecDepth 10000
set_option maxHeartbeats 2000000
noncomputable def Src.Valid.s0 (l0:List api.Line) (t6:Int) (t7:Int):Option (Int ⊕ Bool) :=
  letk (decide (t7 < t6)) fun t8 =>
  bif t8 then
    chk (0 ≤ t7) <|
    Option.bind (l0[t7.toNat]?) fun t9 =>
    letk (decide (t9.Label < (0:Int))) fun t13 =>
    bif t13 then
      some (.inr false)
    else
      letk (decide (t9.Label > (99999:Int))) fun t17 =>
      bif t17 then
        some (.inr false)
      else
        letk ((t9.Text.size:Int)) fun t22 =>
        letk (decide (t22 > (8000:Int))) fun t23 =>
        bif t23 then
          some (.inr false)
        else
          Option.bind (Src.isStatement t9.Text) fun t28 =>
          letk (!t28) fun t29 =>
          bif t29 then
            some (.inr false)
          else
            letk (IntKind.i64.wrap (t7 + (1:Int))) fun t31 =>
            some (.inl t31)
  else
    ((
    letk ((l0.length:Int)) fun t33 =>
    letk (decide (t33 ≤ (200:Int))) fun t34 =>
    some t34)).map .inr
noncomputable def Src.Valid.l0 (l0:List api.Line) (t6:Int) (t7:Int):Option Bool:=loopO (fun v:Int=>Src.Valid.s0 l0 t6 v) t7
noncomputable def Src.Valid (l0:List api.Line):Option Bool :=
  letk ((l0.length:Int)) fun t6 =>
  Src.Valid.l0 l0 t6 0
theorem Src.Valid_ok {l0:List api.Line} {r:Bool} (h0:Src.Valid l0 = some r):Gives Tryz.prog 17 [.vs 3 (l0.map (api.Line.enc))] (.lit (.bool r)):=by
  unfold Src.Valid at h0
  refine ACalls.of_swp Tryz.func17 rfl (by decide) rfl (st0:=⟨35,[(0,.vs 3 (l0.map (api.Line.enc)))],[]⟩) rfl (bwp_ok (C:=[]) ?_)
  obtain ⟨t6,et6,h1⟩:=letk_elim h0; clear h0
  conv=>whnf
  refine Nm.mk ⟨t6,by rw [et6,List.length_map],?_⟩
  conv=>whnf
  unfold Src.Valid.l0 at h1
  refine LoopB.of (σ:=Int) (ρ:=Bool) (fun v:Int=>Src.Valid.s0 l0 t6 v) (fun v=>(⟨35,[(0,.vs 3 (l0.map (api.Line.enc))),(5,.vs 3 (l0.map (api.Line.enc))),(6,.lit (.int .i64 t6)),(7,.lit (.int .i64 v))],[]⟩:St)) 0 h1 (BackS.by rfl (Sees.e ⟨.s,.s,.s,.s,trivial⟩)) ?_
  clear h1
  rintro K1 t7 x1 hs0_0 hl1 hr1
  replace hs0_0:Src.Valid.s0 l0 t6 t7 = some x1:=hs0_0
  unfold Src.Valid.s0 at hs0_0
  change bwp _ _ _ _ _ (⟨35,[(0,.vs 3 (l0.map (api.Line.enc))),(5,.vs 3 (l0.map (api.Line.enc))),(6,.lit (.int .i64 t6)),(7,.lit (.int .i64 t7))],[]⟩:St)
  obtain ⟨t8,et8,hs0_1⟩:=letk_elim hs0_0; clear hs0_0
  conv=>whnf
  refine Nm.mk ⟨t8,et8,?_⟩
  rcases t8 with _ | _
  · have hs0_2:=bif_f hs0_1
    clear hs0_1
    obtain ⟨yhs0_2_0,hs0_2u,ehs0_2_0⟩:=map_elim hs0_2
    have ehs0_2_0:=(hr1 _ ehs0_2_0.symm).symm
    subst ehs0_2_0
    obtain ⟨t33,et33,hs0_2u0⟩:=letk_elim hs0_2u; clear hs0_2u
    conv=>whnf
    refine Nm.mk ⟨t33,by rw [et33,List.length_map],?_⟩
    obtain ⟨t34,et34,hs0_2u1⟩:=letk_elim hs0_2u0; clear hs0_2u0
    conv=>whnf
    refine Nm.mk ⟨t34,et34,?_⟩
    have ehs0_2u1_0:=Option.some.inj hs0_2u1
    subst ehs0_2u1_0
    conv=>whnf
    exact Returns.pure (r:=.lit (.bool t34)) rfl rfl rfl rfl ⟨rfl,rfl⟩
  have hs0_2:=bif_t hs0_1
  clear hs0_1
  obtain ⟨chs0_3,hs0_3⟩:=chk_elim hs0_2; clear hs0_2
  obtain ⟨t9,et9,hs0_4⟩:=bind_elim hs0_3; clear hs0_3
  conv=>whnf
  refine Side.mk chs0_3 ?_
  conv=>whnf
  refine At.by et9 ?_
  conv=>whnf
  refine Nm.mk ⟨[.lit (.int .i64 0),.lit (.string (⟨#[]⟩)),.lit (.int .i64 0)],rfl,?_⟩
  conv=>whnf
  refine Nm.mk ⟨[.lit (.int .i64 t9.Label),.lit (.string t9.Text),.lit (.int .i64 t9.At)],rfl,?_⟩
  obtain ⟨t13,et13,hs0_5⟩:=letk_elim hs0_4; clear hs0_4
  conv=>whnf
  refine Nm.mk ⟨t13,et13,?_⟩
  rcases t13 with _ | _
  · have hs0_6:=bif_f hs0_5
    clear hs0_5
    obtain ⟨t17,et17,hs0_7⟩:=letk_elim hs0_6; clear hs0_6
    conv=>whnf
    refine Nm.mk ⟨t17,et17,?_⟩
    rcases t17 with _ | _
    · have hs0_8:=bif_f hs0_7
      clear hs0_7
      obtain ⟨t22,et22,hs0_9⟩:=letk_elim hs0_8; clear hs0_8
      conv=>whnf
      refine Nm.mk ⟨t22,et22,?_⟩
      obtain ⟨t23,et23,hs0_10⟩:=letk_elim hs0_9; clear hs0_9
      conv=>whnf
      refine Nm.mk ⟨t23,et23,?_⟩
      rcases t23 with _ | _
      · have hs0_11:=bif_f hs0_10
        clear hs0_10
        obtain ⟨t28,et28,hs0_12⟩:=bind_elim hs0_11; clear hs0_11
        conv=>whnf
        refine Gate.go ?_
        conv=>whnf
        refine CallN.by (v:=.lit (.bool t28)) (Src.isStatement_ok et28) rfl rfl ?_
        obtain ⟨t29,et29,hs0_13⟩:=letk_elim hs0_12; clear hs0_12
        conv=>whnf
        refine Nm.mk ⟨t29,et29,?_⟩
        rcases t29 with _ | _
        · have hs0_14:=bif_f hs0_13
          clear hs0_13
          obtain ⟨t31,et31,hs0_15⟩:=letk_elim hs0_14; clear hs0_14
          conv=>whnf
          refine Nm.mk ⟨t31,et31,?_⟩
          exact BackS.by ⟨_,hl1 _ (Option.some.inj hs0_15).symm,rfl⟩ (Sees.e ⟨.s,.s,.s,.s,trivial⟩)
        have hs0_14:=bif_t hs0_13
        clear hs0_13
        have ehs0_14_0:=hr1 _ (Option.some.inj hs0_14).symm
        subst ehs0_14_0
        conv=>whnf
        exact Returns.pure (r:=.lit (.bool false)) rfl rfl rfl rfl ⟨rfl,rfl⟩
      have hs0_11:=bif_t hs0_10
      clear hs0_10
      have ehs0_11_0:=hr1 _ (Option.some.inj hs0_11).symm
      subst ehs0_11_0
      conv=>whnf
      exact Returns.pure (r:=.lit (.bool false)) rfl rfl rfl rfl ⟨rfl,rfl⟩
    have hs0_8:=bif_t hs0_7
    clear hs0_7
    have ehs0_8_0:=hr1 _ (Option.some.inj hs0_8).symm
    subst ehs0_8_0
    conv=>whnf
    exact Returns.pure (r:=.lit (.bool false)) rfl rfl rfl rfl ⟨rfl,rfl⟩
  have hs0_6:=bif_t hs0_5
  clear hs0_5
  have ehs0_6_0:=hr1 _ (Option.some.inj hs0_6).symm
  subst ehs0_6_0
  conv=>whnf
  exact Returns.pure (r:=.lit (.bool false)) rfl rfl rfl rfl ⟨rfl,rfl⟩
end Go.Q
