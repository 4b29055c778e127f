import Derived.Test.YtognkiddigibnaaGreatDoorLGE
import Derived.Test.YtognkiddigibnaaGreatDoorFX
import Derived.Test.YtognkiddigibnaaGreatDoorFY
import Derived.Test.YtognkiddigibnaaGreatDoorProg
namespace Go.Q
open Go Go.Proofs
set_option maxRecDepth 10000
set_option maxHeartbeats 2000000
noncomputable def Ref7.Bytes (kind0:Int):Option Int :=
  letk (kind0 == (3:Int)) fun t5 =>
  bif t5 then
    some 4
  else
    letk (kind0 == (4:Int)) fun t7 =>
    bif t7 then
      some 8
    else
      some 0
theorem Ref7.Bytes_ok {kind0:Int} {r:Int} (h0:Ref7.Bytes kind0 = some r):Gives Tryz.prog 55 [.lit (.int .i64 kind0)] (.lit (.int .i64 r)):=by
  unfold Ref7.Bytes at h0
  refine ACalls.of_swp Tryz.func55 rfl (by decide) rfl (st0:=⟨8,[(0,.lit (.int .i64 kind0))],[]⟩) rfl (bwp_ok (C:=[]) ?_)
  obtain ⟨t5,et5,h1⟩:=letk_elim h0; clear h0
  conv=>whnf
  refine Nm.mk ⟨t5,et5,?_⟩
  rcases t5 with _ | _
  · have h2:=bif_f h1
    clear h1
    obtain ⟨t7,et7,h3⟩:=letk_elim h2; clear h2
    conv=>whnf
    refine Nm.mk ⟨t7,et7,?_⟩
    rcases t7 with _ | _
    · have h4:=bif_f h3
      clear h3
      have eh4_0:=Option.some.inj h4
      subst eh4_0
      conv=>whnf
      exact Returns.pure (r:=.lit (.int .i64 0)) rfl rfl rfl rfl ⟨rfl,rfl⟩
    have h4:=bif_t h3
    clear h3
    have eh4_0:=Option.some.inj h4
    subst eh4_0
    conv=>whnf
    exact Returns.pure (r:=.lit (.int .i64 8)) rfl rfl rfl rfl ⟨rfl,rfl⟩
  have h2:=bif_t h1
  clear h1
  have eh2_0:=Option.some.inj h2
  subst eh2_0
  conv=>whnf
  exact Returns.pure (r:=.lit (.int .i64 4)) rfl rfl rfl rfl ⟨rfl,rfl⟩
noncomputable def Ref1.Valid (kind0:Int) (a1:Int):Option Bool :=
  letk (kind0 == (2:Int)) fun t7 =>
  bif t7 then
    letk (decide (a1 ≥ (0:Int))) fun t9 =>
    bif t9 then
      letk (decide (a1 < (65536:Int))) fun t12 =>
      some t12
    else
      some false
  else
    letk (kind0 == (4:Int)) fun t15 =>
    bif t15 then
      letk (decide (a1 ≥ (0:Int))) fun t17 =>
      bif t17 then
        letk (decide (a1 < (4294967296:Int))) fun t20 =>
        some t20
      else
        some false
    else
      letk (kind0 == (8:Int)) fun t23 =>
      some t23
theorem Ref1.Valid_ok {kind0:Int} {a1:Int} {r:Bool} (h0:Ref1.Valid kind0 a1 = some r):Gives Tryz.prog 80 [.lit (.int .i64 kind0),.lit (.int .i64 a1)] (.lit (.bool r)):=by
  unfold Ref1.Valid at h0
  refine ACalls.of_swp Tryz.func80 rfl (by decide) rfl (st0:=⟨24,[(0,.lit (.int .i64 kind0)),(1,.lit (.int .i64 a1))],[]⟩) rfl (bwp_ok (C:=[]) ?_)
  obtain ⟨t7,et7,h1⟩:=letk_elim h0; clear h0
  conv=>whnf
  refine Nm.mk ⟨t7,et7,?_⟩
  rcases t7 with _ | _
  · have h2:=bif_f h1
    clear h1
    obtain ⟨t15,et15,h3⟩:=letk_elim h2; clear h2
    conv=>whnf
    refine Nm.mk ⟨t15,et15,?_⟩
    rcases t15 with _ | _
    · have h4:=bif_f h3
      clear h3
      obtain ⟨t23,et23,h5⟩:=letk_elim h4; clear h4
      conv=>whnf
      refine Nm.mk ⟨t23,et23,?_⟩
      have eh5_0:=Option.some.inj h5
      subst eh5_0
      conv=>whnf
      exact Returns.pure (r:=.lit (.bool t23)) rfl rfl rfl rfl ⟨rfl,rfl⟩
    have h4:=bif_t h3
    clear h3
    obtain ⟨t17,et17,h5⟩:=letk_elim h4; clear h4
    conv=>whnf
    refine Nm.mk ⟨t17,et17,?_⟩
    rcases t17 with _ | _
    · have h6:=bif_f h5
      clear h5
      have eh6_0:=Option.some.inj h6
      subst eh6_0
      conv=>whnf
      exact Returns.pure (r:=.lit (.bool false)) rfl rfl rfl rfl ⟨rfl,rfl⟩
    have h6:=bif_t h5
    clear h5
    obtain ⟨t20,et20,h7⟩:=letk_elim h6; clear h6
    conv=>whnf
    refine Nm.mk ⟨t20,et20,?_⟩
    have eh7_0:=Option.some.inj h7
    subst eh7_0
    conv=>whnf
    exact Returns.pure (r:=.lit (.bool t20)) rfl rfl rfl rfl ⟨rfl,rfl⟩
  have h2:=bif_t h1
  clear h1
  obtain ⟨t9,et9,h3⟩:=letk_elim h2; clear h2
  conv=>whnf
  refine Nm.mk ⟨t9,et9,?_⟩
  rcases t9 with _ | _
  · have h4:=bif_f h3
    clear h3
    have eh4_0:=Option.some.inj h4
    subst eh4_0
    conv=>whnf
    exact Returns.pure (r:=.lit (.bool false)) rfl rfl rfl rfl ⟨rfl,rfl⟩
  have h4:=bif_t h3
  clear h3
  obtain ⟨t12,et12,h5⟩:=letk_elim h4; clear h4
  conv=>whnf
  refine Nm.mk ⟨t12,et12,?_⟩
  have eh5_0:=Option.some.inj h5
  subst eh5_0
  conv=>whnf
  exact Returns.pure (r:=.lit (.bool t12)) rfl rfl rfl rfl ⟨rfl,rfl⟩
noncomputable def Ref7.IsValue (v0:api.Value):Option Bool :=
  letk (v0.Kind == (1:Int)) fun t6 =>
  bif t6 then
    letk (decide (v0.N ≥ ((-2147483647):Int))) fun t9 =>
    bif t9 then
      letk (decide (v0.N ≤ (2147483647:Int))) fun t13 =>
      some t13
    else
      some false
  else
    letk (v0.Kind == (2:Int)) fun t16 =>
    bif t16 then
      letk (v0.N == (0:Int)) fun t19 =>
      bif t19 then
        some true
      else
        letk (v0.N == (1:Int)) fun t23 =>
        some t23
    else
      Option.bind (Ref7.Bytes v0.Kind) fun t27 =>
      letk (decide (t27 > (0:Int))) fun t28 =>
      bif t28 then
        Option.bind (Ref7.Bytes v0.Kind) fun t32 =>
        Option.bind (Ref1.Valid t32 v0.N) fun t35 =>
        some t35
      else
        some false
theorem Ref7.IsValue_ok {v0:api.Value} {r:Bool} (h0:Ref7.IsValue v0 = some r):Gives Tryz.prog 43 [api.Value.enc v0] (.lit (.bool r)):=by
  unfold Ref7.IsValue at h0
  refine ACalls.of_swp Tryz.func43 rfl (by decide) rfl (st0:=⟨37,[(0,api.Value.enc v0)],[]⟩) rfl (bwp_ok (C:=[]) ?_)
  conv=>whnf
  refine Nm.mk ⟨[.lit (.int .i64 v0.Kind),.lit (.int .i64 v0.N)],rfl,?_⟩
  obtain ⟨t6,et6,h1⟩:=letk_elim h0; clear h0
  conv=>whnf
  refine Nm.mk ⟨t6,et6,?_⟩
  rcases t6 with _ | _
  · have h2:=bif_f h1
    clear h1
    obtain ⟨t16,et16,h3⟩:=letk_elim h2; clear h2
    conv=>whnf
    refine Nm.mk ⟨t16,et16,?_⟩
    rcases t16 with _ | _
    · have h4:=bif_f h3
      clear h3
      conv=>whnf
      refine DrawB.sees (Sees.of (Weak.objs (k:=37) (keep:=[0]) (frz:=[]) (m:=0) (ts:=[(1,.ptr 0 0)]) (hs:=[.box [.lit (.int .i64 v0.Kind),.lit (.int .i64 v0.N)]]) rfl (by decide) rfl rfl ⟨⟨_,rfl,WO.refl rfl⟩,⟨rfl,fun _ h=>by cases h⟩⟩ ⟨(.ptr _ _ 0 rfl),trivial⟩)) ?_
      refine DrawB.ofG [none,none,none,none,none,some 29,some 29,some 29,some 29,some 29,some 29,none,none] Tryz_mixed (by kernel_rfl) (by kernel_rfl) ?_
      conv=>whnf
      refine DNodeB.of (.ptr 0 0) ?_ ?_
      · conv=>whnf
        rfl
      conv=>whnf
      refine DNodeB.of (.lit (.int .i64 v0.Kind)) ?_ ?_
      · conv=>whnf
        rfl
      obtain ⟨t27,et27,h5⟩:=bind_elim h4; clear h4
      conv=>whnf
      refine DNodeB.of (.lit (.int .i64 t27)) ?_ ?_
      · conv=>whnf
        refine CallN.by (v:=.lit (.int .i64 t27)) (Ref7.Bytes_ok et27) rfl rfl ?_
        conv=>whnf
        rfl
      obtain ⟨t28,et28,h6⟩:=letk_elim h5; clear h5
      conv=>whnf
      refine DNodeB.of (.lit (.bool t28)) ?_ ?_
      · conv=>whnf
        refine Nm.mk ⟨t28,et28,?_⟩
        conv=>whnf
        rfl
      conv=>whnf
      refine DNodeB.of (.lit (.bool t28)) ?_ ?_
      · conv=>whnf
        rfl
      rcases t28 with _ | _
      · have h7:=bif_f h6
        clear h6
        conv=>whnf
        refine DNodeB.of (.lit (.bool false)) ?_ ?_
        · conv=>whnf
          rfl
        conv=>whnf
        refine DNodeB.of (.lit (.bool false)) ?_ ?_
        · conv=>whnf
          rfl
        have eh7_0:=Option.some.inj h7
        subst eh7_0
        conv=>whnf
        exact Returns.pure (r:=.lit (.bool false)) rfl rfl rfl rfl ⟨rfl,rfl⟩
      have h7:=bif_t h6
      clear h6
      conv=>whnf
      refine DNodeB.of (.ptr 0 0) ?_ ?_
      · conv=>whnf
        rfl
      conv=>whnf
      refine DNodeB.of (.lit (.int .i64 v0.Kind)) ?_ ?_
      · conv=>whnf
        rfl
      obtain ⟨t32,et32,h8⟩:=bind_elim h7; clear h7
      conv=>whnf
      refine DNodeB.of (.lit (.int .i64 t32)) ?_ ?_
      · conv=>whnf
        refine CallN.by (v:=.lit (.int .i64 t32)) (Ref7.Bytes_ok et32) rfl rfl ?_
        conv=>whnf
        rfl
      conv=>whnf
      refine DNodeB.of (.ptr 0 1) ?_ ?_
      · conv=>whnf
        rfl
      conv=>whnf
      refine DNodeB.of (.lit (.int .i64 v0.N)) ?_ ?_
      · conv=>whnf
        rfl
      obtain ⟨t35,et35,h9⟩:=bind_elim h8; clear h8
      conv=>whnf
      refine DNodeB.of (.lit (.bool t35)) ?_ ?_
      · conv=>whnf
        refine CallN.by (v:=.lit (.bool t35)) (Ref1.Valid_ok et35) rfl rfl ?_
        conv=>whnf
        rfl
      conv=>whnf
      refine DNodeB.of (.lit (.bool t35)) ?_ ?_
      · conv=>whnf
        rfl
      conv=>whnf
      refine DNodeB.of (.lit (.bool t35)) ?_ ?_
      · conv=>whnf
        rfl
      have eh9_0:=Option.some.inj h9
      subst eh9_0
      conv=>whnf
      exact Returns.pure (r:=.lit (.bool t35)) rfl rfl rfl rfl ⟨rfl,rfl⟩
    have h4:=bif_t h3
    clear h3
    obtain ⟨t19,et19,h5⟩:=letk_elim h4; clear h4
    conv=>whnf
    refine Nm.mk ⟨t19,et19,?_⟩
    rcases t19 with _ | _
    · have h6:=bif_f h5
      clear h5
      obtain ⟨t23,et23,h7⟩:=letk_elim h6; clear h6
      conv=>whnf
      refine Nm.mk ⟨t23,et23,?_⟩
      have eh7_0:=Option.some.inj h7
      subst eh7_0
      conv=>whnf
      exact Returns.pure (r:=.lit (.bool t23)) rfl rfl rfl rfl ⟨rfl,rfl⟩
    have h6:=bif_t h5
    clear h5
    have eh6_0:=Option.some.inj h6
    subst eh6_0
    conv=>whnf
    exact Returns.pure (r:=.lit (.bool true)) rfl rfl rfl rfl ⟨rfl,rfl⟩
  have h2:=bif_t h1
  clear h1
  obtain ⟨t9,et9,h3⟩:=letk_elim h2; clear h2
  conv=>whnf
  refine Nm.mk ⟨t9,et9,?_⟩
  rcases t9 with _ | _
  · have h4:=bif_f h3
    clear h3
    have eh4_0:=Option.some.inj h4
    subst eh4_0
    conv=>whnf
    exact Returns.pure (r:=.lit (.bool false)) rfl rfl rfl rfl ⟨rfl,rfl⟩
  have h4:=bif_t h3
  clear h3
  obtain ⟨t13,et13,h5⟩:=letk_elim h4; clear h4
  conv=>whnf
  refine Nm.mk ⟨t13,et13,?_⟩
  have eh5_0:=Option.some.inj h5
  subst eh5_0
  conv=>whnf
  exact Returns.pure (r:=.lit (.bool t13)) rfl rfl rfl rfl ⟨rfl,rfl⟩
noncomputable def Ref15.AreValues.s0 (l0:List api.Value) (i3:Int):Option (Int ⊕ Bool) :=
  letk ((l0.length:Int)) fun t6 =>
  letk (decide (i3 < t6)) fun t7 =>
  bif t7 then
    chk (0 ≤ i3) <|
    Option.bind (l0[i3.toNat]?) fun t12 =>
    Option.bind (Ref7.IsValue t12) fun t14 =>
    letk (!t14) fun t15 =>
    bif t15 then
      some (.inr false)
    else
      letk (IntKind.i64.wrap (i3 + (1:Int))) fun t9 =>
      some (.inl t9)
  else
    ((
    letk ((l0.length:Int)) fun t17 =>
    letk (decide (t17 ≤ (500:Int))) fun t18 =>
    some t18)).map .inr
noncomputable def Ref15.AreValues.l0 (l0:List api.Value) (i3:Int):Option Bool:=loopO (fun v:Int=>Ref15.AreValues.s0 l0 v) i3
noncomputable def Ref15.AreValues (l0:List api.Value):Option Bool :=
  Ref15.AreValues.l0 l0 0
theorem Ref15.AreValues_ok {l0:List api.Value} {r:Bool} (h0:Ref15.AreValues l0 = some r):Gives Tryz.prog 16 [.vs 2 (l0.map (api.Value.enc))] (.lit (.bool r)):=by
  unfold Ref15.AreValues at h0
  refine ACalls.of_swp Tryz.func16 rfl (by decide) rfl (st0:=⟨19,[(0,.vs 2 (l0.map (api.Value.enc)))],[]⟩) rfl (bwp_ok (C:=[]) ?_)
  conv=>whnf
  unfold Ref15.AreValues.l0 at h0
  refine LoopB.of (σ:=Int) (ρ:=Bool) (fun v:Int=>Ref15.AreValues.s0 l0 v) (fun v=>(⟨19,[(0,.vs 2 (l0.map (api.Value.enc))),(3,.lit (.int .i64 v))],[]⟩:St)) 0 h0 (BackS.by rfl (Sees.e ⟨.s,.s,trivial⟩)) ?_
  clear h0
  rintro K1 i3 x1 hs0_0 hl1 hr1
  replace hs0_0:Ref15.AreValues.s0 l0 i3 = some x1:=hs0_0
  unfold Ref15.AreValues.s0 at hs0_0
  change bwp _ _ _ _ _ (⟨19,[(0,.vs 2 (l0.map (api.Value.enc))),(3,.lit (.int .i64 i3))],[]⟩:St)
  obtain ⟨t6,et6,hs0_1⟩:=letk_elim hs0_0; clear hs0_0
  conv=>whnf
  refine Nm.mk ⟨t6,by rw [et6,List.length_map],?_⟩
  obtain ⟨t7,et7,hs0_2⟩:=letk_elim hs0_1; clear hs0_1
  conv=>whnf
  refine Nm.mk ⟨t7,et7,?_⟩
  rcases t7 with _ | _
  · have hs0_3:=bif_f hs0_2
    clear hs0_2
    obtain ⟨yhs0_3_0,hs0_3u,ehs0_3_0⟩:=map_elim hs0_3
    have ehs0_3_0:=(hr1 _ ehs0_3_0.symm).symm
    subst ehs0_3_0
    obtain ⟨t17,et17,hs0_3u0⟩:=letk_elim hs0_3u; clear hs0_3u
    conv=>whnf
    refine Nm.mk ⟨t17,by rw [et17,List.length_map],?_⟩
    obtain ⟨t18,et18,hs0_3u1⟩:=letk_elim hs0_3u0; clear hs0_3u0
    conv=>whnf
    refine Nm.mk ⟨t18,et18,?_⟩
    have ehs0_3u1_0:=Option.some.inj hs0_3u1
    subst ehs0_3u1_0
    conv=>whnf
    exact Returns.pure (r:=.lit (.bool t18)) rfl rfl rfl rfl ⟨rfl,rfl⟩
  have hs0_3:=bif_t hs0_2
  clear hs0_2
  obtain ⟨chs0_4,hs0_4⟩:=chk_elim hs0_3; clear hs0_3
  obtain ⟨t12,et12,hs0_5⟩:=bind_elim hs0_4; clear hs0_4
  conv=>whnf
  refine Side.mk chs0_4 ?_
  conv=>whnf
  refine At.by et12 ?_
  obtain ⟨t14,et14,hs0_6⟩:=bind_elim hs0_5; clear hs0_5
  conv=>whnf
  refine Gate.go ?_
  conv=>whnf
  refine CallN.by (v:=.lit (.bool t14)) (Ref7.IsValue_ok et14) rfl rfl ?_
  obtain ⟨t15,et15,hs0_7⟩:=letk_elim hs0_6; clear hs0_6
  conv=>whnf
  refine Nm.mk ⟨t15,et15,?_⟩
  rcases t15 with _ | _
  · have hs0_8:=bif_f hs0_7
    clear hs0_7
    obtain ⟨t9,et9,hs0_9⟩:=letk_elim hs0_8; clear hs0_8
    conv=>whnf
    refine Nm.mk ⟨t9,et9,?_⟩
    exact BackS.by ⟨_,hl1 _ (Option.some.inj hs0_9).symm,rfl⟩ (Sees.e ⟨.s,.s,trivial⟩)
  have hs0_8:=bif_t hs0_7
  clear hs0_7
  have ehs0_8_0:=hr1 _ (Option.some.inj hs0_8).symm
  subst ehs0_8_0
  conv=>whnf
  exact Returns.pure (r:=.lit (.bool false)) rfl rfl rfl rfl ⟨rfl,rfl⟩
noncomputable def Slcs.IndexFunc___quadrat_api.Value_quadrat_api.Value_.s0 (s0:List api.Value) (t7:Int) (f1:api.Value → Option Bool) (t8:Int):Option (Int ⊕ Int) :=
  letk (decide (t8 < t7)) fun t9 =>
  bif t9 then
    chk (0 ≤ t8) <|
    Option.bind (s0[t8.toNat]?) fun t14 =>
    Option.bind (f1 t14) fun t16 =>
    bif t16 then
      some (.inr t8)
    else
      letk (IntKind.i64.wrap (t8 + (1:Int))) fun t18 =>
      some (.inl t18)
  else
    some (.inr (-1))
noncomputable def Slcs.IndexFunc___quadrat_api.Value_quadrat_api.Value_.l0 (s0:List api.Value) (t7:Int) (f1:api.Value → Option Bool) (t8:Int):Option Int:=loopO (fun v:Int=>Slcs.IndexFunc___quadrat_api.Value_quadrat_api.Value_.s0 s0 t7 f1 v) t8
noncomputable def Slcs.IndexFunc___quadrat_api.Value_quadrat_api.Value_ (s0:List api.Value) (f1:api.Value → Option Bool):Option Int :=
  letk ((s0.length:Int)) fun t7 =>
  Slcs.IndexFunc___quadrat_api.Value_quadrat_api.Value_.l0 s0 t7 f1 0
theorem Slcs.IndexFunc___quadrat_api.Value_quadrat_api.Value__ok {s0:List api.Value} {f1:api.Value → Option Bool} {r:Int} {f1g:Nat} {f1gc:List AV} (hf1gc:f1gc.all pureQ.pureQ0 = true) (hf1:∀ a0 r,f1 a0 = some r → Gives Tryz.prog f1g ([api.Value.enc a0] ++ f1gc) (.lit (.bool r))) (h0:Slcs.IndexFunc___quadrat_api.Value_quadrat_api.Value_ s0 f1 = some r):Gives Tryz.prog 110 [.vs 2 (s0.map (api.Value.enc)),.fn (.func f1g) [] f1gc] (.lit (.int .i64 r)):=by
  unfold Slcs.IndexFunc___quadrat_api.Value_quadrat_api.Value_ at h0
  refine ACalls.of_swp Tryz.func110 rfl (by decide) rfl (st0:=⟨19,[(0,.vs 2 (s0.map (api.Value.enc))),(1,.fn (.func f1g) [] f1gc)],[]⟩) rfl (bwp_ok (C:=[]) ?_)
  obtain ⟨t7,et7,h1⟩:=letk_elim h0; clear h0
  conv=>whnf
  refine Nm.mk ⟨t7,by rw [et7,List.length_map],?_⟩
  conv=>whnf
  unfold Slcs.IndexFunc___quadrat_api.Value_quadrat_api.Value_.l0 at h1
  refine LoopB.of (σ:=Int) (ρ:=Int) (fun v:Int=>Slcs.IndexFunc___quadrat_api.Value_quadrat_api.Value_.s0 s0 t7 f1 v) (fun v=>(⟨19,[(0,.vs 2 (s0.map (api.Value.enc))),(1,.fn (.func f1g) [] f1gc),(7,.lit (.int .i64 t7)),(8,.lit (.int .i64 v))],[]⟩:St)) 0 h1 (BackS.by rfl (Sees.e ⟨.s,(.same _ (fnq hf1gc)),.s,.s,trivial⟩)) ?_
  clear h1
  rintro K1 t8 x1 hs0_0 hl1 hr1
  replace hs0_0:Slcs.IndexFunc___quadrat_api.Value_quadrat_api.Value_.s0 s0 t7 f1 t8 = some x1:=hs0_0
  unfold Slcs.IndexFunc___quadrat_api.Value_quadrat_api.Value_.s0 at hs0_0
  change bwp _ _ _ _ _ (⟨19,[(0,.vs 2 (s0.map (api.Value.enc))),(1,.fn (.func f1g) [] f1gc),(7,.lit (.int .i64 t7)),(8,.lit (.int .i64 t8))],[]⟩:St)
  obtain ⟨t9,et9,hs0_1⟩:=letk_elim hs0_0; clear hs0_0
  conv=>whnf
  refine Nm.mk ⟨t9,et9,?_⟩
  rcases t9 with _ | _
  · have hs0_2:=bif_f hs0_1
    clear hs0_1
    have ehs0_2u_0:=hr1 _ (Option.some.inj hs0_2).symm
    have hs0_2u:=congrArg some ehs0_2u_0
    have ehs0_2u_0:=Option.some.inj hs0_2u
    subst ehs0_2u_0
    conv=>whnf
    exact Returns.pure (r:=.lit (.int .i64 ((-1)))) rfl rfl rfl rfl ⟨rfl,rfl⟩
  have hs0_2:=bif_t hs0_1
  clear hs0_1
  obtain ⟨chs0_3,hs0_3⟩:=chk_elim hs0_2; clear hs0_2
  obtain ⟨t14,et14,hs0_4⟩:=bind_elim hs0_3; clear hs0_3
  conv=>whnf
  refine Side.mk chs0_3 ?_
  conv=>whnf
  refine At.by et14 ?_
  obtain ⟨t16,et16,hs0_5⟩:=bind_elim hs0_4; clear hs0_4
  conv=>whnf
  refine Gate.go ?_
  conv=>whnf
  refine CallN.by (v:=.lit (.bool t16)) (hf1 _ _ et16) (allq_app rfl hf1gc) rfl ?_
  rcases t16 with _ | _
  · have hs0_6:=bif_f hs0_5
    clear hs0_5
    obtain ⟨t18,et18,hs0_7⟩:=letk_elim hs0_6; clear hs0_6
    conv=>whnf
    refine Nm.mk ⟨t18,et18,?_⟩
    exact BackS.by ⟨_,hl1 _ (Option.some.inj hs0_7).symm,rfl⟩ (Sees.e ⟨.s,(.same _ (fnq hf1gc)),.s,.s,trivial⟩)
  have hs0_6:=bif_t hs0_5
  clear hs0_5
  have ehs0_6_0:=hr1 _ (Option.some.inj hs0_6).symm
  subst ehs0_6_0
  conv=>whnf
  exact Returns.pure (r:=.lit (.int .i64 t8)) rfl rfl rfl rfl ⟨rfl,rfl⟩
noncomputable def Slcs.ContainsFunc___quadrat_api.Value_quadrat_api.Value_ (s0:List api.Value) (f1:api.Value → Option Bool):Option Bool :=
  Option.bind (Slcs.IndexFunc___quadrat_api.Value_quadrat_api.Value_ s0 f1) fun t7 =>
  letk (decide (t7 ≥ (0:Int))) fun t8 =>
  some t8
theorem Slcs.ContainsFunc___quadrat_api.Value_quadrat_api.Value__ok {s0:List api.Value} {f1:api.Value → Option Bool} {r:Bool} {f1g:Nat} {f1gc:List AV} (hf1gc:f1gc.all pureQ.pureQ0 = true) (hf1:∀ a0 r,f1 a0 = some r → Gives Tryz.prog f1g ([api.Value.enc a0] ++ f1gc) (.lit (.bool r))) (h0:Slcs.ContainsFunc___quadrat_api.Value_quadrat_api.Value_ s0 f1 = some r):Gives Tryz.prog 60 [.vs 2 (s0.map (api.Value.enc)),.fn (.func f1g) [] f1gc] (.lit (.bool r)):=by
  unfold Slcs.ContainsFunc___quadrat_api.Value_quadrat_api.Value_ at h0
  refine ACalls.of_swp Tryz.func60 rfl (by decide) rfl (st0:=⟨9,[(0,.vs 2 (s0.map (api.Value.enc))),(1,.fn (.func f1g) [] f1gc)],[]⟩) rfl (bwp_ok (C:=[]) ?_)
  obtain ⟨t7,et7,h1⟩:=bind_elim h0; clear h0
  conv=>whnf
  refine Gate.go ?_
  conv=>whnf
  refine CallN.by (v:=.lit (.int .i64 t7)) (Slcs.IndexFunc___quadrat_api.Value_quadrat_api.Value__ok hf1gc (fun _ r h=>hf1 _ r h) et7) (allq_cons rfl (allq_cons (fnq hf1gc) rfl)) rfl ?_
  obtain ⟨t8,et8,h2⟩:=letk_elim h1; clear h1
  conv=>whnf
  refine Nm.mk ⟨t8,et8,?_⟩
  have eh2_0:=Option.some.inj h2
  subst eh2_0
  conv=>whnf
  exact Returns.pure (r:=.lit (.bool t8)) rfl rfl rfl rfl ⟨rfl,rfl⟩
noncomputable def Arr.bytes (kind0:Int):Option Int :=
  letk (kind0 == (3:Int)) fun t5 =>
  bif t5 then
    some 4
  else
    letk (kind0 == (4:Int)) fun t7 =>
    bif t7 then
      some 8
    else
      some 0
theorem Arr.bytes_ok {kind0:Int} {r:Int} (h0:Arr.bytes kind0 = some r):Gives Tryz.prog 99 [.lit (.int .i64 kind0)] (.lit (.int .i64 r)):=by
  unfold Arr.bytes at h0
  refine ACalls.of_swp Tryz.func99 rfl (by decide) rfl (st0:=⟨8,[(0,.lit (.int .i64 kind0))],[]⟩) rfl (bwp_ok (C:=[]) ?_)
  obtain ⟨t5,et5,h1⟩:=letk_elim h0; clear h0
  conv=>whnf
  refine Nm.mk ⟨t5,et5,?_⟩
  rcases t5 with _ | _
  · have h2:=bif_f h1
    clear h1
    obtain ⟨t7,et7,h3⟩:=letk_elim h2; clear h2
    conv=>whnf
    refine Nm.mk ⟨t7,et7,?_⟩
    rcases t7 with _ | _
    · have h4:=bif_f h3
      clear h3
      have eh4_0:=Option.some.inj h4
      subst eh4_0
      conv=>whnf
      exact Returns.pure (r:=.lit (.int .i64 0)) rfl rfl rfl rfl ⟨rfl,rfl⟩
    have h4:=bif_t h3
    clear h3
    have eh4_0:=Option.some.inj h4
    subst eh4_0
    conv=>whnf
    exact Returns.pure (r:=.lit (.int .i64 8)) rfl rfl rfl rfl ⟨rfl,rfl⟩
  have h2:=bif_t h1
  clear h1
  have eh2_0:=Option.some.inj h2
  subst eh2_0
  conv=>whnf
  exact Returns.pure (r:=.lit (.int .i64 4)) rfl rfl rfl rfl ⟨rfl,rfl⟩
noncomputable def Flt.of (kind0:Int):Option (float.shape × Bool) :=
  letk (kind0 == (2:Int)) fun t6 =>
  bif t6 then
    some ((⟨11,5⟩:float.shape),true)
  else
    letk (kind0 == (4:Int)) fun t9 =>
    bif t9 then
      some ((⟨24,8⟩:float.shape),true)
    else
      letk (kind0 == (8:Int)) fun t12 =>
      bif t12 then
        some ((⟨53,11⟩:float.shape),true)
      else
        some ((⟨0,0⟩:float.shape),false)
theorem Flt.of_ok {kind0:Int} {r:float.shape × Bool} (h0:Flt.of kind0 = some r):Gives Tryz.prog 207 [.lit (.int .i64 kind0)] (.tup [float.shape.enc r.1,.lit (.bool r.2)]):=by
  unfold Flt.of at h0
  refine ACalls.of_swp Tryz.func207 rfl (by decide) rfl (st0:=⟨15,[(0,.lit (.int .i64 kind0))],[]⟩) rfl (bwp_ok (C:=[]) ?_)
  conv=>whnf
  refine Nm.mk ⟨[.lit (.int .i64 0),.lit (.int .i64 0)],rfl,?_⟩
  obtain ⟨t6,et6,h1⟩:=letk_elim h0; clear h0
  conv=>whnf
  refine Nm.mk ⟨t6,et6,?_⟩
  rcases t6 with _ | _
  · have h2:=bif_f h1
    clear h1
    obtain ⟨t9,et9,h3⟩:=letk_elim h2; clear h2
    conv=>whnf
    refine Nm.mk ⟨t9,et9,?_⟩
    rcases t9 with _ | _
    · have h4:=bif_f h3
      clear h3
      obtain ⟨t12,et12,h5⟩:=letk_elim h4; clear h4
      conv=>whnf
      refine Nm.mk ⟨t12,et12,?_⟩
      rcases t12 with _ | _
      · have h6:=bif_f h5
        clear h5
        conv=>whnf
        refine Gate.go ?_
        conv=>whnf
        refine Nm.mk ⟨[.lit (.int .i64 0),.lit (.int .i64 0)],rfl,?_⟩
        conv=>whnf
        refine Nm.mk ⟨[.lit (.int .i64 0),.lit (.int .i64 0)],rfl,?_⟩
        have eh6_0:=Option.some.inj h6
        subst eh6_0
        conv=>whnf
        exact Returns.pure (r:=.tup [float.shape.enc ((⟨0,0⟩:float.shape)),.lit (.bool false)]) rfl rfl rfl rfl ⟨rfl,rfl⟩
      have h6:=bif_t h5
      clear h5
      conv=>whnf
      refine Gate.go ?_
      conv=>whnf
      refine Nm.mk ⟨[.lit (.int .i64 53),.lit (.int .i64 11)],rfl,?_⟩
      conv=>whnf
      refine Nm.mk ⟨[.lit (.int .i64 53),.lit (.int .i64 11)],rfl,?_⟩
      have eh6_0:=Option.some.inj h6
      subst eh6_0
      conv=>whnf
      exact Returns.pure (r:=.tup [float.shape.enc ((⟨53,11⟩:float.shape)),.lit (.bool true)]) rfl rfl rfl rfl ⟨rfl,rfl⟩
    have h4:=bif_t h3
    clear h3
    conv=>whnf
    refine Gate.go ?_
    conv=>whnf
    refine Nm.mk ⟨[.lit (.int .i64 24),.lit (.int .i64 8)],rfl,?_⟩
    conv=>whnf
    refine Nm.mk ⟨[.lit (.int .i64 24),.lit (.int .i64 8)],rfl,?_⟩
    have eh4_0:=Option.some.inj h4
    subst eh4_0
    conv=>whnf
    exact Returns.pure (r:=.tup [float.shape.enc ((⟨24,8⟩:float.shape)),.lit (.bool true)]) rfl rfl rfl rfl ⟨rfl,rfl⟩
  have h2:=bif_t h1
  clear h1
  conv=>whnf
  refine Gate.go ?_
  conv=>whnf
  refine Nm.mk ⟨[.lit (.int .i64 11),.lit (.int .i64 5)],rfl,?_⟩
  conv=>whnf
  refine Nm.mk ⟨[.lit (.int .i64 11),.lit (.int .i64 5)],rfl,?_⟩
  have eh2_0:=Option.some.inj h2
  subst eh2_0
  conv=>whnf
  exact Returns.pure (r:=.tup [float.shape.enc ((⟨11,5⟩:float.shape)),.lit (.bool true)]) rfl rfl rfl rfl ⟨rfl,rfl⟩
noncomputable def Flt.shape.top (s0:float.shape):Option Int :=
  chk (0 ≤ s0.w) <|
  letk (IntKind.u64.wrap ((1:Int) * 2 ^ (min s0.w.toNat (IntKind.u64).bits))) fun t5 =>
  letk (IntKind.u64.wrap (t5 - (1:Int))) fun t6 =>
  some t6
theorem Flt.shape.top_ok {s0:float.shape} {r:Int} (h0:Flt.shape.top s0 = some r):Gives Tryz.prog 251 [float.shape.enc s0] (.lit (.int .u64 r)):=by
  unfold Flt.shape.top at h0
  refine ACalls.of_swp Tryz.func251 rfl (by decide) rfl (st0:=⟨7,[(0,float.shape.enc s0)],[]⟩) rfl (bwp_ok (C:=[]) ?_)
  conv=>whnf
  refine Nm.mk ⟨[.lit (.int .i64 s0.p),.lit (.int .i64 s0.w)],rfl,?_⟩
  obtain ⟨ch1,h1⟩:=chk_elim h0; clear h0
  obtain ⟨t5,et5,h2⟩:=letk_elim h1; clear h1
  conv=>whnf
  refine Side.mk ch1 ?_
  conv=>whnf
  refine Nm.mk ⟨t5,et5,?_⟩
  obtain ⟨t6,et6,h3⟩:=letk_elim h2; clear h2
  conv=>whnf
  refine Nm.mk ⟨t6,et6,?_⟩
  have eh3_0:=Option.some.inj h3
  subst eh3_0
  conv=>whnf
  exact Returns.pure (r:=.lit (.int .u64 t6)) rfl rfl rfl rfl ⟨rfl,rfl⟩
noncomputable def Flt.shape.bias (s0:float.shape):Option Int :=
  letk (IntKind.i64.wrap (s0.w - (1:Int))) fun t5 =>
  chk (0 ≤ t5) <|
  letk (IntKind.i64.wrap ((1:Int) * 2 ^ (min t5.toNat (IntKind.i64).bits))) fun t6 =>
  letk (IntKind.i64.wrap (t6 - (1:Int))) fun t7 =>
  some t7
theorem Flt.shape.bias_ok {s0:float.shape} {r:Int} (h0:Flt.shape.bias s0 = some r):Gives Tryz.prog 253 [float.shape.enc s0] (.lit (.int .i64 r)):=by
  unfold Flt.shape.bias at h0
  refine ACalls.of_swp Tryz.func253 rfl (by decide) rfl (st0:=⟨8,[(0,float.shape.enc s0)],[]⟩) rfl (bwp_ok (C:=[]) ?_)
  conv=>whnf
  refine Nm.mk ⟨[.lit (.int .i64 s0.p),.lit (.int .i64 s0.w)],rfl,?_⟩
  obtain ⟨t5,et5,h1⟩:=letk_elim h0; clear h0
  conv=>whnf
  refine Nm.mk ⟨t5,et5,?_⟩
  obtain ⟨ch2,h2⟩:=chk_elim h1; clear h1
  obtain ⟨t6,et6,h3⟩:=letk_elim h2; clear h2
  conv=>whnf
  refine Side.mk ch2 ?_
  conv=>whnf
  refine Nm.mk ⟨t6,et6,?_⟩
  obtain ⟨t7,et7,h4⟩:=letk_elim h3; clear h3
  conv=>whnf
  refine Nm.mk ⟨t7,et7,?_⟩
  have eh4_0:=Option.some.inj h4
  subst eh4_0
  conv=>whnf
  exact Returns.pure (r:=.lit (.int .i64 t7)) rfl rfl rfl rfl ⟨rfl,rfl⟩
noncomputable def Flt.shape.least (s0:float.shape):Option Int :=
  Option.bind (Flt.shape.bias (⟨s0.p,s0.w⟩:float.shape)) fun t4 =>
  letk (IntKind.i64.wrap ((2:Int) - t4)) fun t5 =>
  letk (IntKind.i64.wrap (t5 - s0.p)) fun t8 =>
  some t8
theorem Flt.shape.least_ok {s0:float.shape} {r:Int} (h0:Flt.shape.least s0 = some r):Gives Tryz.prog 252 [float.shape.enc s0] (.lit (.int .i64 r)):=by
  unfold Flt.shape.least at h0
  refine ACalls.of_swp Tryz.func252 rfl (by decide) rfl (st0:=⟨9,[(0,float.shape.enc s0)],[]⟩) rfl (bwp_ok (C:=[]) ?_)
  conv=>whnf
  refine Nm.mk ⟨[.lit (.int .i64 s0.p),.lit (.int .i64 s0.w)],rfl,?_⟩
  conv=>whnf
  refine DrawB.ofG [none,none,none,none,none,none,none] Tryz_mixed (by kernel_rfl) (by kernel_rfl) ?_
  conv=>whnf
  refine DNodeB.of (.agg [.lit (.int .i64 s0.p),.lit (.int .i64 s0.w)]) ?_ ?_
  · conv=>whnf
    rfl
  obtain ⟨t4,et4,h1⟩:=bind_elim h0; clear h0
  conv=>whnf
  refine DNodeB.of (.lit (.int .i64 t4)) ?_ ?_
  · conv=>whnf
    refine CallN.by (v:=.lit (.int .i64 t4)) (Flt.shape.bias_ok et4) rfl rfl ?_
    conv=>whnf
    rfl
  obtain ⟨t5,et5,h2⟩:=letk_elim h1; clear h1
  conv=>whnf
  refine DNodeB.of (.lit (.int .i64 t5)) ?_ ?_
  · conv=>whnf
    refine Nm.mk ⟨t5,et5,?_⟩
    conv=>whnf
    rfl
  conv=>whnf
  refine DNodeB.of (.ptr 0 0) ?_ ?_
  · conv=>whnf
    rfl
  conv=>whnf
  refine DNodeB.of (.lit (.int .i64 s0.p)) ?_ ?_
  · conv=>whnf
    rfl
  obtain ⟨t8,et8,h3⟩:=letk_elim h2; clear h2
  conv=>whnf
  refine DNodeB.of (.lit (.int .i64 t8)) ?_ ?_
  · conv=>whnf
    refine Nm.mk ⟨t8,et8,?_⟩
    conv=>whnf
    rfl
  conv=>whnf
  refine DNodeB.of (.lit (.int .i64 t8)) ?_ ?_
  · conv=>whnf
    rfl
  have eh3_0:=Option.some.inj h3
  subst eh3_0
  conv=>whnf
  exact Returns.pure (r:=.lit (.int .i64 t8)) rfl rfl rfl rfl ⟨rfl,rfl⟩
noncomputable def Flt.shape.read.j2 (t41:Int) (t48:Int) (s2_0_1:Int) (s2_1_1:Int) (t4_0_1:Int) (t4_1_1:Int) (t4_2_1:Int) (t4_3_1:Int) (x8_0:Int) (x8_1:Int) (x8_2:Int) (x8_3:Int) (t83:Bool):Option (float.number × Bool) :=
  bif t83 then
    some ((⟨0,x8_1,x8_2,x8_3⟩:float.number),true)
  else
    letk (t41 == (0:Int)) fun t93 =>
    bif t93 then
      Option.bind (Flt.shape.least (⟨s2_0_1,s2_1_1⟩:float.shape)) fun t96 =>
      some ((⟨1,x8_1,t48,t96⟩:float.number),true)
    else
      letk (IntKind.i64.wrap (s2_0_1 - (1:Int))) fun t52 =>
      chk (0 ≤ t52) <|
      letk (IntKind.u64.wrap ((1:Int) * 2 ^ (min t52.toNat (IntKind.u64).bits))) fun t53 =>
      letk (IntKind.u64.wrap (BitVec.ofInt (IntKind.u64).bits t48 ||| BitVec.ofInt (IntKind.u64).bits t53).toNat) fun t54 =>
      letk (IntKind.i64.wrap t41) fun t56 =>
      Option.bind (Flt.shape.bias (⟨s2_0_1,s2_1_1⟩:float.shape)) fun t58 =>
      letk (IntKind.i64.wrap (t56 - t58)) fun t59 =>
      letk (IntKind.i64.wrap (t59 - s2_0_1)) fun t62 =>
      letk (IntKind.i64.wrap (t62 + (1:Int))) fun t63 =>
      some ((⟨1,x8_1,t54,t63⟩:float.number),true)
noncomputable def Flt.shape.read.j1 (t41:Int) (t48:Int) (s2_0_1:Int) (s2_1_1:Int) (t4_0_1:Int) (t4_1_1:Int) (t4_2_1:Int) (t4_3_1:Int) (x8_0:Int) (x8_1:Int) (x8_2:Int) (x8_3:Int) (t67:Bool):Option (float.number × Bool) :=
  bif t67 then
    some ((⟨2,x8_1,x8_2,x8_3⟩:float.number),true)
  else
    Option.bind (Flt.shape.top (⟨s2_0_1,s2_1_1⟩:float.shape)) fun t80 =>
    letk (t41 == t80) fun t81 =>
    bif t81 then
      some ((⟨3,x8_1,x8_2,x8_3⟩:float.number),true)
    else
      letk (t41 == (0:Int)) fun t85 =>
      bif t85 then
        letk (t48 == (0:Int)) fun t88 =>
        Flt.shape.read.j2 t41 t48 s2_0_1 s2_1_1 t4_0_1 t4_1_1 t4_2_1 t4_3_1 x8_0 x8_1 x8_2 x8_3 t88
      else
        Flt.shape.read.j2 t41 t48 s2_0_1 s2_1_1 t4_0_1 t4_1_1 t4_2_1 t4_3_1 x8_0 x8_1 x8_2 x8_3 false
noncomputable def Flt.shape.read.j0 (t12:Int) (t17:Int) (s2_0:Int) (s2_1:Int) (t4_0:Int) (t4_1:Int) (t4_2:Int) (t4_3:Int):Option (float.number × Bool) :=
  letk (IntKind.i64.wrap (t17 - (1:Int))) fun t29 =>
  chk (0 ≤ t29) <|
  letk ((IntKind.u64,t12.fdiv (2 ^ (min t29.toNat (IntKind.u64).bits))).2) fun t30 =>
  letk (IntKind.u64.wrap (BitVec.ofInt (IntKind.u64).bits t30 &&& BitVec.ofInt (IntKind.u64).bits (1:Int)).toNat) fun t31 =>
  letk (IntKind.i64.wrap t31) fun t32 =>
  letk (IntKind.i64.wrap (s2_0 - (1:Int))) fun t37 =>
  chk (0 ≤ t37) <|
  letk ((IntKind.u64,t12.fdiv (2 ^ (min t37.toNat (IntKind.u64).bits))).2) fun t38 =>
  Option.bind (Flt.shape.top (⟨s2_0,s2_1⟩:float.shape)) fun t40 =>
  letk (IntKind.u64.wrap (BitVec.ofInt (IntKind.u64).bits t38 &&& BitVec.ofInt (IntKind.u64).bits t40).toNat) fun t41 =>
  letk (IntKind.i64.wrap (s2_0 - (1:Int))) fun t45 =>
  chk (0 ≤ t45) <|
  letk (IntKind.u64.wrap ((1:Int) * 2 ^ (min t45.toNat (IntKind.u64).bits))) fun t46 =>
  letk (IntKind.u64.wrap (t46 - (1:Int))) fun t47 =>
  letk (IntKind.u64.wrap (BitVec.ofInt (IntKind.u64).bits t12 &&& BitVec.ofInt (IntKind.u64).bits t47).toNat) fun t48 =>
  Option.bind (Flt.shape.top (⟨s2_0,s2_1⟩:float.shape)) fun t70 =>
  letk (t41 == t70) fun t71 =>
  bif t71 then
    letk (t48 == (0:Int)) fun t74 =>
    Flt.shape.read.j1 t41 t48 s2_0 s2_1 t4_0 t4_1 t4_2 t4_3 0 t32 0 0 t74
  else
    Flt.shape.read.j1 t41 t48 s2_0 s2_1 t4_0 t4_1 t4_2 t4_3 0 t32 0 0 false
noncomputable def Flt.shape.read.j3 (s0:float.shape) (t12:Int) (t17:Int) (t25:Bool):Option (float.number × Bool) :=
  bif t25 then
    some ((⟨0,0,0,0⟩:float.number),false)
  else
    Flt.shape.read.j0 t12 t17 s0.p s0.w 0 0 0 0
noncomputable def Flt.shape.read (s0:float.shape) (a1:Int):Option (float.number × Bool) :=
  letk (IntKind.u64.wrap a1) fun t12 =>
  letk (IntKind.i64.wrap (s0.p + s0.w)) fun t17 =>
  letk (decide (t17 < (64:Int))) fun t19 =>
  bif t19 then
    chk (0 ≤ t17) <|
    letk ((IntKind.u64,t12.fdiv (2 ^ (min t17.toNat (IntKind.u64).bits))).2) fun t23 =>
    letk (t23 != (0:Int)) fun t24 =>
    Flt.shape.read.j3 s0 t12 t17 t24
  else
    Flt.shape.read.j3 s0 t12 t17 false
theorem Flt.shape.read_ok {s0:float.shape} {a1:Int} {r:float.number × Bool} (h0:Flt.shape.read s0 a1 = some r):Gives Tryz.prog 208 [float.shape.enc s0,.lit (.int .i64 a1)] (.tup [float.number.enc r.1,.lit (.bool r.2)]):=by
  unfold Flt.shape.read at h0
  refine ACalls.of_swp Tryz.func208 rfl (by decide) rfl (st0:=⟨101,[(0,float.shape.enc s0),(1,.lit (.int .i64 a1))],[]⟩) rfl (bwp_ok (C:=[(0,5),(77,19),(93,27),(35,9)]) ?_)
  conv=>whnf
  refine Nm.mk ⟨[.lit (.int .i64 s0.p),.lit (.int .i64 s0.w)],rfl,?_⟩
  conv=>whnf
  refine Nm.mk ⟨[.lit (.int .i64 0),.lit (.int .i64 0),.lit (.int .u64 0),.lit (.int .i64 0)],rfl,?_⟩
  obtain ⟨t12,et12,h1⟩:=letk_elim h0; clear h0
  conv=>whnf
  refine Nm.mk ⟨t12,et12,?_⟩
  obtain ⟨t17,et17,h2⟩:=letk_elim h1; clear h1
  conv=>whnf
  refine Nm.mk ⟨t17,et17,?_⟩
  conv=>whnf
  refine CutN.of (fun s=>∃ (s2_0:Int) (s2_1:Int) (t4_0:Int) (t4_1:Int) (t4_2:Int) (t4_3:Int),Flt.shape.read.j0 t12 t17 s2_0 s2_1 t4_0 t4_1 t4_2 t4_3 = some r ∧ s = (⟨101,[(2,.ptr 0 0),(4,.ptr 1 0),(6,.lit (.int .u64 t12)),(7,.lit (.int .i64 t17))],[.box [.lit (.int .i64 s2_0),.lit (.int .i64 s2_1)],.box [.lit (.int .i64 t4_0),.lit (.int .i64 t4_1),.lit (.int .u64 t4_2),.lit (.int .i64 t4_3)]]⟩:St)) ?_ ?_
  · conv=>whnf
    refine CutN.of (fun s=>∃ (t25:Bool),Flt.shape.read.j3 s0 t12 t17 t25 = some r ∧ s = (⟨101,[(2,.ptr 0 0),(4,.ptr 1 0),(6,.lit (.int .u64 t12)),(7,.lit (.int .i64 t17)),(25,.lit (.bool t25))],[.box [.lit (.int .i64 s0.p),.lit (.int .i64 s0.w)],.box [.lit (.int .i64 0),.lit (.int .i64 0),.lit (.int .u64 0),.lit (.int .i64 0)]]⟩:St)) ?_ ?_
    · obtain ⟨t19,et19,h3⟩:=letk_elim h2; clear h2
      conv=>whnf
      refine Nm.mk ⟨t19,et19,?_⟩
      rcases t19 with _ | _
      · have h4:=bif_f h3
        clear h3
        exact BackS.by ⟨_,h4,rfl⟩ (Sees.of (Weak.objs (keep:=[0,1]) (frz:=[]) (m:=0) rfl (by decide) rfl rfl ⟨⟨_,rfl,WO.boxs ⟨.s,.s,trivial⟩⟩,⟨⟨_,rfl,WO.boxs ⟨.s,.s,.s,.s,trivial⟩⟩,⟨rfl,fun _ h=>by cases h⟩⟩⟩ ⟨(.ptr _ _ 0 rfl),(.ptr _ _ 1 rfl),.s,.s,.s,trivial⟩))
      have h4:=bif_t h3
      clear h3
      obtain ⟨ch5,h5⟩:=chk_elim h4; clear h4
      obtain ⟨t23,et23,h6⟩:=letk_elim h5; clear h5
      conv=>whnf
      refine Side.mk ch5 ?_
      conv=>whnf
      refine Nm.mk ⟨t23,et23,?_⟩
      obtain ⟨t24,et24,h7⟩:=letk_elim h6; clear h6
      conv=>whnf
      refine Nm.mk ⟨t24,et24,?_⟩
      exact BackS.by ⟨_,h7,rfl⟩ (Sees.of (Weak.objs (keep:=[0,1]) (frz:=[]) (m:=0) rfl (by decide) rfl rfl ⟨⟨_,rfl,WO.boxs ⟨.s,.s,trivial⟩⟩,⟨⟨_,rfl,WO.boxs ⟨.s,.s,.s,.s,trivial⟩⟩,⟨rfl,fun _ h=>by cases h⟩⟩⟩ ⟨(.ptr _ _ 0 rfl),(.ptr _ _ 1 rfl),.s,.s,.s,trivial⟩))
    clear h2
    rintro s ⟨t25,hj0,rfl⟩
    unfold Flt.shape.read.j3 at hj0
    rcases t25 with _ | _
    · have hj1:=bif_f hj0
      clear hj0
      exact BackS.by ⟨_,_,_,_,_,_,hj1,rfl⟩ (Sees.of (Weak.objs (keep:=[0,1]) (frz:=[]) (m:=0) rfl (by decide) rfl rfl ⟨⟨_,rfl,WO.boxs ⟨.s,.s,trivial⟩⟩,⟨⟨_,rfl,WO.boxs ⟨.s,.s,.s,.s,trivial⟩⟩,⟨rfl,fun _ h=>by cases h⟩⟩⟩ ⟨(.ptr _ _ 0 rfl),(.ptr _ _ 1 rfl),.s,.s,trivial⟩))
    have hj1:=bif_t hj0
    clear hj0
    conv=>whnf
    refine Gate.go ?_
    conv=>whnf
    refine Nm.mk ⟨[.lit (.int .i64 0),.lit (.int .i64 0),.lit (.int .u64 0),.lit (.int .i64 0)],rfl,?_⟩
    conv=>whnf
    refine Nm.mk ⟨[.lit (.int .i64 0),.lit (.int .i64 0),.lit (.int .u64 0),.lit (.int .i64 0)],rfl,?_⟩
    have ehj1_0:=Option.some.inj hj1
    subst ehj1_0
    conv=>whnf
    exact Returns.pure (r:=.tup [float.number.enc ((⟨0,0,0,0⟩:float.number)),.lit (.bool false)]) rfl rfl rfl rfl ⟨rfl,rfl⟩
  clear h2
  rintro s ⟨s2_0,s2_1,t4_0,t4_1,t4_2,t4_3,hj0,rfl⟩
  unfold Flt.shape.read.j0 at hj0
  obtain ⟨t29,et29,hj1⟩:=letk_elim hj0; clear hj0
  conv=>whnf
  refine Nm.mk ⟨t29,et29,?_⟩
  obtain ⟨chj2,hj2⟩:=chk_elim hj1; clear hj1
  obtain ⟨t30,et30,hj3⟩:=letk_elim hj2; clear hj2
  conv=>whnf
  refine Side.mk chj2 ?_
  conv=>whnf
  refine Nm.mk ⟨t30,et30,?_⟩
  obtain ⟨t31,et31,hj4⟩:=letk_elim hj3; clear hj3
  conv=>whnf
  refine Nm.mk ⟨t31,et31,?_⟩
  obtain ⟨t32,et32,hj5⟩:=letk_elim hj4; clear hj4
  conv=>whnf
  refine Nm.mk ⟨t32,et32,?_⟩
  conv=>whnf
  refine Gate.go ?_
  conv=>whnf
  refine Nm.mk ⟨[.lit (.int .i64 0),.lit (.int .i64 t32),.lit (.int .u64 0),.lit (.int .i64 0)],rfl,?_⟩
  conv=>whnf
  refine Nm.mk ⟨[.lit (.int .i64 0),.lit (.int .i64 0),.lit (.int .u64 0),.lit (.int .i64 0)],rfl,?_⟩
  conv=>whnf
  refine Nm.mk ⟨[.lit (.int .i64 0),.lit (.int .i64 t32),.lit (.int .u64 0),.lit (.int .i64 0)],rfl,?_⟩
  conv=>whnf
  refine DrawB.sees (Sees.of (Weak.objs (k:=101) (keep:=[0,1,2]) (frz:=[]) (m:=0) (ts:=[(2,.ptr 0 0),(4,.ptr 1 0),(6,.lit (.int .u64 t12)),(8,.ptr 2 0)]) (hs:=[.box [.lit (.int .i64 s2_0),.lit (.int .i64 s2_1)],.box [.lit (.int .i64 t4_0),.lit (.int .i64 t4_1),.lit (.int .u64 t4_2),.lit (.int .i64 t4_3)],.box [.lit (.int .i64 0),.lit (.int .i64 t32),.lit (.int .u64 0),.lit (.int .i64 0)]]) rfl (by decide) rfl rfl ⟨⟨_,rfl,WO.refl rfl⟩,⟨⟨_,rfl,WO.refl rfl⟩,⟨⟨_,rfl,WO.refl rfl⟩,⟨rfl,fun _ h=>by cases h⟩⟩⟩⟩ ⟨(.ptr _ _ 0 rfl),(.ptr _ _ 1 rfl),.s,(.ptr _ _ 2 rfl),trivial⟩)) ?_
  refine DrawB.ofG [none,none,none,none,none,none,none,none,none,none,none,none,none,none,none,none,none] Tryz_mixed (by kernel_rfl) (by kernel_rfl) ?_
  conv=>whnf
  refine DNodeB.of (.lit (.int .u64 t12)) ?_ ?_
  · conv=>whnf
    rfl
  conv=>whnf
  refine DNodeB.of (.ptr 0 0) ?_ ?_
  · conv=>whnf
    rfl
  conv=>whnf
  refine DNodeB.of (.lit (.int .i64 s2_0)) ?_ ?_
  · conv=>whnf
    rfl
  obtain ⟨t37,et37,hj6⟩:=letk_elim hj5; clear hj5
  conv=>whnf
  refine DNodeB.of (.lit (.int .i64 t37)) ?_ ?_
  · conv=>whnf
    refine Nm.mk ⟨t37,et37,?_⟩
    conv=>whnf
    rfl
  obtain ⟨chj7,hj7⟩:=chk_elim hj6; clear hj6
  obtain ⟨t38,et38,hj8⟩:=letk_elim hj7; clear hj7
  conv=>whnf
  refine DNodeB.of (.lit (.int .u64 t38)) ?_ ?_
  · conv=>whnf
    refine Side.mk chj7 ?_
    conv=>whnf
    refine Nm.mk ⟨t38,et38,?_⟩
    conv=>whnf
    rfl
  conv=>whnf
  refine DNodeB.of (.agg [.lit (.int .i64 s2_0),.lit (.int .i64 s2_1)]) ?_ ?_
  · conv=>whnf
    rfl
  obtain ⟨t40,et40,hj9⟩:=bind_elim hj8; clear hj8
  conv=>whnf
  refine DNodeB.of (.lit (.int .u64 t40)) ?_ ?_
  · conv=>whnf
    refine CallN.by (v:=.lit (.int .u64 t40)) (Flt.shape.top_ok et40) rfl rfl ?_
    conv=>whnf
    rfl
  obtain ⟨t41,et41,hj10⟩:=letk_elim hj9; clear hj9
  conv=>whnf
  refine DNodeB.of (.lit (.int .u64 t41)) ?_ ?_
  · conv=>whnf
    refine Nm.mk ⟨t41,et41,?_⟩
    conv=>whnf
    rfl
  conv=>whnf
  refine DNodeB.of (.lit (.int .u64 t12)) ?_ ?_
  · conv=>whnf
    rfl
  conv=>whnf
  refine DNodeB.of (.ptr 0 0) ?_ ?_
  · conv=>whnf
    rfl
  conv=>whnf
  refine DNodeB.of (.lit (.int .i64 s2_0)) ?_ ?_
  · conv=>whnf
    rfl
  obtain ⟨t45,et45,hj11⟩:=letk_elim hj10; clear hj10
  conv=>whnf
  refine DNodeB.of (.lit (.int .i64 t45)) ?_ ?_
  · conv=>whnf
    refine Nm.mk ⟨t45,et45,?_⟩
    conv=>whnf
    rfl
  obtain ⟨chj12,hj12⟩:=chk_elim hj11; clear hj11
  obtain ⟨t46,et46,hj13⟩:=letk_elim hj12; clear hj12
  conv=>whnf
  refine DNodeB.of (.lit (.int .u64 t46)) ?_ ?_
  · conv=>whnf
    refine Side.mk chj12 ?_
    conv=>whnf
    refine Nm.mk ⟨t46,et46,?_⟩
    conv=>whnf
    rfl
  obtain ⟨t47,et47,hj14⟩:=letk_elim hj13; clear hj13
  conv=>whnf
  refine DNodeB.of (.lit (.int .u64 t47)) ?_ ?_
  · conv=>whnf
    refine Nm.mk ⟨t47,et47,?_⟩
    conv=>whnf
    rfl
  obtain ⟨t48,et48,hj15⟩:=letk_elim hj14; clear hj14
  conv=>whnf
  refine DNodeB.of (.lit (.int .u64 t48)) ?_ ?_
  · conv=>whnf
    refine Nm.mk ⟨t48,et48,?_⟩
    conv=>whnf
    rfl
  conv=>whnf
  refine DNodeB.of (.lit (.int .u64 t41)) ?_ ?_
  · conv=>whnf
    rfl
  conv=>whnf
  refine DNodeB.of (.lit (.int .u64 t48)) ?_ ?_
  · conv=>whnf
    rfl
  conv=>whnf
  refine CutN.of (fun s=>∃ (s2_0_1:Int) (s2_1_1:Int) (t4_0_1:Int) (t4_1_1:Int) (t4_2_1:Int) (t4_3_1:Int) (x8_0:Int) (x8_1:Int) (x8_2:Int) (x8_3:Int) (t67:Bool),Flt.shape.read.j1 t41 t48 s2_0_1 s2_1_1 t4_0_1 t4_1_1 t4_2_1 t4_3_1 x8_0 x8_1 x8_2 x8_3 t67 = some r ∧ s = (⟨101,[(2,.ptr 0 0),(4,.ptr 1 0),(8,.ptr 2 0),(9,.lit (.int .u64 t41)),(10,.lit (.int .u64 t48)),(67,.lit (.bool t67))],[.box [.lit (.int .i64 s2_0_1),.lit (.int .i64 s2_1_1)],.box [.lit (.int .i64 t4_0_1),.lit (.int .i64 t4_1_1),.lit (.int .u64 t4_2_1),.lit (.int .i64 t4_3_1)],.box [.lit (.int .i64 x8_0),.lit (.int .i64 x8_1),.lit (.int .u64 x8_2),.lit (.int .i64 x8_3)]]⟩:St)) ?_ ?_
  · obtain ⟨t70,et70,hj16⟩:=bind_elim hj15; clear hj15
    conv=>whnf
    refine Gate.go ?_
    conv=>whnf
    refine CallN.by (v:=.lit (.int .u64 t70)) (Flt.shape.top_ok et70) rfl rfl ?_
    obtain ⟨t71,et71,hj17⟩:=letk_elim hj16; clear hj16
    conv=>whnf
    refine Nm.mk ⟨t71,et71,?_⟩
    rcases t71 with _ | _
    · have hj18:=bif_f hj17
      clear hj17
      exact BackS.by ⟨_,_,_,_,_,_,_,_,_,_,_,hj18,rfl⟩ (Sees.of (Weak.objs (keep:=[0,1,2]) (frz:=[]) (m:=0) rfl (by decide) rfl rfl ⟨⟨_,rfl,WO.boxs ⟨.s,.s,trivial⟩⟩,⟨⟨_,rfl,WO.boxs ⟨.s,.s,.s,.s,trivial⟩⟩,⟨⟨_,rfl,WO.boxs ⟨.s,.s,.s,.s,trivial⟩⟩,⟨rfl,fun _ h=>by cases h⟩⟩⟩⟩ ⟨(.ptr _ _ 0 rfl),(.ptr _ _ 1 rfl),(.ptr _ _ 2 rfl),.s,.s,.s,trivial⟩))
    have hj18:=bif_t hj17
    clear hj17
    obtain ⟨t74,et74,hj19⟩:=letk_elim hj18; clear hj18
    conv=>whnf
    refine Nm.mk ⟨t74,et74,?_⟩
    exact BackS.by ⟨_,_,_,_,_,_,_,_,_,_,_,hj19,rfl⟩ (Sees.of (Weak.objs (keep:=[0,1,2]) (frz:=[]) (m:=0) rfl (by decide) rfl rfl ⟨⟨_,rfl,WO.boxs ⟨.s,.s,trivial⟩⟩,⟨⟨_,rfl,WO.boxs ⟨.s,.s,.s,.s,trivial⟩⟩,⟨⟨_,rfl,WO.boxs ⟨.s,.s,.s,.s,trivial⟩⟩,⟨rfl,fun _ h=>by cases h⟩⟩⟩⟩ ⟨(.ptr _ _ 0 rfl),(.ptr _ _ 1 rfl),(.ptr _ _ 2 rfl),.s,.s,.s,trivial⟩))
  clear hj15
  rintro s ⟨s2_0_1,s2_1_1,t4_0_1,t4_1_1,t4_2_1,t4_3_1,x8_0,x8_1,x8_2,x8_3,t67,hj0,rfl⟩
  unfold Flt.shape.read.j1 at hj0
  rcases t67 with _ | _
  · have hj1:=bif_f hj0
    clear hj0
    obtain ⟨t80,et80,hj2⟩:=bind_elim hj1; clear hj1
    conv=>whnf
    refine Gate.go ?_
    conv=>whnf
    refine CallN.by (v:=.lit (.int .u64 t80)) (Flt.shape.top_ok et80) rfl rfl ?_
    obtain ⟨t81,et81,hj3⟩:=letk_elim hj2; clear hj2
    conv=>whnf
    refine Nm.mk ⟨t81,et81,?_⟩
    rcases t81 with _ | _
    · have hj4:=bif_f hj3
      clear hj3
      conv=>whnf
      refine CutN.of (fun s=>∃ (t83:Bool),Flt.shape.read.j2 t41 t48 s2_0_1 s2_1_1 t4_0_1 t4_1_1 t4_2_1 t4_3_1 x8_0 x8_1 x8_2 x8_3 t83 = some r ∧ s = (⟨101,[(2,.ptr 0 0),(4,.ptr 1 0),(8,.ptr 2 0),(9,.lit (.int .u64 t41)),(10,.lit (.int .u64 t48)),(83,.lit (.bool t83))],[.box [.lit (.int .i64 s2_0_1),.lit (.int .i64 s2_1_1)],.box [.lit (.int .i64 t4_0_1),.lit (.int .i64 t4_1_1),.lit (.int .u64 t4_2_1),.lit (.int .i64 t4_3_1)],.box [.lit (.int .i64 x8_0),.lit (.int .i64 x8_1),.lit (.int .u64 x8_2),.lit (.int .i64 x8_3)]]⟩:St)) ?_ ?_
      · obtain ⟨t85,et85,hj5⟩:=letk_elim hj4; clear hj4
        conv=>whnf
        refine Nm.mk ⟨t85,et85,?_⟩
        rcases t85 with _ | _
        · have hj6:=bif_f hj5
          clear hj5
          exact BackS.by ⟨_,hj6,rfl⟩ (Sees.of (Weak.objs (keep:=[0,1,2]) (frz:=[]) (m:=0) rfl (by decide) rfl rfl ⟨⟨_,rfl,WO.boxs ⟨.s,.s,trivial⟩⟩,⟨⟨_,rfl,WO.boxs ⟨.s,.s,.s,.s,trivial⟩⟩,⟨⟨_,rfl,WO.boxs ⟨.s,.s,.s,.s,trivial⟩⟩,⟨rfl,fun _ h=>by cases h⟩⟩⟩⟩ ⟨(.ptr _ _ 0 rfl),(.ptr _ _ 1 rfl),(.ptr _ _ 2 rfl),.s,.s,.s,trivial⟩))
        have hj6:=bif_t hj5
        clear hj5
        obtain ⟨t88,et88,hj7⟩:=letk_elim hj6; clear hj6
        conv=>whnf
        refine Nm.mk ⟨t88,et88,?_⟩
        exact BackS.by ⟨_,hj7,rfl⟩ (Sees.of (Weak.objs (keep:=[0,1,2]) (frz:=[]) (m:=0) rfl (by decide) rfl rfl ⟨⟨_,rfl,WO.boxs ⟨.s,.s,trivial⟩⟩,⟨⟨_,rfl,WO.boxs ⟨.s,.s,.s,.s,trivial⟩⟩,⟨⟨_,rfl,WO.boxs ⟨.s,.s,.s,.s,trivial⟩⟩,⟨rfl,fun _ h=>by cases h⟩⟩⟩⟩ ⟨(.ptr _ _ 0 rfl),(.ptr _ _ 1 rfl),(.ptr _ _ 2 rfl),.s,.s,.s,trivial⟩))
      clear hj4
      rintro s ⟨t83,hj0,rfl⟩
      unfold Flt.shape.read.j2 at hj0
      rcases t83 with _ | _
      · have hj1:=bif_f hj0
        clear hj0
        obtain ⟨t93,et93,hj2⟩:=letk_elim hj1; clear hj1
        conv=>whnf
        refine Nm.mk ⟨t93,et93,?_⟩
        rcases t93 with _ | _
        · have hj3:=bif_f hj2
          clear hj2
          conv=>whnf
          refine DrawB.sees (Sees.of (Weak.objs (k:=101) (keep:=[0,1,2]) (frz:=[]) (m:=0) (ts:=[(2,.ptr 0 0),(4,.ptr 1 0),(8,.ptr 2 0),(9,.lit (.int .u64 t41)),(10,.lit (.int .u64 t48))]) (hs:=[.box [.lit (.int .i64 s2_0_1),.lit (.int .i64 s2_1_1)],.box [.lit (.int .i64 t4_0_1),.lit (.int .i64 t4_1_1),.lit (.int .u64 t4_2_1),.lit (.int .i64 t4_3_1)],.box [.lit (.int .i64 x8_0),.lit (.int .i64 x8_1),.lit (.int .u64 x8_2),.lit (.int .i64 x8_3)]]) rfl (by decide) rfl rfl ⟨⟨_,rfl,WO.refl rfl⟩,⟨⟨_,rfl,WO.refl rfl⟩,⟨⟨_,rfl,WO.refl rfl⟩,⟨rfl,fun _ h=>by cases h⟩⟩⟩⟩ ⟨(.ptr _ _ 0 rfl),(.ptr _ _ 1 rfl),(.ptr _ _ 2 rfl),.s,.s,trivial⟩)) ?_
          refine DrawB.ofFN 0 [.box [.lit (.int .i64 s2_0_1),.lit (.int .i64 s2_1_1)],.box [.lit (.int .i64 t4_0_1),.lit (.int .i64 t4_1_1),.lit (.int .u64 t4_2_1),.lit (.int .i64 t4_3_1)],.box [.lit (.int .i64 x8_0),.lit (.int .i64 x8_1),.lit (.int .u64 x8_2),.lit (.int .i64 x8_3)]] 3 3 [[],[0],[0],[],[],[],[],[],[0],[],[],[0],[0],[],[],[2],[2],[2],[2],[2],[2]] [[],[],[],[],[],[],[],[],[],[],[],[],[],[],[],[],[2],[],[2],[],[2]] [none,none,none,none,none,none,none,none,none,none,none,none,none,none,none,none,none,none,none,none,none] Tryz_mixed (by kernel_rfl) rfl rfl rfl (by kernel_rfl) ?_
          conv=>whnf
          refine FNode.no (W:=[]) (.lit (.int .u64 t48)) ?_ rfl ?_
          · conv=>whnf
            rfl
          conv=>whnf
          refine FNode.rd (F:=[0]) (W:=[]) (.ptr 0 0) ?_ rfl rfl ?_
          · conv=>whnf
            rfl
          conv=>whnf
          refine FNode.rd (F:=[0]) (W:=[]) (.lit (.int .i64 s2_0_1)) ?_ rfl rfl ?_
          · conv=>whnf
            rfl
          obtain ⟨t52,et52,hj4⟩:=letk_elim hj3; clear hj3
          conv=>whnf
          refine FNode.no (W:=[]) (.lit (.int .i64 t52)) ?_ rfl ?_
          · conv=>whnf
            refine Nm.mk ⟨t52,et52,?_⟩
            conv=>whnf
            rfl
          obtain ⟨chj5,hj5⟩:=chk_elim hj4; clear hj4
          obtain ⟨t53,et53,hj6⟩:=letk_elim hj5; clear hj5
          conv=>whnf
          refine FNode.no (W:=[]) (.lit (.int .u64 t53)) ?_ rfl ?_
          · conv=>whnf
            refine Side.mk chj5 ?_
            conv=>whnf
            refine Nm.mk ⟨t53,et53,?_⟩
            conv=>whnf
            rfl
          obtain ⟨t54,et54,hj7⟩:=letk_elim hj6; clear hj6
          conv=>whnf
          refine FNode.no (W:=[]) (.lit (.int .u64 t54)) ?_ rfl ?_
          · conv=>whnf
            refine Nm.mk ⟨t54,et54,?_⟩
            conv=>whnf
            rfl
          conv=>whnf
          refine FNode.no (W:=[]) (.lit (.int .u64 t41)) ?_ rfl ?_
          · conv=>whnf
            rfl
          obtain ⟨t56,et56,hj8⟩:=letk_elim hj7; clear hj7
          conv=>whnf
          refine FNode.no (W:=[]) (.lit (.int .i64 t56)) ?_ rfl ?_
          · conv=>whnf
            refine Nm.mk ⟨t56,et56,?_⟩
            conv=>whnf
            rfl
          conv=>whnf
          refine FNode.rd (F:=[0]) (W:=[]) (.agg [.lit (.int .i64 s2_0_1),.lit (.int .i64 s2_1_1)]) ?_ rfl rfl ?_
          · conv=>whnf
            rfl
          obtain ⟨t58,et58,hj9⟩:=bind_elim hj8; clear hj8
          conv=>whnf
          refine FNode.no (W:=[]) (.lit (.int .i64 t58)) ?_ rfl ?_
          · conv=>whnf
            refine CallN.by (v:=.lit (.int .i64 t58)) (Flt.shape.bias_ok et58) rfl rfl ?_
            conv=>whnf
            rfl
          obtain ⟨t59,et59,hj10⟩:=letk_elim hj9; clear hj9
          conv=>whnf
          refine FNode.no (W:=[]) (.lit (.int .i64 t59)) ?_ rfl ?_
          · conv=>whnf
            refine Nm.mk ⟨t59,et59,?_⟩
            conv=>whnf
            rfl
          conv=>whnf
          refine FNode.rd (F:=[0]) (W:=[]) (.ptr 0 0) ?_ rfl rfl ?_
          · conv=>whnf
            rfl
          conv=>whnf
          refine FNode.rd (F:=[0]) (W:=[]) (.lit (.int .i64 s2_0_1)) ?_ rfl rfl ?_
          · conv=>whnf
            rfl
          obtain ⟨t62,et62,hj11⟩:=letk_elim hj10; clear hj10
          conv=>whnf
          refine FNode.no (W:=[]) (.lit (.int .i64 t62)) ?_ rfl ?_
          · conv=>whnf
            refine Nm.mk ⟨t62,et62,?_⟩
            conv=>whnf
            rfl
          obtain ⟨t63,et63,hj12⟩:=letk_elim hj11; clear hj11
          conv=>whnf
          refine FNode.no (W:=[]) (.lit (.int .i64 t63)) ?_ rfl ?_
          · conv=>whnf
            refine Nm.mk ⟨t63,et63,?_⟩
            conv=>whnf
            rfl
          conv=>whnf
          refine FNode.rd (F:=[2]) (W:=[]) (.ptr 2 0) ?_ rfl rfl ?_
          · conv=>whnf
            rfl
          conv=>whnf
          refine FNode.pl (F:=[2]) (W:=[2]) (.undef) [.box [.lit (.int .i64 s2_0_1),.lit (.int .i64 s2_1_1)],.box [.lit (.int .i64 t4_0_1),.lit (.int .i64 t4_1_1),.lit (.int .u64 t4_2_1),.lit (.int .i64 t4_3_1)],.box [.lit (.int .i64 1),.lit (.int .i64 x8_1),.lit (.int .u64 x8_2),.lit (.int .i64 x8_3)]] ?_ rfl rfl rfl rfl ?_
          · conv=>whnf
            refine Nm.mk ⟨[.lit (.int .i64 1),.lit (.int .i64 x8_1),.lit (.int .u64 x8_2),.lit (.int .i64 x8_3)],rfl,?_⟩
            conv=>whnf
            rfl
          conv=>whnf
          refine FNode.rd (F:=[2]) (W:=[]) (.ptr 2 2) ?_ rfl rfl ?_
          · conv=>whnf
            rfl
          conv=>whnf
          refine FNode.pl (F:=[2]) (W:=[2]) (.undef) [.box [.lit (.int .i64 s2_0_1),.lit (.int .i64 s2_1_1)],.box [.lit (.int .i64 t4_0_1),.lit (.int .i64 t4_1_1),.lit (.int .u64 t4_2_1),.lit (.int .i64 t4_3_1)],.box [.lit (.int .i64 1),.lit (.int .i64 x8_1),.lit (.int .u64 t54),.lit (.int .i64 x8_3)]] ?_ rfl rfl rfl rfl ?_
          · conv=>whnf
            refine Nm.mk ⟨[.lit (.int .i64 1),.lit (.int .i64 x8_1),.lit (.int .u64 t54),.lit (.int .i64 x8_3)],rfl,?_⟩
            conv=>whnf
            rfl
          conv=>whnf
          refine FNode.rd (F:=[2]) (W:=[]) (.ptr 2 3) ?_ rfl rfl ?_
          · conv=>whnf
            rfl
          conv=>whnf
          refine FNode.pl (F:=[2]) (W:=[2]) (.undef) [.box [.lit (.int .i64 s2_0_1),.lit (.int .i64 s2_1_1)],.box [.lit (.int .i64 t4_0_1),.lit (.int .i64 t4_1_1),.lit (.int .u64 t4_2_1),.lit (.int .i64 t4_3_1)],.box [.lit (.int .i64 1),.lit (.int .i64 x8_1),.lit (.int .u64 t54),.lit (.int .i64 t63)]] ?_ rfl rfl rfl rfl ?_
          · conv=>whnf
            refine Nm.mk ⟨[.lit (.int .i64 1),.lit (.int .i64 x8_1),.lit (.int .u64 t54),.lit (.int .i64 t63)],rfl,?_⟩
            conv=>whnf
            rfl
          conv=>whnf
          refine Nm.mk ⟨[.lit (.int .i64 1),.lit (.int .i64 x8_1),.lit (.int .u64 t54),.lit (.int .i64 t63)],rfl,?_⟩
          have ehj12_0:=Option.some.inj hj12
          subst ehj12_0
          conv=>whnf
          exact Returns.pure (r:=.tup [float.number.enc ((⟨1,x8_1,t54,t63⟩:float.number)),.lit (.bool true)]) rfl rfl rfl rfl ⟨rfl,rfl⟩
        have hj3:=bif_t hj2
        clear hj2
        obtain ⟨t96,et96,hj4⟩:=bind_elim hj3; clear hj3
        conv=>whnf
        refine Gate.go ?_
        conv=>whnf
        refine CallN.by (v:=.lit (.int .i64 t96)) (Flt.shape.least_ok et96) rfl rfl ?_
        conv=>whnf
        refine Nm.mk ⟨[.lit (.int .i64 1),.lit (.int .i64 x8_1),.lit (.int .u64 x8_2),.lit (.int .i64 x8_3)],rfl,?_⟩
        conv=>whnf
        refine Nm.mk ⟨[.lit (.int .i64 1),.lit (.int .i64 x8_1),.lit (.int .u64 t48),.lit (.int .i64 x8_3)],rfl,?_⟩
        conv=>whnf
        refine Nm.mk ⟨[.lit (.int .i64 1),.lit (.int .i64 x8_1),.lit (.int .u64 t48),.lit (.int .i64 t96)],rfl,?_⟩
        conv=>whnf
        refine Nm.mk ⟨[.lit (.int .i64 1),.lit (.int .i64 x8_1),.lit (.int .u64 t48),.lit (.int .i64 t96)],rfl,?_⟩
        have ehj4_0:=Option.some.inj hj4
        subst ehj4_0
        conv=>whnf
        exact Returns.pure (r:=.tup [float.number.enc ((⟨1,x8_1,t48,t96⟩:float.number)),.lit (.bool true)]) rfl rfl rfl rfl ⟨rfl,rfl⟩
      have hj1:=bif_t hj0
      clear hj0
      conv=>whnf
      refine Nm.mk ⟨[.lit (.int .i64 0),.lit (.int .i64 x8_1),.lit (.int .u64 x8_2),.lit (.int .i64 x8_3)],rfl,?_⟩
      conv=>whnf
      refine Nm.mk ⟨[.lit (.int .i64 0),.lit (.int .i64 x8_1),.lit (.int .u64 x8_2),.lit (.int .i64 x8_3)],rfl,?_⟩
      have ehj1_0:=Option.some.inj hj1
      subst ehj1_0
      conv=>whnf
      exact Returns.pure (r:=.tup [float.number.enc ((⟨0,x8_1,x8_2,x8_3⟩:float.number)),.lit (.bool true)]) rfl rfl rfl rfl ⟨rfl,rfl⟩
    have hj4:=bif_t hj3
    clear hj3
    conv=>whnf
    refine Nm.mk ⟨[.lit (.int .i64 3),.lit (.int .i64 x8_1),.lit (.int .u64 x8_2),.lit (.int .i64 x8_3)],rfl,?_⟩
    conv=>whnf
    refine Nm.mk ⟨[.lit (.int .i64 3),.lit (.int .i64 x8_1),.lit (.int .u64 x8_2),.lit (.int .i64 x8_3)],rfl,?_⟩
    have ehj4_0:=Option.some.inj hj4
    subst ehj4_0
    conv=>whnf
    exact Returns.pure (r:=.tup [float.number.enc ((⟨3,x8_1,x8_2,x8_3⟩:float.number)),.lit (.bool true)]) rfl rfl rfl rfl ⟨rfl,rfl⟩
  have hj1:=bif_t hj0
  clear hj0
  conv=>whnf
  refine Nm.mk ⟨[.lit (.int .i64 2),.lit (.int .i64 x8_1),.lit (.int .u64 x8_2),.lit (.int .i64 x8_3)],rfl,?_⟩
  conv=>whnf
  refine Nm.mk ⟨[.lit (.int .i64 2),.lit (.int .i64 x8_1),.lit (.int .u64 x8_2),.lit (.int .i64 x8_3)],rfl,?_⟩
  have ehj1_0:=Option.some.inj hj1
  subst ehj1_0
  conv=>whnf
  exact Returns.pure (r:=.tup [float.number.enc ((⟨2,x8_1,x8_2,x8_3⟩:float.number)),.lit (.bool true)]) rfl rfl rfl rfl ⟨rfl,rfl⟩
noncomputable def Flt.Valid (kind0:Int) (a1:Int):Option Bool :=
  Option.bind (Flt.of kind0) fun (t9_0,t9_1) =>
  letk (!t9_1) fun t13 =>
  bif t13 then
    some false
  else
    Option.bind (Flt.shape.read (⟨t9_0.p,t9_0.w⟩:float.shape) a1) fun (t17_0,t17_1) =>
    some t17_1
theorem Flt.Valid_ok {kind0:Int} {a1:Int} {r:Bool} (h0:Flt.Valid kind0 a1 = some r):Gives Tryz.prog 151 [.lit (.int .i64 kind0),.lit (.int .i64 a1)] (.lit (.bool r)):=by
  unfold Flt.Valid at h0
  refine ACalls.of_swp Tryz.func151 rfl (by decide) rfl (st0:=⟨21,[(0,.lit (.int .i64 kind0)),(1,.lit (.int .i64 a1))],[]⟩) rfl (bwp_ok (C:=[]) ?_)
  obtain ⟨⟨t9_0,t9_1⟩,et9,h1⟩:=bind_elim h0; clear h0
  conv=>whnf
  refine Gate.go ?_
  conv=>whnf
  refine CallN.by (v:=.tup [float.shape.enc t9_0,.lit (.bool t9_1)]) (Flt.of_ok et9) rfl rfl ?_
  conv=>whnf
  refine Nm.mk ⟨[.lit (.int .i64 0),.lit (.int .i64 0)],rfl,?_⟩
  conv=>whnf
  refine Nm.mk ⟨[.lit (.int .i64 t9_0.p),.lit (.int .i64 t9_0.w)],rfl,?_⟩
  obtain ⟨t13,et13,h2⟩:=letk_elim h1; clear h1
  conv=>whnf
  refine Nm.mk ⟨t13,et13,?_⟩
  rcases t13 with _ | _
  · have h3:=bif_f h2
    clear h2
    obtain ⟨⟨t17_0,t17_1⟩,et17,h4⟩:=bind_elim h3; clear h3
    conv=>whnf
    refine Gate.go ?_
    conv=>whnf
    refine CallN.by (v:=.tup [float.number.enc t17_0,.lit (.bool t17_1)]) (Flt.shape.read_ok et17) rfl rfl ?_
    have eh4_0:=Option.some.inj h4
    subst eh4_0
    conv=>whnf
    exact Returns.pure (r:=.lit (.bool t17_1)) rfl rfl rfl rfl ⟨rfl,rfl⟩
  have h3:=bif_t h2
  clear h2
  have eh3_0:=Option.some.inj h3
  subst eh3_0
  conv=>whnf
  exact Returns.pure (r:=.lit (.bool false)) rfl rfl rfl rfl ⟨rfl,rfl⟩
noncomputable def Arr.fits.j0 (kind0:Int) (n1:Int) (t22:Bool):Option Bool :=
  bif t22 then
    Option.bind (Arr.bytes kind0) fun t26 =>
    Option.bind (Flt.Valid t26 n1) fun t28 =>
    some t28
  else
    some false
noncomputable def Arr.fits (kind0:Int) (n1:Int):Option Bool :=
  letk (kind0 == (1:Int)) fun t7 =>
  bif t7 then
    letk (decide (n1 ≥ ((-2147483647):Int))) fun t9 =>
    bif t9 then
      letk (decide (n1 ≤ (2147483647:Int))) fun t12 =>
      some t12
    else
      some false
  else
    letk (kind0 == (2:Int)) fun t15 =>
    bif t15 then
      letk (n1 == (0:Int)) fun t17 =>
      bif t17 then
        some true
      else
        letk (n1 == (1:Int)) fun t20 =>
        some t20
    else
      letk (kind0 == (3:Int)) fun t23 =>
      bif t23 then
        Arr.fits.j0 kind0 n1 true
      else
        letk (kind0 == (4:Int)) fun t24 =>
        Arr.fits.j0 kind0 n1 t24
theorem Arr.fits_ok {kind0:Int} {n1:Int} {r:Bool} (h0:Arr.fits kind0 n1 = some r):Gives Tryz.prog 111 [.lit (.int .i64 kind0),.lit (.int .i64 n1)] (.lit (.bool r)):=by
  unfold Arr.fits at h0
  refine ACalls.of_swp Tryz.func111 rfl (by decide) rfl (st0:=⟨29,[(0,.lit (.int .i64 kind0)),(1,.lit (.int .i64 n1))],[]⟩) rfl (bwp_ok (C:=[(32,17)]) ?_)
  obtain ⟨t7,et7,h1⟩:=letk_elim h0; clear h0
  conv=>whnf
  refine Nm.mk ⟨t7,et7,?_⟩
  rcases t7 with _ | _
  · have h2:=bif_f h1
    clear h1
    obtain ⟨t15,et15,h3⟩:=letk_elim h2; clear h2
    conv=>whnf
    refine Nm.mk ⟨t15,et15,?_⟩
    rcases t15 with _ | _
    · have h4:=bif_f h3
      clear h3
      conv=>whnf
      refine CutN.of (fun s=>∃ (t22:Bool),Arr.fits.j0 kind0 n1 t22 = some r ∧ s = (⟨29,[(0,.lit (.int .i64 kind0)),(1,.lit (.int .i64 n1)),(22,.lit (.bool t22))],[]⟩:St)) ?_ ?_
      · obtain ⟨t23,et23,h5⟩:=letk_elim h4; clear h4
        conv=>whnf
        refine Nm.mk ⟨t23,et23,?_⟩
        rcases t23 with _ | _
        · have h6:=bif_f h5
          clear h5
          obtain ⟨t24,et24,h7⟩:=letk_elim h6; clear h6
          conv=>whnf
          refine Nm.mk ⟨t24,et24,?_⟩
          exact BackS.by ⟨_,h7,rfl⟩ (Sees.e ⟨.s,.s,.s,trivial⟩)
        have h6:=bif_t h5
        clear h5
        exact BackS.by ⟨_,h6,rfl⟩ (Sees.e ⟨.s,.s,.s,trivial⟩)
      clear h4
      rintro s ⟨t22,hj0,rfl⟩
      unfold Arr.fits.j0 at hj0
      rcases t22 with _ | _
      · have hj1:=bif_f hj0
        clear hj0
        have ehj1_0:=Option.some.inj hj1
        subst ehj1_0
        conv=>whnf
        exact Returns.pure (r:=.lit (.bool false)) rfl rfl rfl rfl ⟨rfl,rfl⟩
      have hj1:=bif_t hj0
      clear hj0
      obtain ⟨t26,et26,hj2⟩:=bind_elim hj1; clear hj1
      conv=>whnf
      refine Gate.go ?_
      conv=>whnf
      refine CallN.by (v:=.lit (.int .i64 t26)) (Arr.bytes_ok et26) rfl rfl ?_
      obtain ⟨t28,et28,hj3⟩:=bind_elim hj2; clear hj2
      conv=>whnf
      refine Gate.go ?_
      conv=>whnf
      refine CallN.by (v:=.lit (.bool t28)) (Flt.Valid_ok et28) rfl rfl ?_
      have ehj3_0:=Option.some.inj hj3
      subst ehj3_0
      conv=>whnf
      exact Returns.pure (r:=.lit (.bool t28)) rfl rfl rfl rfl ⟨rfl,rfl⟩
    have h4:=bif_t h3
    clear h3
    obtain ⟨t17,et17,h5⟩:=letk_elim h4; clear h4
    conv=>whnf
    refine Nm.mk ⟨t17,et17,?_⟩
    rcases t17 with _ | _
    · have h6:=bif_f h5
      clear h5
      obtain ⟨t20,et20,h7⟩:=letk_elim h6; clear h6
      conv=>whnf
      refine Nm.mk ⟨t20,et20,?_⟩
      have eh7_0:=Option.some.inj h7
      subst eh7_0
      conv=>whnf
      exact Returns.pure (r:=.lit (.bool t20)) rfl rfl rfl rfl ⟨rfl,rfl⟩
    have h6:=bif_t h5
    clear h5
    have eh6_0:=Option.some.inj h6
    subst eh6_0
    conv=>whnf
    exact Returns.pure (r:=.lit (.bool true)) rfl rfl rfl rfl ⟨rfl,rfl⟩
  have h2:=bif_t h1
  clear h1
  obtain ⟨t9,et9,h3⟩:=letk_elim h2; clear h2
  conv=>whnf
  refine Nm.mk ⟨t9,et9,?_⟩
  rcases t9 with _ | _
  · have h4:=bif_f h3
    clear h3
    have eh4_0:=Option.some.inj h4
    subst eh4_0
    conv=>whnf
    exact Returns.pure (r:=.lit (.bool false)) rfl rfl rfl rfl ⟨rfl,rfl⟩
  have h4:=bif_t h3
  clear h3
  obtain ⟨t12,et12,h5⟩:=letk_elim h4; clear h4
  conv=>whnf
  refine Nm.mk ⟨t12,et12,?_⟩
  have eh5_0:=Option.some.inj h5
  subst eh5_0
  conv=>whnf
  exact Returns.pure (r:=.lit (.bool t12)) rfl rfl rfl rfl ⟨rfl,rfl⟩
noncomputable def Arr.IsValue (v0:api.Value):Option Bool :=
  Option.bind (Arr.fits v0.Kind v0.N) fun t7 =>
  some t7
theorem Arr.IsValue_ok {v0:api.Value} {r:Bool} (h0:Arr.IsValue v0 = some r):Gives Tryz.prog 62 [api.Value.enc v0] (.lit (.bool r)):=by
  unfold Arr.IsValue at h0
  refine ACalls.of_swp Tryz.func62 rfl (by decide) rfl (st0:=⟨8,[(0,api.Value.enc v0)],[]⟩) rfl (bwp_ok (C:=[]) ?_)
  conv=>whnf
  refine Nm.mk ⟨[.lit (.int .i64 v0.Kind),.lit (.int .i64 v0.N)],rfl,?_⟩
  obtain ⟨t7,et7,h1⟩:=bind_elim h0; clear h0
  conv=>whnf
  refine Gate.go ?_
  conv=>whnf
  refine CallN.by (v:=.lit (.bool t7)) (Arr.fits_ok et7) rfl rfl ?_
  have eh1_0:=Option.some.inj h1
  subst eh1_0
  conv=>whnf
  exact Returns.pure (r:=.lit (.bool t7)) rfl rfl rfl rfl ⟨rfl,rfl⟩
noncomputable def Lst.areValues_1 (v0:api.Value):Option Bool :=
  Option.bind (Arr.IsValue (⟨v0.Kind,v0.N⟩:api.Value)) fun t4 =>
  letk (!t4) fun t5 =>
  some t5
theorem Lst.areValues_1_ok {v0:api.Value} {r:Bool} (h0:Lst.areValues_1 v0 = some r):Gives Tryz.prog 61 [api.Value.enc v0] (.lit (.bool r)):=by
  unfold Lst.areValues_1 at h0
  refine ACalls.of_swp Tryz.func61 rfl (by decide) rfl (st0:=⟨6,[(0,api.Value.enc v0)],[]⟩) rfl (bwp_ok (C:=[]) ?_)
  conv=>whnf
  refine Nm.mk ⟨[.lit (.int .i64 v0.Kind),.lit (.int .i64 v0.N)],rfl,?_⟩
  obtain ⟨t4,et4,h1⟩:=bind_elim h0; clear h0
  conv=>whnf
  refine Gate.go ?_
  conv=>whnf
  refine CallN.by (v:=.lit (.bool t4)) (Arr.IsValue_ok et4) rfl rfl ?_
  obtain ⟨t5,et5,h2⟩:=letk_elim h1; clear h1
  conv=>whnf
  refine Nm.mk ⟨t5,et5,?_⟩
  have eh2_0:=Option.some.inj h2
  subst eh2_0
  conv=>whnf
  exact Returns.pure (r:=.lit (.bool t5)) rfl rfl rfl rfl ⟨rfl,rfl⟩
noncomputable def Lst.areValues (l0:List api.Value):Option Bool :=
  letk ((l0.length:Int)) fun t4 =>
  letk (decide (t4 ≤ (500:Int))) fun t5 =>
  bif t5 then
    Option.bind (Slcs.ContainsFunc___quadrat_api.Value_quadrat_api.Value_ l0 Lst.areValues_1) fun t8 =>
    letk (!t8) fun t9 =>
    some t9
  else
    some false
theorem Lst.areValues_ok {l0:List api.Value} {r:Bool} (h0:Lst.areValues l0 = some r):Gives Tryz.prog 35 [.vs 2 (l0.map (api.Value.enc))] (.lit (.bool r)):=by
  unfold Lst.areValues at h0
  refine ACalls.of_swp Tryz.func35 rfl (by decide) rfl (st0:=⟨11,[(0,.vs 2 (l0.map (api.Value.enc)))],[]⟩) rfl (bwp_ok (C:=[]) ?_)
  obtain ⟨t4,et4,h1⟩:=letk_elim h0; clear h0
  conv=>whnf
  refine Nm.mk ⟨t4,by rw [et4,List.length_map],?_⟩
  obtain ⟨t5,et5,h2⟩:=letk_elim h1; clear h1
  conv=>whnf
  refine Nm.mk ⟨t5,et5,?_⟩
  rcases t5 with _ | _
  · have h3:=bif_f h2
    clear h2
    have eh3_0:=Option.some.inj h3
    subst eh3_0
    conv=>whnf
    exact Returns.pure (r:=.lit (.bool false)) rfl rfl rfl rfl ⟨rfl,rfl⟩
  have h3:=bif_t h2
  clear h2
  obtain ⟨t8,et8,h4⟩:=bind_elim h3; clear h3
  conv=>whnf
  refine Gate.go ?_
  conv=>whnf
  refine CallN.by (v:=.lit (.bool t8)) (Slcs.ContainsFunc___quadrat_api.Value_quadrat_api.Value__ok (show List.all [] pureQ.pureQ0 = true from rfl) (fun _ r h=>Lst.areValues_1_ok h) et8) rfl rfl ?_
  obtain ⟨t9,et9,h5⟩:=letk_elim h4; clear h4
  conv=>whnf
  refine Nm.mk ⟨t9,et9,?_⟩
  have eh5_0:=Option.some.inj h5
  subst eh5_0
  conv=>whnf
  exact Returns.pure (r:=.lit (.bool t9)) rfl rfl rfl rfl ⟨rfl,rfl⟩
noncomputable def Lst.isText.s0 (s0:ByteArray) (t6:List Int) (t7:Int) (t8:Int):Option (Int ⊕ Bool) :=
  letk (decide (t8 < t7)) fun t9 =>
  bif t9 then
    chk (0 ≤ t8 ∧ t8 < (t6.length:Int)) <|
    letk (0 + t8.toNat) fun t10 =>
    Option.bind (t6[t10]?) fun t11 =>
    letk (t11 != (10:Int)) fun t13 =>
    bif t13 then
      letk (decide (t11 < (32:Int))) fun t16 =>
      bif t16 then
        some (.inr false)
      else
        letk (decide (t11 > (126:Int))) fun t19 =>
        bif t19 then
          some (.inr false)
        else
          letk (IntKind.i64.wrap (t8 + (1:Int))) fun t22_1 =>
          some (.inl t22_1)
    else
      letk (IntKind.i64.wrap (t8 + (1:Int))) fun t22 =>
      some (.inl t22)
  else
    ((
    letk ((s0.size:Int)) fun t24 =>
    letk (decide (t24 ≤ (8000:Int))) fun t25 =>
    some t25)).map .inr
noncomputable def Lst.isText.l0 (s0:ByteArray) (t6:List Int) (t7:Int) (t8:Int):Option Bool:=loopO (fun v:Int=>Lst.isText.s0 s0 t6 t7 v) t8
noncomputable def Lst.isText (s0:ByteArray):Option Bool :=
  letk (bytesI s0) fun t6 =>
  letk ((t6.length:Int)) fun t7 =>
  Lst.isText.l0 s0 t6 t7 0
theorem Lst.isText_ok {s0:ByteArray} {r:Bool} (h0:Lst.isText s0 = some r):Gives Tryz.prog 36 [.lit (.string s0)] (.lit (.bool r)):=by
  unfold Lst.isText at h0
  refine ACalls.of_swp Tryz.func36 rfl (by decide) rfl (st0:=⟨26,[(0,.lit (.string s0))],[]⟩) rfl (bwp_ok (C:=[]) ?_)
  obtain ⟨t6,et6,h1⟩:=letk_elim h0; clear h0
  conv=>whnf
  refine Nm.mk ⟨t6.map (eI .u8),by rw [et6]; exact bytesI_map _,?_⟩
  obtain ⟨t7,et7,h2⟩:=letk_elim h1; clear h1
  conv=>whnf
  refine Nm.mk ⟨t7,by rw [et7,List.length_map],?_⟩
  conv=>whnf
  unfold Lst.isText.l0 at h2
  refine LoopB.of (σ:=Int) (ρ:=Bool) (fun v:Int=>Lst.isText.s0 s0 t6 t7 v) (fun v=>(⟨26,[(0,.lit (.string s0)),(6,.ref 0 0 ((t6.map (eI .u8)).length)),(7,.lit (.int .i64 t7)),(8,.lit (.int .i64 v))],[.arr 1 (t6.map (eI .u8))]⟩:St)) 0 h2 (BackS.by rfl (Sees.of (Weak.objs (keep:=[0]) (frz:=[]) (m:=0) rfl (by decide) rfl rfl ⟨⟨_,rfl,.arr _ _⟩,⟨rfl,fun _ h=>by cases h⟩⟩ ⟨.s,(.ref _ _ _ 0 rfl),.s,.s,trivial⟩))) ?_
  clear h2
  rintro K1 t8 x1 hs0_0 hl1 hr1
  replace hs0_0:Lst.isText.s0 s0 t6 t7 t8 = some x1:=hs0_0
  unfold Lst.isText.s0 at hs0_0
  change bwp _ _ _ _ _ (⟨26,[(0,.lit (.string s0)),(6,.ref 0 0 ((t6.map (eI .u8)).length)),(7,.lit (.int .i64 t7)),(8,.lit (.int .i64 t8))],[.arr 1 (t6.map (eI .u8))]⟩:St)
  obtain ⟨t9,et9,hs0_1⟩:=letk_elim hs0_0; clear hs0_0
  conv=>whnf
  refine Nm.mk ⟨t9,et9,?_⟩
  rcases t9 with _ | _
  · have hs0_2:=bif_f hs0_1
    clear hs0_1
    obtain ⟨yhs0_2_0,hs0_2u,ehs0_2_0⟩:=map_elim hs0_2
    have ehs0_2_0:=(hr1 _ ehs0_2_0.symm).symm
    subst ehs0_2_0
    obtain ⟨t24,et24,hs0_2u0⟩:=letk_elim hs0_2u; clear hs0_2u
    conv=>whnf
    refine Nm.mk ⟨t24,et24,?_⟩
    obtain ⟨t25,et25,hs0_2u1⟩:=letk_elim hs0_2u0; clear hs0_2u0
    conv=>whnf
    refine Nm.mk ⟨t25,et25,?_⟩
    have ehs0_2u1_0:=Option.some.inj hs0_2u1
    subst ehs0_2u1_0
    conv=>whnf
    exact Returns.pure (r:=.lit (.bool t25)) rfl rfl rfl rfl ⟨rfl,rfl⟩
  have hs0_2:=bif_t hs0_1
  clear hs0_1
  obtain ⟨chs0_3,hs0_3⟩:=chk_elim hs0_2; clear hs0_2
  obtain ⟨t10,et10,hs0_4⟩:=letk_elim hs0_3; clear hs0_3
  conv=>whnf
  refine Side.mk (by simpa only [List.length_map] using chs0_3) ?_
  conv=>whnf
  refine Nm.mk ⟨t10,et10,?_⟩
  obtain ⟨t11,et11,hs0_5⟩:=bind_elim hs0_4; clear hs0_4
  conv=>whnf
  refine At.by et11 ?_
  obtain ⟨t13,et13,hs0_6⟩:=letk_elim hs0_5; clear hs0_5
  conv=>whnf
  refine Nm.mk ⟨t13,et13,?_⟩
  rcases t13 with _ | _
  · have hs0_7:=bif_f hs0_6
    clear hs0_6
    obtain ⟨t22,et22,hs0_8⟩:=letk_elim hs0_7; clear hs0_7
    conv=>whnf
    refine Nm.mk ⟨t22,et22,?_⟩
    exact BackS.by ⟨_,hl1 _ (Option.some.inj hs0_8).symm,rfl⟩ (Sees.of (Weak.objs (keep:=[0]) (frz:=[]) (m:=0) rfl (by decide) rfl rfl ⟨⟨_,rfl,.arr _ _⟩,⟨rfl,fun _ h=>by cases h⟩⟩ ⟨.s,(.ref _ _ _ 0 rfl),.s,.s,trivial⟩))
  have hs0_7:=bif_t hs0_6
  clear hs0_6
  obtain ⟨t16,et16,hs0_8⟩:=letk_elim hs0_7; clear hs0_7
  conv=>whnf
  refine Nm.mk ⟨t16,et16,?_⟩
  rcases t16 with _ | _
  · have hs0_9:=bif_f hs0_8
    clear hs0_8
    obtain ⟨t19,et19,hs0_10⟩:=letk_elim hs0_9; clear hs0_9
    conv=>whnf
    refine Nm.mk ⟨t19,et19,?_⟩
    rcases t19 with _ | _
    · have hs0_11:=bif_f hs0_10
      clear hs0_10
      obtain ⟨t22_1,et22_1,hs0_12⟩:=letk_elim hs0_11; clear hs0_11
      conv=>whnf
      refine Nm.mk ⟨t22_1,et22_1,?_⟩
      exact BackS.by ⟨_,hl1 _ (Option.some.inj hs0_12).symm,rfl⟩ (Sees.of (Weak.objs (keep:=[0]) (frz:=[]) (m:=0) rfl (by decide) rfl rfl ⟨⟨_,rfl,.arr _ _⟩,⟨rfl,fun _ h=>by cases h⟩⟩ ⟨.s,(.ref _ _ _ 0 rfl),.s,.s,trivial⟩))
    have hs0_11:=bif_t hs0_10
    clear hs0_10
    have ehs0_11_0:=hr1 _ (Option.some.inj hs0_11).symm
    subst ehs0_11_0
    conv=>whnf
    exact Returns.pure (r:=.lit (.bool false)) rfl rfl rfl rfl ⟨rfl,rfl⟩
  have hs0_9:=bif_t hs0_8
  clear hs0_8
  have ehs0_9_0:=hr1 _ (Option.some.inj hs0_9).symm
  subst ehs0_9_0
  conv=>whnf
  exact Returns.pure (r:=.lit (.bool false)) rfl rfl rfl rfl ⟨rfl,rfl⟩
noncomputable def Lst.reader.blanks (r0_0:ByteArray):Option ByteArray :=
  Option.bind (Strs.TrimLeft r0_0 ⟨#[32,10]⟩) fun t7 =>
  some t7
theorem Lst.reader.blanks_ok {r0_0:ByteArray} {r:ByteArray} (h0:Lst.reader.blanks r0_0 = some r):GivesK Tryz.prog 63 [.ptr 0 0] [.box [.lit (.string r0_0)]] 1 (.tup []) [.box [.lit (.string r)]]:=by
  unfold Lst.reader.blanks at h0
  refine ACallsK.of_swp Tryz.func63 rfl (by decide) rfl (st0:=⟨10,[(0,.ptr 0 0)],[.box [.lit (.string r0_0)]]⟩) rfl rfl (bwp_ok (C:=[]) ?_)
  obtain ⟨t7,et7,h1⟩:=bind_elim h0; clear h0
  conv=>whnf
  refine Gate.go ?_
  conv=>whnf
  refine CallN.by (v:=.lit (.string t7)) (Strs.TrimLeft_ok et7) rfl rfl ?_
  conv=>whnf
  refine Nm.mk ⟨[.lit (.string t7)],rfl,?_⟩
  have eh1_0:=Option.some.inj h1
  subst eh1_0
  conv=>whnf
  exact Returns.hand (v:=.tup []) (keep:=[0]) (frz:=[]) (m:=0) (h':=[.box [.lit (.string t7)]]) rfl rfl (WH.of (by decide) rfl rfl ⟨⟨_,rfl,WO.boxs ⟨.s,trivial⟩⟩,⟨rfl,fun _ h=>by cases h⟩⟩) (WV.tups trivial) ⟨rfl,rfl⟩
noncomputable def Slite.HasPrefix (s0:ByteArray) (prefix1:ByteArray):Option Bool :=
  letk ((s0.size:Int)) fun t6 =>
  letk ((prefix1.size:Int)) fun t8 =>
  letk (decide (t6 ≥ t8)) fun t9 =>
  bif t9 then
    letk ((prefix1.size:Int)) fun t13 =>
    chk (0 ≤ t13 ∧ t13 ≤ (s0.size:Int)) <|
    letk (s0.extract 0 t13.toNat) fun t14 =>
    letk (t14.toList == prefix1.toList) fun t16 =>
    some t16
  else
    some false
theorem Slite.HasPrefix_ok {s0:ByteArray} {prefix1:ByteArray} {r:Bool} (h0:Slite.HasPrefix s0 prefix1 = some r):Gives Tryz.prog 112 [.lit (.string s0),.lit (.string prefix1)] (.lit (.bool r)):=by
  unfold Slite.HasPrefix at h0
  refine ACalls.of_swp Tryz.func112 rfl (by decide) rfl (st0:=⟨18,[(0,.lit (.string s0)),(1,.lit (.string prefix1))],[]⟩) rfl (bwp_ok (C:=[]) ?_)
  obtain ⟨t6,et6,h1⟩:=letk_elim h0; clear h0
  conv=>whnf
  refine Nm.mk ⟨t6,et6,?_⟩
  obtain ⟨t8,et8,h2⟩:=letk_elim h1; clear h1
  conv=>whnf
  refine Nm.mk ⟨t8,et8,?_⟩
  obtain ⟨t9,et9,h3⟩:=letk_elim h2; clear h2
  conv=>whnf
  refine Nm.mk ⟨t9,et9,?_⟩
  rcases t9 with _ | _
  · have h4:=bif_f h3
    clear h3
    have eh4_0:=Option.some.inj h4
    subst eh4_0
    conv=>whnf
    exact Returns.pure (r:=.lit (.bool false)) rfl rfl rfl rfl ⟨rfl,rfl⟩
  have h4:=bif_t h3
  clear h3
  obtain ⟨t13,et13,h5⟩:=letk_elim h4; clear h4
  conv=>whnf
  refine Nm.mk ⟨t13,et13,?_⟩
  obtain ⟨ch6,h6⟩:=chk_elim h5; clear h5
  obtain ⟨t14,et14,h7⟩:=letk_elim h6; clear h6
  conv=>whnf
  refine Side.mk ch6 ?_
  conv=>whnf
  refine Nm.mk ⟨t14,et14,?_⟩
  obtain ⟨t16,et16,h8⟩:=letk_elim h7; clear h7
  conv=>whnf
  refine Nm.mk ⟨t16,et16,?_⟩
  have eh8_0:=Option.some.inj h8
  subst eh8_0
  conv=>whnf
  exact Returns.pure (r:=.lit (.bool t16)) rfl rfl rfl rfl ⟨rfl,rfl⟩
noncomputable def Strs.HasPrefix (s0:ByteArray) (prefix1:ByteArray):Option Bool :=
  Option.bind (Slite.HasPrefix s0 prefix1) fun t7 =>
  some t7
theorem Strs.HasPrefix_ok {s0:ByteArray} {prefix1:ByteArray} {r:Bool} (h0:Strs.HasPrefix s0 prefix1 = some r):Gives Tryz.prog 64 [.lit (.string s0),.lit (.string prefix1)] (.lit (.bool r)):=by
  unfold Strs.HasPrefix at h0
  refine ACalls.of_swp Tryz.func64 rfl (by decide) rfl (st0:=⟨8,[(0,.lit (.string s0)),(1,.lit (.string prefix1))],[]⟩) rfl (bwp_ok (C:=[]) ?_)
  obtain ⟨t7,et7,h1⟩:=bind_elim h0; clear h0
  conv=>whnf
  refine Gate.go ?_
  conv=>whnf
  refine CallN.by (v:=.lit (.bool t7)) (Slite.HasPrefix_ok et7) rfl rfl ?_
  have eh1_0:=Option.some.inj h1
  subst eh1_0
  conv=>whnf
  exact Returns.pure (r:=.lit (.bool t7)) rfl rfl rfl rfl ⟨rfl,rfl⟩
noncomputable def Lst.reader.ended (r0_0:ByteArray):Option (ByteArray × Bool × Bool) :=
  Option.bind (Lst.reader.blanks r0_0) fun o_0 =>
  letk (o_0.toList == (⟨#[]⟩:ByteArray).toList) fun t10 =>
  Option.bind (Strs.HasPrefix o_0 ⟨#[47]⟩) fun t15 =>
  some (o_0,t10,t15)
theorem Lst.reader.ended_ok {r0_0:ByteArray} {r:ByteArray × Bool × Bool} (h0:Lst.reader.ended r0_0 = some r):GivesK Tryz.prog 38 [.ptr 0 0] [.box [.lit (.string r0_0)]] 1 (.tup [.lit (.bool r.2.1),.lit (.bool r.2.2)]) [.box [.lit (.string r.1)]]:=by
  unfold Lst.reader.ended at h0
  refine ACallsK.of_swp Tryz.func38 rfl (by decide) rfl (st0:=⟨16,[(0,.ptr 0 0)],[.box [.lit (.string r0_0)]]⟩) rfl rfl (bwp_ok (C:=[]) ?_)
  obtain ⟨o_0,eo_0,h1⟩:=bind_elim h0; clear h0
  conv=>whnf
  refine Gate.weak (Sees.of (Weak.objs (k:=16) (keep:=[0]) (frz:=[]) (m:=0) (ts:=[(0,.ptr 0 0),(4,.ptr 0 0)]) (hs:=[.box [.lit (.string r0_0)]]) rfl (by decide) rfl rfl ⟨⟨_,rfl,WO.boxs ⟨.s,trivial⟩⟩,⟨rfl,fun _ h=>by cases h⟩⟩ ⟨(.ptr _ _ 0 rfl),(.ptr _ _ 0 rfl),trivial⟩)) ?_
  conv=>whnf
  refine CallN.hand (k:=1) (v:=.tup []) (hs':=[.box [.lit (.string o_0)]]) (ts':=[(0,.ptr 0 0),(4,.ptr 0 0)]) (Lst.reader.blanks_ok eo_0) rfl rfl ?_
  conv=>whnf
  refine DrawB.ofG [none,none,none,none,none,none,none,none,none,none,none,none] Tryz_mixed (by kernel_rfl) (by kernel_rfl) ?_
  conv=>whnf
  refine DNodeB.of (.ptr 0 0) ?_ ?_
  · conv=>whnf
    rfl
  conv=>whnf
  refine DNodeB.of (.ptr 0 0) ?_ ?_
  · conv=>whnf
    rfl
  conv=>whnf
  refine DNodeB.of (.ptr 0 0) ?_ ?_
  · conv=>whnf
    rfl
  conv=>whnf
  refine DNodeB.of (.lit (.string o_0)) ?_ ?_
  · conv=>whnf
    rfl
  obtain ⟨t10,et10,h2⟩:=letk_elim h1; clear h1
  conv=>whnf
  refine DNodeB.of (.lit (.bool t10)) ?_ ?_
  · conv=>whnf
    refine Nm.mk ⟨t10,et10,?_⟩
    conv=>whnf
    rfl
  conv=>whnf
  refine DNodeB.of (.ptr 0 0) ?_ ?_
  · conv=>whnf
    rfl
  conv=>whnf
  refine DNodeB.of (.ptr 0 0) ?_ ?_
  · conv=>whnf
    rfl
  conv=>whnf
  refine DNodeB.of (.ptr 0 0) ?_ ?_
  · conv=>whnf
    rfl
  conv=>whnf
  refine DNodeB.of (.lit (.string o_0)) ?_ ?_
  · conv=>whnf
    rfl
  obtain ⟨t15,et15,h3⟩:=bind_elim h2; clear h2
  conv=>whnf
  refine DNodeB.of (.lit (.bool t15)) ?_ ?_
  · conv=>whnf
    refine CallN.by (v:=.lit (.bool t15)) (Strs.HasPrefix_ok et15) rfl rfl ?_
    conv=>whnf
    rfl
  conv=>whnf
  refine DNodeB.of (.lit (.bool t10)) ?_ ?_
  · conv=>whnf
    rfl
  conv=>whnf
  refine DNodeB.of (.lit (.bool t15)) ?_ ?_
  · conv=>whnf
    rfl
  have eh3_0:=Option.some.inj h3
  subst eh3_0
  conv=>whnf
  exact Returns.hand (v:=.tup [.lit (.bool t10),.lit (.bool t15)]) (keep:=[0]) (frz:=[]) (m:=0) (h':=[.box [.lit (.string o_0)]]) rfl rfl (WH.of (by decide) rfl rfl ⟨⟨_,rfl,WO.boxs ⟨.s,trivial⟩⟩,⟨rfl,fun _ h=>by cases h⟩⟩) (WV.tups ⟨.s,.s,trivial⟩) ⟨rfl,rfl⟩
noncomputable def Slite.CutPrefix (s0:ByteArray) (prefix1:ByteArray):Option (ByteArray × Bool) :=
  Option.bind (Slite.HasPrefix s0 prefix1) fun t8 =>
  letk (!t8) fun t9 =>
  bif t9 then
    some (s0,false)
  else
    letk ((prefix1.size:Int)) fun t13 =>
    chk (0 ≤ t13 ∧ t13 ≤ (s0.size:Int)) <|
    letk (s0.extract t13.toNat s0.size) fun t14 =>
    some (t14,true)
theorem Slite.CutPrefix_ok {s0:ByteArray} {prefix1:ByteArray} {r:ByteArray × Bool} (h0:Slite.CutPrefix s0 prefix1 = some r):Gives Tryz.prog 173 [.lit (.string s0),.lit (.string prefix1)] (.tup [.lit (.string r.1),.lit (.bool r.2)]):=by
  unfold Slite.CutPrefix at h0
  refine ACalls.of_swp Tryz.func173 rfl (by decide) rfl (st0:=⟨15,[(0,.lit (.string s0)),(1,.lit (.string prefix1))],[]⟩) rfl (bwp_ok (C:=[]) ?_)
  obtain ⟨t8,et8,h1⟩:=bind_elim h0; clear h0
  conv=>whnf
  refine Gate.go ?_
  conv=>whnf
  refine CallN.by (v:=.lit (.bool t8)) (Slite.HasPrefix_ok et8) rfl rfl ?_
  obtain ⟨t9,et9,h2⟩:=letk_elim h1; clear h1
  conv=>whnf
  refine Nm.mk ⟨t9,et9,?_⟩
  rcases t9 with _ | _
  · have h3:=bif_f h2
    clear h2
    obtain ⟨t13,et13,h4⟩:=letk_elim h3; clear h3
    conv=>whnf
    refine Nm.mk ⟨t13,et13,?_⟩
    obtain ⟨ch5,h5⟩:=chk_elim h4; clear h4
    obtain ⟨t14,et14,h6⟩:=letk_elim h5; clear h5
    conv=>whnf
    refine Side.mk ch5 ?_
    conv=>whnf
    refine Nm.mk ⟨t14,et14,?_⟩
    have eh6_0:=Option.some.inj h6
    subst eh6_0
    conv=>whnf
    exact Returns.pure (r:=.tup [.lit (.string t14),.lit (.bool true)]) rfl rfl rfl rfl ⟨rfl,rfl⟩
  have h3:=bif_t h2
  clear h2
  have eh3_0:=Option.some.inj h3
  subst eh3_0
  conv=>whnf
  exact Returns.pure (r:=.tup [.lit (.string s0),.lit (.bool false)]) rfl rfl rfl rfl ⟨rfl,rfl⟩
noncomputable def Strs.CutPrefix (s0:ByteArray) (prefix1:ByteArray):Option (ByteArray × Bool) :=
  Option.bind (Slite.CutPrefix s0 prefix1) fun (t8_0,t8_1) =>
  some (t8_0,t8_1)
theorem Strs.CutPrefix_ok {s0:ByteArray} {prefix1:ByteArray} {r:ByteArray × Bool} (h0:Strs.CutPrefix s0 prefix1 = some r):Gives Tryz.prog 113 [.lit (.string s0),.lit (.string prefix1)] (.tup [.lit (.string r.1),.lit (.bool r.2)]):=by
  unfold Strs.CutPrefix at h0
  refine ACalls.of_swp Tryz.func113 rfl (by decide) rfl (st0:=⟨11,[(0,.lit (.string s0)),(1,.lit (.string prefix1))],[]⟩) rfl (bwp_ok (C:=[]) ?_)
  obtain ⟨⟨t8_0,t8_1⟩,et8,h1⟩:=bind_elim h0; clear h0
  conv=>whnf
  refine Gate.go ?_
  conv=>whnf
  refine CallN.by (v:=.tup [.lit (.string t8_0),.lit (.bool t8_1)]) (Slite.CutPrefix_ok et8) rfl rfl ?_
  have eh1_0:=Option.some.inj h1
  subst eh1_0
  conv=>whnf
  exact Returns.pure (r:=.tup [.lit (.string t8_0),.lit (.bool t8_1)]) rfl rfl rfl rfl ⟨rfl,rfl⟩
noncomputable def Lst.reader.comma (r0_0:ByteArray):Option (ByteArray × Bool) :=
  Option.bind (Lst.reader.blanks r0_0) fun o_0 =>
  Option.bind (Strs.CutPrefix o_0 ⟨#[44]⟩) fun (t12_0,t12_1) =>
  some (t12_0,t12_1)
theorem Lst.reader.comma_ok {r0_0:ByteArray} {r:ByteArray × Bool} (h0:Lst.reader.comma r0_0 = some r):GivesK Tryz.prog 65 [.ptr 0 0] [.box [.lit (.string r0_0)]] 1 (.lit (.bool r.2)) [.box [.lit (.string r.1)]]:=by
  unfold Lst.reader.comma at h0
  refine ACallsK.of_swp Tryz.func65 rfl (by decide) rfl (st0:=⟨20,[(0,.ptr 0 0)],[.box [.lit (.string r0_0)]]⟩) rfl rfl (bwp_ok (C:=[]) ?_)
  obtain ⟨o_0,eo_0,h1⟩:=bind_elim h0; clear h0
  conv=>whnf
  refine Gate.weak (Sees.of (Weak.objs (k:=20) (keep:=[0]) (frz:=[]) (m:=0) (ts:=[(0,.ptr 0 0),(5,.ptr 0 0)]) (hs:=[.box [.lit (.string r0_0)]]) rfl (by decide) rfl rfl ⟨⟨_,rfl,WO.boxs ⟨.s,trivial⟩⟩,⟨rfl,fun _ h=>by cases h⟩⟩ ⟨(.ptr _ _ 0 rfl),(.ptr _ _ 0 rfl),trivial⟩)) ?_
  conv=>whnf
  refine CallN.hand (k:=1) (v:=.tup []) (hs':=[.box [.lit (.string o_0)]]) (ts':=[(0,.ptr 0 0),(5,.ptr 0 0)]) (Lst.reader.blanks_ok eo_0) rfl rfl ?_
  obtain ⟨⟨t12_0,t12_1⟩,et12,h2⟩:=bind_elim h1; clear h1
  conv=>whnf
  refine Gate.go ?_
  conv=>whnf
  refine CallN.by (v:=.tup [.lit (.string t12_0),.lit (.bool t12_1)]) (Strs.CutPrefix_ok et12) rfl rfl ?_
  conv=>whnf
  refine Nm.mk ⟨[.lit (.string t12_0)],rfl,?_⟩
  have eh2_0:=Option.some.inj h2
  subst eh2_0
  conv=>whnf
  exact Returns.hand (v:=.lit (.bool t12_1)) (keep:=[0]) (frz:=[]) (m:=0) (h':=[.box [.lit (.string t12_0)]]) rfl rfl (WH.of (by decide) rfl rfl ⟨⟨_,rfl,WO.boxs ⟨.s,trivial⟩⟩,⟨rfl,fun _ h=>by cases h⟩⟩) (.s) ⟨rfl,rfl⟩
noncomputable def Lst.reader.next_.j0 (t40_1:ByteArray) (t52_0:Int) (r0:ByteArray) (t2_0:Int) (t2_1:ByteArray) (t69:Bool):Option (ByteArray × listing.item × Int) :=
  bif t69 then
    some (r0,(⟨0,⟨#[]⟩⟩:listing.item),3)
  else
    some (r0,(⟨t52_0,t40_1⟩:listing.item),0)
noncomputable def Lst.reader.next_.j1 (t40_1:ByteArray) (t52_0:Int) (r0_1:ByteArray) (t2_0_1:Int) (t2_1_1:ByteArray) (t69_1:Bool):Option (ByteArray × listing.item × Int) :=
  bif t69_1 then
    some (r0_1,(⟨0,⟨#[]⟩⟩:listing.item),3)
  else
    some (r0_1,(⟨t52_0,t40_1⟩:listing.item),0)
noncomputable def Lst.reader.next_ (r0_0:ByteArray):Option (ByteArray × listing.item × Int) :=
  Option.bind (Lst.reader.comma r0_0) fun (o_0,t13) =>
  bif t13 then
    some (o_0,(⟨1,⟨#[]⟩⟩:listing.item),0)
  else
    chk (((o_0.size + (⟨#[32]⟩:ByteArray).size:Nat):Int) ≤ 9223372036854775807) <|
    letk (o_0 ++ (⟨#[32]⟩:ByteArray)) fun t19 =>
    Option.bind (Strs.IndexAny t19 ⟨#[32,10,44,47]⟩) fun t20 =>
    chk (0 ≤ t20 ∧ t20 ≤ (o_0.size:Int)) <|
    letk (o_0.extract 0 t20.toNat) fun t26 =>
    chk (0 ≤ t20 ∧ t20 ≤ (o_0.size:Int)) <|
    letk (o_0.extract t20.toNat o_0.size) fun t33 =>
    Option.bind (Lst.reader.comma t33) fun (o_0_1,t37) =>
    Option.bind (Strs.Cut t26 ⟨#[42]⟩) fun (t40_0,t40_1,t40_2) =>
    letk (!t40_2) fun t45 =>
    bif t45 then
      some (o_0_1,(⟨1,t26⟩:listing.item),0)
    else
      Option.bind (Strs.TrimLeft t40_0 ⟨#[48]⟩) fun t49 =>
      Option.bind (Strconv.Atoi t49) fun (t52_0,t52_1) =>
      bif t52_1 then
        Option.bind (Strs.Trim t49 ⟨#[48,49,50,51,52,53,54,55,56,57]⟩) fun t59 =>
        letk (!(t59.toList == (⟨#[]⟩:ByteArray).toList)) fun t60 =>
        bif t60 then
          Lst.reader.next_.j1 t40_1 t52_0 o_0_1 0 (⟨#[]⟩) true
        else
          letk (decide (t52_0 < (1:Int))) fun t64 =>
          bif t64 then
            Lst.reader.next_.j1 t40_1 t52_0 o_0_1 0 (⟨#[]⟩) true
          else
            letk (decide (t52_0 > (999:Int))) fun t68 =>
            Lst.reader.next_.j1 t40_1 t52_0 o_0_1 0 (⟨#[]⟩) t68
      else
        Lst.reader.next_.j0 t40_1 t52_0 o_0_1 0 (⟨#[]⟩) true
theorem Lst.reader.next__ok {r0_0:ByteArray} {r:ByteArray × listing.item × Int} (h0:Lst.reader.next_ r0_0 = some r):GivesK Tryz.prog 39 [.ptr 0 0] [.box [.lit (.string r0_0)]] 1 (.tup [listing.item.enc r.2.1,.lit (.int .i64 r.2.2)]) [.box [.lit (.string r.1)]]:=by
  unfold Lst.reader.next_ at h0
  refine ACallsK.of_swp Tryz.func39 rfl (by decide) rfl (st0:=⟨74,[(0,.ptr 0 0)],[.box [.lit (.string r0_0)]]⟩) rfl rfl (bwp_ok (C:=[(79,27),(79,27)]) ?_)
  conv=>whnf
  refine Nm.mk ⟨[.lit (.int .i64 0),.lit (.string (⟨#[]⟩))],rfl,?_⟩
  obtain ⟨⟨o_0,t13⟩,ee_t13,h1⟩:=bind_elim h0; clear h0
  conv=>whnf
  refine Gate.weak (Sees.of (Weak.objs (k:=74) (keep:=[0,1]) (frz:=[]) (m:=0) (ts:=[(0,.ptr 0 0),(2,.ptr 1 0),(12,.ptr 0 0)]) (hs:=[.box [.lit (.string r0_0)],.box [.lit (.int .i64 0),.lit (.string (⟨#[]⟩))]]) rfl (by decide) rfl rfl ⟨⟨_,rfl,WO.boxs ⟨.s,trivial⟩⟩,⟨⟨_,rfl,WO.boxs ⟨.s,.s,trivial⟩⟩,⟨rfl,fun _ h=>by cases h⟩⟩⟩ ⟨(.ptr _ _ 0 rfl),(.ptr _ _ 1 rfl),(.ptr _ _ 0 rfl),trivial⟩)) ?_
  conv=>whnf
  refine CallN.handF (k:=1) (m:=1) (v:=.lit (.bool t13)) (hs':=[.box [.lit (.string o_0)]]) (rest:=[.box [.lit (.int .i64 0),.lit (.string (⟨#[]⟩))]]) (hs2:=[.box [.lit (.string o_0)],.box [.lit (.int .i64 0),.lit (.string (⟨#[]⟩))]]) (ts':=[(0,.ptr 0 0),(2,.ptr 1 0),(12,.ptr 0 0)]) (Lst.reader.comma_ok ee_t13) rfl rfl rfl rfl rfl rfl rfl rfl rfl ?_
  rcases t13 with _ | _
  · have h2:=bif_f h1
    clear h1
    obtain ⟨ch3,h3⟩:=chk_elim h2; clear h2
    obtain ⟨t19,et19,h4⟩:=letk_elim h3; clear h3
    conv=>whnf
    refine Side.mk ch3 ?_
    conv=>whnf
    refine Nm.mk ⟨t19,et19,?_⟩
    obtain ⟨t20,et20,h5⟩:=bind_elim h4; clear h4
    conv=>whnf
    refine Gate.go ?_
    conv=>whnf
    refine CallN.by (v:=.lit (.int .i64 t20)) (Strs.IndexAny_ok et20) rfl rfl ?_
    obtain ⟨ch6,h6⟩:=chk_elim h5; clear h5
    obtain ⟨t26,et26,h7⟩:=letk_elim h6; clear h6
    conv=>whnf
    refine Side.mk ch6 ?_
    conv=>whnf
    refine Nm.mk ⟨t26,et26,?_⟩
    obtain ⟨ch8,h8⟩:=chk_elim h7; clear h7
    obtain ⟨t33,et33,h9⟩:=letk_elim h8; clear h8
    conv=>whnf
    refine Side.mk ch8 ?_
    conv=>whnf
    refine Nm.mk ⟨t33,et33,?_⟩
    conv=>whnf
    refine Nm.mk ⟨[.lit (.string t33)],rfl,?_⟩
    obtain ⟨⟨o_0_1,t37⟩,ee_t37,h10⟩:=bind_elim h9; clear h9
    conv=>whnf
    refine Gate.weak (Sees.of (Weak.objs (k:=74) (keep:=[0,1]) (frz:=[]) (m:=0) (ts:=[(0,.ptr 0 0),(2,.ptr 1 0),(5,.lit (.string t26)),(36,.ptr 0 0)]) (hs:=[.box [.lit (.string t33)],.box [.lit (.int .i64 0),.lit (.string (⟨#[]⟩))]]) rfl (by decide) rfl rfl ⟨⟨_,rfl,WO.boxs ⟨.s,trivial⟩⟩,⟨⟨_,rfl,WO.boxs ⟨.s,.s,trivial⟩⟩,⟨rfl,fun _ h=>by cases h⟩⟩⟩ ⟨(.ptr _ _ 0 rfl),(.ptr _ _ 1 rfl),.s,(.ptr _ _ 0 rfl),trivial⟩)) ?_
    conv=>whnf
    refine CallN.handF (k:=1) (m:=1) (v:=.lit (.bool t37)) (hs':=[.box [.lit (.string o_0_1)]]) (rest:=[.box [.lit (.int .i64 0),.lit (.string (⟨#[]⟩))]]) (hs2:=[.box [.lit (.string o_0_1)],.box [.lit (.int .i64 0),.lit (.string (⟨#[]⟩))]]) (ts':=[(0,.ptr 0 0),(2,.ptr 1 0),(5,.lit (.string t26)),(36,.ptr 0 0)]) (Lst.reader.comma_ok ee_t37) rfl rfl rfl rfl rfl rfl rfl rfl rfl ?_
    obtain ⟨⟨t40_0,t40_1,t40_2⟩,et40,h11⟩:=bind_elim h10; clear h10
    conv=>whnf
    refine Gate.go ?_
    conv=>whnf
    refine CallN.by (v:=.tup [.lit (.string t40_0),.lit (.string t40_1),.lit (.bool t40_2)]) (Strs.Cut_ok et40) rfl rfl ?_
    obtain ⟨t45,et45,h12⟩:=letk_elim h11; clear h11
    conv=>whnf
    refine Nm.mk ⟨t45,et45,?_⟩
    rcases t45 with _ | _
    · have h13:=bif_f h12
      clear h12
      obtain ⟨t49,et49,h14⟩:=bind_elim h13; clear h13
      conv=>whnf
      refine Gate.go ?_
      conv=>whnf
      refine CallN.by (v:=.lit (.string t49)) (Strs.TrimLeft_ok et49) rfl rfl ?_
      obtain ⟨⟨t52_0,t52_1⟩,et52,h15⟩:=bind_elim h14; clear h14
      conv=>whnf
      refine Gate.go ?_
      rcases t52_1 with _ | _
      · have h16:=bif_f h15
        clear h15
        conv=>whnf
        refine CallN.byE (v:=fun Nt52=>.tup [.lit (.int .i64 t52_0),.lit (.iface 200 (.pointer (some ⟨Nt52,0,none⟩)))]) (Strconv.Atoi_err et52) rfl (fun _=>rfl) (fun Nt52=>?_)
        conv=>whnf
        refine CutN.of (fun s=>∃ (r0:ByteArray) (t2_0:Int) (t2_1:ByteArray) (t69:Bool),Lst.reader.next_.j0 t40_1 t52_0 r0 t2_0 t2_1 t69 = some r ∧ s = (⟨74,[(0,.ptr 0 0),(2,.ptr 1 0),(7,.lit (.string t40_1)),(10,.lit (.int .i64 t52_0)),(69,.lit (.bool t69))],[.box [.lit (.string r0)],.box [.lit (.int .i64 t2_0),.lit (.string t2_1)]]⟩:St)) ?_ ?_
        · exact BackS.by ⟨_,_,_,_,h16,rfl⟩ (Sees.of (Weak.objs (keep:=[0,1]) (frz:=[]) (m:=0) rfl (by decide) rfl rfl ⟨⟨_,rfl,WO.boxs ⟨.s,trivial⟩⟩,⟨⟨_,rfl,WO.boxs ⟨.s,.s,trivial⟩⟩,⟨rfl,fun _ h=>by cases h⟩⟩⟩ ⟨(.ptr _ _ 0 rfl),(.ptr _ _ 1 rfl),.s,.s,.s,trivial⟩))
        clear h16
        rintro s ⟨r0,t2_0,t2_1,t69,hj0,rfl⟩
        unfold Lst.reader.next_.j0 at hj0
        rcases t69 with _ | _
        · have hj1:=bif_f hj0
          clear hj0
          conv=>whnf
          refine Gate.go ?_
          conv=>whnf
          refine Nm.mk ⟨[.lit (.int .i64 t52_0),.lit (.string t40_1)],rfl,?_⟩
          conv=>whnf
          refine Nm.mk ⟨[.lit (.int .i64 t52_0),.lit (.string t40_1)],rfl,?_⟩
          have ehj1_0:=Option.some.inj hj1
          subst ehj1_0
          conv=>whnf
          exact Returns.hand (v:=.tup [listing.item.enc ((⟨t52_0,t40_1⟩:listing.item)),.lit (.int .i64 0)]) (keep:=[0]) (frz:=[]) (m:=0) (h':=[.box [.lit (.string r0)]]) rfl rfl (WH.of (by decide) rfl rfl ⟨⟨_,rfl,WO.boxs ⟨.s,trivial⟩⟩,⟨rfl,fun _ h=>by cases h⟩⟩) (WV.tups ⟨.s,.s,trivial⟩) ⟨rfl,rfl⟩
        have hj1:=bif_t hj0
        clear hj0
        conv=>whnf
        refine Gate.go ?_
        conv=>whnf
        refine Nm.mk ⟨[.lit (.int .i64 0),.lit (.string (⟨#[]⟩))],rfl,?_⟩
        conv=>whnf
        refine Nm.mk ⟨[.lit (.int .i64 0),.lit (.string (⟨#[]⟩))],rfl,?_⟩
        have ehj1_0:=Option.some.inj hj1
        subst ehj1_0
        conv=>whnf
        exact Returns.hand (v:=.tup [listing.item.enc ((⟨0,⟨#[]⟩⟩:listing.item)),.lit (.int .i64 3)]) (keep:=[0]) (frz:=[]) (m:=0) (h':=[.box [.lit (.string r0)]]) rfl rfl (WH.of (by decide) rfl rfl ⟨⟨_,rfl,WO.boxs ⟨.s,trivial⟩⟩,⟨rfl,fun _ h=>by cases h⟩⟩) (WV.tups ⟨.s,.s,trivial⟩) ⟨rfl,rfl⟩
      have h16:=bif_t h15
      clear h15
      conv=>whnf
      refine CallN.by (v:=.tup [.lit (.int .i64 t52_0),.lit Value.nilIface]) (Strconv.Atoi_ok et52) rfl rfl ?_
      conv=>whnf
      refine CutN.of (fun s=>∃ (r0_1:ByteArray) (t2_0_1:Int) (t2_1_1:ByteArray) (t69_1:Bool),Lst.reader.next_.j1 t40_1 t52_0 r0_1 t2_0_1 t2_1_1 t69_1 = some r ∧ s = (⟨74,[(0,.ptr 0 0),(2,.ptr 1 0),(7,.lit (.string t40_1)),(10,.lit (.int .i64 t52_0)),(69,.lit (.bool t69_1))],[.box [.lit (.string r0_1)],.box [.lit (.int .i64 t2_0_1),.lit (.string t2_1_1)]]⟩:St)) ?_ ?_
      · obtain ⟨t59,et59,h17⟩:=bind_elim h16; clear h16
        conv=>whnf
        refine Gate.go ?_
        conv=>whnf
        refine CallN.by (v:=.lit (.string t59)) (Strs.Trim_ok et59) rfl rfl ?_
        obtain ⟨t60,et60,h18⟩:=letk_elim h17; clear h17
        conv=>whnf
        refine Nm.mk ⟨t60,et60,?_⟩
        rcases t60 with _ | _
        · have h19:=bif_f h18
          clear h18
          obtain ⟨t64,et64,h20⟩:=letk_elim h19; clear h19
          conv=>whnf
          refine Nm.mk ⟨t64,et64,?_⟩
          rcases t64 with _ | _
          · have h21:=bif_f h20
            clear h20
            obtain ⟨t68,et68,h22⟩:=letk_elim h21; clear h21
            conv=>whnf
            refine Nm.mk ⟨t68,et68,?_⟩
            exact BackS.by ⟨_,_,_,_,h22,rfl⟩ (Sees.of (Weak.objs (keep:=[0,1]) (frz:=[]) (m:=0) rfl (by decide) rfl rfl ⟨⟨_,rfl,WO.boxs ⟨.s,trivial⟩⟩,⟨⟨_,rfl,WO.boxs ⟨.s,.s,trivial⟩⟩,⟨rfl,fun _ h=>by cases h⟩⟩⟩ ⟨(.ptr _ _ 0 rfl),(.ptr _ _ 1 rfl),.s,.s,.s,trivial⟩))
          have h21:=bif_t h20
          clear h20
          exact BackS.by ⟨_,_,_,_,h21,rfl⟩ (Sees.of (Weak.objs (keep:=[0,1]) (frz:=[]) (m:=0) rfl (by decide) rfl rfl ⟨⟨_,rfl,WO.boxs ⟨.s,trivial⟩⟩,⟨⟨_,rfl,WO.boxs ⟨.s,.s,trivial⟩⟩,⟨rfl,fun _ h=>by cases h⟩⟩⟩ ⟨(.ptr _ _ 0 rfl),(.ptr _ _ 1 rfl),.s,.s,.s,trivial⟩))
        have h19:=bif_t h18
        clear h18
        exact BackS.by ⟨_,_,_,_,h19,rfl⟩ (Sees.of (Weak.objs (keep:=[0,1]) (frz:=[]) (m:=0) rfl (by decide) rfl rfl ⟨⟨_,rfl,WO.boxs ⟨.s,trivial⟩⟩,⟨⟨_,rfl,WO.boxs ⟨.s,.s,trivial⟩⟩,⟨rfl,fun _ h=>by cases h⟩⟩⟩ ⟨(.ptr _ _ 0 rfl),(.ptr _ _ 1 rfl),.s,.s,.s,trivial⟩))
      clear h16
      rintro s ⟨r0_1,t2_0_1,t2_1_1,t69_1,hj0,rfl⟩
      unfold Lst.reader.next_.j1 at hj0
      rcases t69_1 with _ | _
      · have hj1:=bif_f hj0
        clear hj0
        conv=>whnf
        refine Gate.go ?_
        conv=>whnf
        refine Nm.mk ⟨[.lit (.int .i64 t52_0),.lit (.string t40_1)],rfl,?_⟩
        conv=>whnf
        refine Nm.mk ⟨[.lit (.int .i64 t52_0),.lit (.string t40_1)],rfl,?_⟩
        have ehj1_0:=Option.some.inj hj1
        subst ehj1_0
        conv=>whnf
        exact Returns.hand (v:=.tup [listing.item.enc ((⟨t52_0,t40_1⟩:listing.item)),.lit (.int .i64 0)]) (keep:=[0]) (frz:=[]) (m:=0) (h':=[.box [.lit (.string r0_1)]]) rfl rfl (WH.of (by decide) rfl rfl ⟨⟨_,rfl,WO.boxs ⟨.s,trivial⟩⟩,⟨rfl,fun _ h=>by cases h⟩⟩) (WV.tups ⟨.s,.s,trivial⟩) ⟨rfl,rfl⟩
      have hj1:=bif_t hj0
      clear hj0
      conv=>whnf
      refine Gate.go ?_
      conv=>whnf
      refine Nm.mk ⟨[.lit (.int .i64 0),.lit (.string (⟨#[]⟩))],rfl,?_⟩
      conv=>whnf
      refine Nm.mk ⟨[.lit (.int .i64 0),.lit (.string (⟨#[]⟩))],rfl,?_⟩
      have ehj1_0:=Option.some.inj hj1
      subst ehj1_0
      conv=>whnf
      exact Returns.hand (v:=.tup [listing.item.enc ((⟨0,⟨#[]⟩⟩:listing.item)),.lit (.int .i64 3)]) (keep:=[0]) (frz:=[]) (m:=0) (h':=[.box [.lit (.string r0_1)]]) rfl rfl (WH.of (by decide) rfl rfl ⟨⟨_,rfl,WO.boxs ⟨.s,trivial⟩⟩,⟨rfl,fun _ h=>by cases h⟩⟩) (WV.tups ⟨.s,.s,trivial⟩) ⟨rfl,rfl⟩
    have h13:=bif_t h12
    clear h12
    conv=>whnf
    refine Gate.go ?_
    conv=>whnf
    refine Nm.mk ⟨[.lit (.int .i64 1),.lit (.string t26)],rfl,?_⟩
    conv=>whnf
    refine Nm.mk ⟨[.lit (.int .i64 1),.lit (.string t26)],rfl,?_⟩
    have eh13_0:=Option.some.inj h13
    subst eh13_0
    conv=>whnf
    exact Returns.hand (v:=.tup [listing.item.enc ((⟨1,t26⟩:listing.item)),.lit (.int .i64 0)]) (keep:=[0]) (frz:=[]) (m:=0) (h':=[.box [.lit (.string o_0_1)]]) rfl rfl (WH.of (by decide) rfl rfl ⟨⟨_,rfl,WO.boxs ⟨.s,trivial⟩⟩,⟨rfl,fun _ h=>by cases h⟩⟩) (WV.tups ⟨.s,.s,trivial⟩) ⟨rfl,rfl⟩
  have h2:=bif_t h1
  clear h1
  conv=>whnf
  refine Gate.go ?_
  conv=>whnf
  refine Nm.mk ⟨[.lit (.int .i64 1),.lit (.string (⟨#[]⟩))],rfl,?_⟩
  conv=>whnf
  refine Nm.mk ⟨[.lit (.int .i64 1),.lit (.string (⟨#[]⟩))],rfl,?_⟩
  have eh2_0:=Option.some.inj h2
  subst eh2_0
  conv=>whnf
  exact Returns.hand (v:=.tup [listing.item.enc ((⟨1,⟨#[]⟩⟩:listing.item)),.lit (.int .i64 0)]) (keep:=[0]) (frz:=[]) (m:=0) (h':=[.box [.lit (.string o_0)]]) rfl rfl (WH.of (by decide) rfl rfl ⟨⟨_,rfl,WO.boxs ⟨.s,trivial⟩⟩,⟨rfl,fun _ h=>by cases h⟩⟩) (WV.tups ⟨.s,.s,trivial⟩) ⟨rfl,rfl⟩
noncomputable def Lst.integer.j1 (s0:ByteArray) (digits4:ByteArray) (t2_0:Int) (t2_1:Int):Option (api.Value × Int) :=
  Option.bind (Strconv.Atoi digits4) fun (t37_0,t37_1) =>
  bif t37_1 then
    letk (decide (t37_0 > (2147483647:Int))) fun t41_1 =>
    bif t41_1 then
      some ((⟨0,0⟩:api.Value),10)
    else
      chk (0 ≤ (0:Int) ∧ (0:Int) < (s0.size:Int)) <|
      letk (bt s0 (0:Int)) fun t44_1 =>
      letk (t44_1 == (45:Int)) fun t45_1 =>
      bif t45_1 then
        letk (IntKind.i64.wrap (0 - t37_0)) fun t47_1 =>
        some ((⟨1,t47_1⟩:api.Value),0)
      else
        some ((⟨1,t37_0⟩:api.Value),0)
  else
    letk (decide (t37_0 > (2147483647:Int))) fun t41 =>
    bif t41 then
      some ((⟨0,0⟩:api.Value),10)
    else
      chk (0 ≤ (0:Int) ∧ (0:Int) < (s0.size:Int)) <|
      letk (bt s0 (0:Int)) fun t44 =>
      letk (t44 == (45:Int)) fun t45 =>
      bif t45 then
        letk (IntKind.i64.wrap (0 - t37_0)) fun t47 =>
        some ((⟨1,t47⟩:api.Value),0)
      else
        some ((⟨1,t37_0⟩:api.Value),0)
noncomputable def Lst.integer.j2 (s0:ByteArray) (digits4:ByteArray) (t2_0_1:Int) (t2_1_1:Int) (t33:Bool):Option (api.Value × Int) :=
  bif t33 then
    some ((⟨0,0⟩:api.Value),3)
  else
    Lst.integer.j1 s0 digits4 t2_0_1 t2_1_1
noncomputable def Lst.integer.j0 (s0:ByteArray) (digits4:ByteArray):Option (api.Value × Int) :=
  letk (digits4.toList == (⟨#[]⟩:ByteArray).toList) fun t23 =>
  bif t23 then
    Lst.integer.j2 s0 digits4 0 0 true
  else
    letk ((digits4.size:Int)) fun t26 =>
    letk (decide (t26 > (10:Int))) fun t27 =>
    bif t27 then
      Lst.integer.j2 s0 digits4 0 0 true
    else
      Option.bind (Strs.Trim digits4 ⟨#[48,49,50,51,52,53,54,55,56,57]⟩) fun t31 =>
      letk (!(t31.toList == (⟨#[]⟩:ByteArray).toList)) fun t32 =>
      Lst.integer.j2 s0 digits4 0 0 t32
noncomputable def Lst.integer (s0:ByteArray):Option (api.Value × Int) :=
  letk (!(s0.toList == (⟨#[]⟩:ByteArray).toList)) fun t9 =>
  bif t9 then
    chk (0 ≤ (0:Int) ∧ (0:Int) < (s0.size:Int)) <|
    letk (bt s0 (0:Int)) fun t12 =>
    letk (t12 == (45:Int)) fun t13 =>
    bif t13 then
      chk (0 ≤ (1:Int) ∧ (1:Int) ≤ (s0.size:Int)) <|
      letk (s0.extract (1:Int).toNat s0.size) fun t21_1 =>
      Lst.integer.j0 s0 t21_1
    else
      chk (0 ≤ (0:Int) ∧ (0:Int) < (s0.size:Int)) <|
      letk (bt s0 (0:Int)) fun t16 =>
      letk (t16 == (43:Int)) fun t17 =>
      bif t17 then
        chk (0 ≤ (1:Int) ∧ (1:Int) ≤ (s0.size:Int)) <|
        letk (s0.extract (1:Int).toNat s0.size) fun t21 =>
        Lst.integer.j0 s0 t21
      else
        Lst.integer.j0 s0 s0
  else
    Lst.integer.j0 s0 s0
theorem Lst.integer_ok {s0:ByteArray} {r:api.Value × Int} (h0:Lst.integer s0 = some r):Gives Tryz.prog 71 [.lit (.string s0)] (.tup [api.Value.enc r.1,.lit (.int .i64 r.2)]):=by
  unfold Lst.integer at h0
  refine ACalls.of_swp Tryz.func71 rfl (by decide) rfl (st0:=⟨50,[(0,.lit (.string s0))],[]⟩) rfl (bwp_ok (C:=[(0,4),(0,6),(43,11)]) ?_)
  conv=>whnf
  refine Nm.mk ⟨[.lit (.int .i64 0),.lit (.int .i64 0)],rfl,?_⟩
  conv=>whnf
  refine CutN.of (fun s=>∃ (digits4:ByteArray),Lst.integer.j0 s0 digits4 = some r ∧ s = (⟨50,[(0,.lit (.string s0)),(2,.ptr 0 0),(4,.lit (.string digits4))],[.box [.lit (.int .i64 0),.lit (.int .i64 0)]]⟩:St)) ?_ ?_
  · obtain ⟨t9,et9,h1⟩:=letk_elim h0; clear h0
    conv=>whnf
    refine Nm.mk ⟨t9,et9,?_⟩
    rcases t9 with _ | _
    · have h2:=bif_f h1
      clear h1
      exact BackS.by ⟨_,h2,rfl⟩ (Sees.of (Weak.objs (keep:=[0]) (frz:=[]) (m:=0) rfl (by decide) rfl rfl ⟨⟨_,rfl,WO.boxs ⟨.s,.s,trivial⟩⟩,⟨rfl,fun _ h=>by cases h⟩⟩ ⟨.s,(.ptr _ _ 0 rfl),.s,trivial⟩))
    have h2:=bif_t h1
    clear h1
    obtain ⟨ch3,h3⟩:=chk_elim h2; clear h2
    obtain ⟨t12,et12,h4⟩:=letk_elim h3; clear h3
    conv=>whnf
    refine Side.mk ch3 ?_
    conv=>whnf
    refine Nm.mk ⟨t12,et12,?_⟩
    obtain ⟨t13,et13,h5⟩:=letk_elim h4; clear h4
    conv=>whnf
    refine Nm.mk ⟨t13,et13,?_⟩
    rcases t13 with _ | _
    · have h6:=bif_f h5
      clear h5
      obtain ⟨ch7,h7⟩:=chk_elim h6; clear h6
      obtain ⟨t16,et16,h8⟩:=letk_elim h7; clear h7
      conv=>whnf
      refine Side.mk ch7 ?_
      conv=>whnf
      refine Nm.mk ⟨t16,et16,?_⟩
      obtain ⟨t17,et17,h9⟩:=letk_elim h8; clear h8
      conv=>whnf
      refine Nm.mk ⟨t17,et17,?_⟩
      rcases t17 with _ | _
      · have h10:=bif_f h9
        clear h9
        exact BackS.by ⟨_,h10,rfl⟩ (Sees.of (Weak.objs (keep:=[0]) (frz:=[]) (m:=0) rfl (by decide) rfl rfl ⟨⟨_,rfl,WO.boxs ⟨.s,.s,trivial⟩⟩,⟨rfl,fun _ h=>by cases h⟩⟩ ⟨.s,(.ptr _ _ 0 rfl),.s,trivial⟩))
      have h10:=bif_t h9
      clear h9
      obtain ⟨ch11,h11⟩:=chk_elim h10; clear h10
      obtain ⟨t21,et21,h12⟩:=letk_elim h11; clear h11
      conv=>whnf
      refine Side.mk ch11 ?_
      conv=>whnf
      refine Nm.mk ⟨t21,et21,?_⟩
      exact BackS.by ⟨_,h12,rfl⟩ (Sees.of (Weak.objs (keep:=[0]) (frz:=[]) (m:=0) rfl (by decide) rfl rfl ⟨⟨_,rfl,WO.boxs ⟨.s,.s,trivial⟩⟩,⟨rfl,fun _ h=>by cases h⟩⟩ ⟨.s,(.ptr _ _ 0 rfl),.s,trivial⟩))
    have h6:=bif_t h5
    clear h5
    obtain ⟨ch7,h7⟩:=chk_elim h6; clear h6
    obtain ⟨t21_1,et21_1,h8⟩:=letk_elim h7; clear h7
    conv=>whnf
    refine Side.mk ch7 ?_
    conv=>whnf
    refine Nm.mk ⟨t21_1,et21_1,?_⟩
    exact BackS.by ⟨_,h8,rfl⟩ (Sees.of (Weak.objs (keep:=[0]) (frz:=[]) (m:=0) rfl (by decide) rfl rfl ⟨⟨_,rfl,WO.boxs ⟨.s,.s,trivial⟩⟩,⟨rfl,fun _ h=>by cases h⟩⟩ ⟨.s,(.ptr _ _ 0 rfl),.s,trivial⟩))
  clear h0
  rintro s ⟨digits4,hj0,rfl⟩
  unfold Lst.integer.j0 at hj0
  conv=>whnf
  refine CutN.of (fun s=>∃ (t2_0:Int) (t2_1:Int),Lst.integer.j1 s0 digits4 t2_0 t2_1 = some r ∧ s = (⟨50,[(0,.lit (.string s0)),(2,.ptr 0 0),(4,.lit (.string digits4))],[.box [.lit (.int .i64 t2_0),.lit (.int .i64 t2_1)]]⟩:St)) ?_ ?_
  · conv=>whnf
    refine CutN.of (fun s=>∃ (t2_0_1:Int) (t2_1_1:Int) (t33:Bool),Lst.integer.j2 s0 digits4 t2_0_1 t2_1_1 t33 = some r ∧ s = (⟨50,[(0,.lit (.string s0)),(2,.ptr 0 0),(4,.lit (.string digits4)),(33,.lit (.bool t33))],[.box [.lit (.int .i64 t2_0_1),.lit (.int .i64 t2_1_1)]]⟩:St)) ?_ ?_
    · obtain ⟨t23,et23,hj1⟩:=letk_elim hj0; clear hj0
      conv=>whnf
      refine Nm.mk ⟨t23,et23,?_⟩
      rcases t23 with _ | _
      · have hj2:=bif_f hj1
        clear hj1
        obtain ⟨t26,et26,hj3⟩:=letk_elim hj2; clear hj2
        conv=>whnf
        refine Nm.mk ⟨t26,et26,?_⟩
        obtain ⟨t27,et27,hj4⟩:=letk_elim hj3; clear hj3
        conv=>whnf
        refine Nm.mk ⟨t27,et27,?_⟩
        rcases t27 with _ | _
        · have hj5:=bif_f hj4
          clear hj4
          obtain ⟨t31,et31,hj6⟩:=bind_elim hj5; clear hj5
          conv=>whnf
          refine Gate.go ?_
          conv=>whnf
          refine CallN.by (v:=.lit (.string t31)) (Strs.Trim_ok et31) rfl rfl ?_
          obtain ⟨t32,et32,hj7⟩:=letk_elim hj6; clear hj6
          conv=>whnf
          refine Nm.mk ⟨t32,et32,?_⟩
          exact BackS.by ⟨_,_,_,hj7,rfl⟩ (Sees.of (Weak.objs (keep:=[0]) (frz:=[]) (m:=0) rfl (by decide) rfl rfl ⟨⟨_,rfl,WO.boxs ⟨.s,.s,trivial⟩⟩,⟨rfl,fun _ h=>by cases h⟩⟩ ⟨.s,(.ptr _ _ 0 rfl),.s,.s,trivial⟩))
        have hj5:=bif_t hj4
        clear hj4
        exact BackS.by ⟨_,_,_,hj5,rfl⟩ (Sees.of (Weak.objs (keep:=[0]) (frz:=[]) (m:=0) rfl (by decide) rfl rfl ⟨⟨_,rfl,WO.boxs ⟨.s,.s,trivial⟩⟩,⟨rfl,fun _ h=>by cases h⟩⟩ ⟨.s,(.ptr _ _ 0 rfl),.s,.s,trivial⟩))
      have hj2:=bif_t hj1
      clear hj1
      exact BackS.by ⟨_,_,_,hj2,rfl⟩ (Sees.of (Weak.objs (keep:=[0]) (frz:=[]) (m:=0) rfl (by decide) rfl rfl ⟨⟨_,rfl,WO.boxs ⟨.s,.s,trivial⟩⟩,⟨rfl,fun _ h=>by cases h⟩⟩ ⟨.s,(.ptr _ _ 0 rfl),.s,.s,trivial⟩))
    clear hj0
    rintro s ⟨t2_0_1,t2_1_1,t33,hj0,rfl⟩
    unfold Lst.integer.j2 at hj0
    rcases t33 with _ | _
    · have hj1:=bif_f hj0
      clear hj0
      exact BackS.by ⟨_,_,hj1,rfl⟩ (Sees.of (Weak.objs (keep:=[0]) (frz:=[]) (m:=0) rfl (by decide) rfl rfl ⟨⟨_,rfl,WO.boxs ⟨.s,.s,trivial⟩⟩,⟨rfl,fun _ h=>by cases h⟩⟩ ⟨.s,(.ptr _ _ 0 rfl),.s,trivial⟩))
    have hj1:=bif_t hj0
    clear hj0
    conv=>whnf
    refine Gate.go ?_
    conv=>whnf
    refine Nm.mk ⟨[.lit (.int .i64 0),.lit (.int .i64 0)],rfl,?_⟩
    conv=>whnf
    refine Nm.mk ⟨[.lit (.int .i64 0),.lit (.int .i64 0)],rfl,?_⟩
    have ehj1_0:=Option.some.inj hj1
    subst ehj1_0
    conv=>whnf
    exact Returns.pure (r:=.tup [api.Value.enc ((⟨0,0⟩:api.Value)),.lit (.int .i64 3)]) rfl rfl rfl rfl ⟨rfl,rfl⟩
  clear hj0
  rintro s ⟨t2_0,t2_1,hj0,rfl⟩
  unfold Lst.integer.j1 at hj0
  obtain ⟨⟨t37_0,t37_1⟩,et37,hj1⟩:=bind_elim hj0; clear hj0
  conv=>whnf
  refine Gate.go ?_
  rcases t37_1 with _ | _
  · have hj2:=bif_f hj1
    clear hj1
    conv=>whnf
    refine CallN.byE (v:=fun Nt37=>.tup [.lit (.int .i64 t37_0),.lit (.iface 200 (.pointer (some ⟨Nt37,0,none⟩)))]) (Strconv.Atoi_err et37) rfl (fun _=>rfl) (fun Nt37=>?_)
    obtain ⟨t41,et41,hj3⟩:=letk_elim hj2; clear hj2
    conv=>whnf
    refine Nm.mk ⟨t41,et41,?_⟩
    rcases t41 with _ | _
    · have hj4:=bif_f hj3
      clear hj3
      obtain ⟨chj5,hj5⟩:=chk_elim hj4; clear hj4
      obtain ⟨t44,et44,hj6⟩:=letk_elim hj5; clear hj5
      conv=>whnf
      refine Side.mk chj5 ?_
      conv=>whnf
      refine Nm.mk ⟨t44,et44,?_⟩
      obtain ⟨t45,et45,hj7⟩:=letk_elim hj6; clear hj6
      conv=>whnf
      refine Nm.mk ⟨t45,et45,?_⟩
      rcases t45 with _ | _
      · have hj8:=bif_f hj7
        clear hj7
        conv=>whnf
        refine Gate.go ?_
        conv=>whnf
        refine Nm.mk ⟨[.lit (.int .i64 1),.lit (.int .i64 t37_0)],rfl,?_⟩
        conv=>whnf
        refine Nm.mk ⟨[.lit (.int .i64 1),.lit (.int .i64 t37_0)],rfl,?_⟩
        have ehj8_0:=Option.some.inj hj8
        subst ehj8_0
        conv=>whnf
        exact Returns.pure (r:=.tup [api.Value.enc ((⟨1,t37_0⟩:api.Value)),.lit (.int .i64 0)]) rfl rfl rfl rfl ⟨rfl,rfl⟩
      have hj8:=bif_t hj7
      clear hj7
      obtain ⟨t47,et47,hj9⟩:=letk_elim hj8; clear hj8
      conv=>whnf
      refine Nm.mk ⟨t47,et47,?_⟩
      conv=>whnf
      refine Gate.go ?_
      conv=>whnf
      refine Nm.mk ⟨[.lit (.int .i64 1),.lit (.int .i64 t47)],rfl,?_⟩
      conv=>whnf
      refine Nm.mk ⟨[.lit (.int .i64 1),.lit (.int .i64 t47)],rfl,?_⟩
      have ehj9_0:=Option.some.inj hj9
      subst ehj9_0
      conv=>whnf
      exact Returns.pure (r:=.tup [api.Value.enc ((⟨1,t47⟩:api.Value)),.lit (.int .i64 0)]) rfl rfl rfl rfl ⟨rfl,rfl⟩
    have hj4:=bif_t hj3
    clear hj3
    conv=>whnf
    refine Gate.go ?_
    conv=>whnf
    refine Nm.mk ⟨[.lit (.int .i64 0),.lit (.int .i64 0)],rfl,?_⟩
    conv=>whnf
    refine Nm.mk ⟨[.lit (.int .i64 0),.lit (.int .i64 0)],rfl,?_⟩
    have ehj4_0:=Option.some.inj hj4
    subst ehj4_0
    conv=>whnf
    exact Returns.pure (r:=.tup [api.Value.enc ((⟨0,0⟩:api.Value)),.lit (.int .i64 10)]) rfl rfl rfl rfl ⟨rfl,rfl⟩
  have hj2:=bif_t hj1
  clear hj1
  conv=>whnf
  refine CallN.by (v:=.tup [.lit (.int .i64 t37_0),.lit Value.nilIface]) (Strconv.Atoi_ok et37) rfl rfl ?_
  obtain ⟨t41_1,et41_1,hj3⟩:=letk_elim hj2; clear hj2
  conv=>whnf
  refine Nm.mk ⟨t41_1,et41_1,?_⟩
  rcases t41_1 with _ | _
  · have hj4:=bif_f hj3
    clear hj3
    obtain ⟨chj5,hj5⟩:=chk_elim hj4; clear hj4
    obtain ⟨t44_1,et44_1,hj6⟩:=letk_elim hj5; clear hj5
    conv=>whnf
    refine Side.mk chj5 ?_
    conv=>whnf
    refine Nm.mk ⟨t44_1,et44_1,?_⟩
    obtain ⟨t45_1,et45_1,hj7⟩:=letk_elim hj6; clear hj6
    conv=>whnf
    refine Nm.mk ⟨t45_1,et45_1,?_⟩
    rcases t45_1 with _ | _
    · have hj8:=bif_f hj7
      clear hj7
      conv=>whnf
      refine Gate.go ?_
      conv=>whnf
      refine Nm.mk ⟨[.lit (.int .i64 1),.lit (.int .i64 t37_0)],rfl,?_⟩
      conv=>whnf
      refine Nm.mk ⟨[.lit (.int .i64 1),.lit (.int .i64 t37_0)],rfl,?_⟩
      have ehj8_0:=Option.some.inj hj8
      subst ehj8_0
      conv=>whnf
      exact Returns.pure (r:=.tup [api.Value.enc ((⟨1,t37_0⟩:api.Value)),.lit (.int .i64 0)]) rfl rfl rfl rfl ⟨rfl,rfl⟩
    have hj8:=bif_t hj7
    clear hj7
    obtain ⟨t47_1,et47_1,hj9⟩:=letk_elim hj8; clear hj8
    conv=>whnf
    refine Nm.mk ⟨t47_1,et47_1,?_⟩
    conv=>whnf
    refine Gate.go ?_
    conv=>whnf
    refine Nm.mk ⟨[.lit (.int .i64 1),.lit (.int .i64 t47_1)],rfl,?_⟩
    conv=>whnf
    refine Nm.mk ⟨[.lit (.int .i64 1),.lit (.int .i64 t47_1)],rfl,?_⟩
    have ehj9_0:=Option.some.inj hj9
    subst ehj9_0
    conv=>whnf
    exact Returns.pure (r:=.tup [api.Value.enc ((⟨1,t47_1⟩:api.Value)),.lit (.int .i64 0)]) rfl rfl rfl rfl ⟨rfl,rfl⟩
  have hj4:=bif_t hj3
  clear hj3
  conv=>whnf
  refine Gate.go ?_
  conv=>whnf
  refine Nm.mk ⟨[.lit (.int .i64 0),.lit (.int .i64 0)],rfl,?_⟩
  conv=>whnf
  refine Nm.mk ⟨[.lit (.int .i64 0),.lit (.int .i64 0)],rfl,?_⟩
  have ehj4_0:=Option.some.inj hj4
  subst ehj4_0
  conv=>whnf
  exact Returns.pure (r:=.tup [api.Value.enc ((⟨0,0⟩:api.Value)),.lit (.int .i64 10)]) rfl rfl rfl rfl ⟨rfl,rfl⟩
noncomputable def Lst.value (s0:ByteArray) (kind1:Int):Option (api.Value × Int) :=
  letk (kind1 == (1:Int)) fun t12 =>
  bif t12 then
    Option.bind (Lst.integer s0) fun (t14_0,t14_1) =>
    some ((⟨t14_0.Kind,t14_0.N⟩:api.Value),t14_1)
  else
    letk (kind1 == (2:Int)) fun t18 =>
    bif t18 then
      none
    else
      none
theorem Lst.value_ok {s0:ByteArray} {kind1:Int} {r:api.Value × Int} (h0:Lst.value s0 kind1 = some r):Gives Tryz.prog 40 [.lit (.string s0),.lit (.int .i64 kind1)] (.tup [api.Value.enc r.1,.lit (.int .i64 r.2)]):=by
  unfold Lst.value at h0
  refine ACalls.of_swp Tryz.func40 rfl (by decide) rfl (st0:=⟨40,[(0,.lit (.string s0)),(1,.lit (.int .i64 kind1))],[]⟩) rfl (bwp_ok (C:=[]) ?_)
  conv=>whnf
  refine Nm.mk ⟨[.lit (.int .i64 0),.lit (.int .i64 0)],rfl,?_⟩
  obtain ⟨t12,et12,h1⟩:=letk_elim h0; clear h0
  conv=>whnf
  refine Nm.mk ⟨t12,et12,?_⟩
  rcases t12 with _ | _
  · have h2:=bif_f h1
    clear h1
    obtain ⟨t18,et18,h3⟩:=letk_elim h2; clear h2
    conv=>whnf
    refine Nm.mk ⟨t18,et18,?_⟩
    rcases t18 with _ | _
    · have h4:=bif_f h3
      clear h3
      cases h4
    have h4:=bif_t h3
    clear h3
    cases h4
  have h2:=bif_t h1
  clear h1
  obtain ⟨⟨t14_0,t14_1⟩,et14,h3⟩:=bind_elim h2; clear h2
  conv=>whnf
  refine Gate.go ?_
  conv=>whnf
  refine CallN.by (v:=.tup [api.Value.enc t14_0,.lit (.int .i64 t14_1)]) (Lst.integer_ok et14) rfl rfl ?_
  conv=>whnf
  refine Nm.mk ⟨[.lit (.int .i64 t14_0.Kind),.lit (.int .i64 t14_0.N)],rfl,?_⟩
  have eh3_0:=Option.some.inj h3
  subst eh3_0
  conv=>whnf
  exact Returns.pure (r:=.tup [api.Value.enc ((⟨t14_0.Kind,t14_0.N⟩:api.Value)),.lit (.int .i64 t14_1)]) rfl rfl rfl rfl ⟨rfl,rfl⟩
end Go.Q
