import Derived.Test.YtmfhkipeapdfmaaGreatDoorDGE
import Derived.Test.YtmfhkipeapdfmaaGreatDoorFX
import Derived.Test.YtmfhkipeapdfmaaGreatDoorFY
import Derived.Test.YtmfhkipeapdfmaaGreatDoorProg
namespace Go.Q
open Go Go.Proofs
set_option maxRecDepth 10000
set_option maxHeartbeats 2000000
noncomputable def Ref1.Valid (kind0:Int) (a1:Int):Option Bool :=
  letk (kind0 == (2:Int)) fun t7 =>
  bif t7 then
    letk (decide (a1 ≥ (0:Int))) fun t9 =>
    bif t9 then
      letk (decide (a1 < (65536:Int))) fun t12 =>
      some t12
    else
      some false
  else
    letk (kind0 == (4:Int)) fun t15 =>
    bif t15 then
      letk (decide (a1 ≥ (0:Int))) fun t17 =>
      bif t17 then
        letk (decide (a1 < (4294967296:Int))) fun t20 =>
        some t20
      else
        some false
    else
      letk (kind0 == (8:Int)) fun t23 =>
      some t23
theorem Ref1.Valid_ok {kind0:Int} {a1:Int} {r:Bool} (h0:Ref1.Valid kind0 a1 = some r):Gives Tryz.prog 25 [.lit (.int .i64 kind0),.lit (.int .i64 a1)] (.lit (.bool r)):=by
  unfold Ref1.Valid at h0
  refine ACalls.of_swp Tryz.func25 rfl (by decide) rfl (st0:=⟨24,[(0,.lit (.int .i64 kind0)),(1,.lit (.int .i64 a1))],[]⟩) rfl (bwp_ok (C:=[]) ?_)
  obtain ⟨t7,et7,h1⟩:=letk_elim h0; clear h0
  conv=>whnf
  refine Nm.mk ⟨t7,et7,?_⟩
  rcases t7 with _ | _
  · have h2:=bif_f h1
    clear h1
    obtain ⟨t15,et15,h3⟩:=letk_elim h2; clear h2
    conv=>whnf
    refine Nm.mk ⟨t15,et15,?_⟩
    rcases t15 with _ | _
    · have h4:=bif_f h3
      clear h3
      obtain ⟨t23,et23,h5⟩:=letk_elim h4; clear h4
      conv=>whnf
      refine Nm.mk ⟨t23,et23,?_⟩
      have eh5_0:=Option.some.inj h5
      subst eh5_0
      conv=>whnf
      exact Returns.pure (r:=.lit (.bool t23)) rfl rfl rfl rfl ⟨rfl,rfl⟩
    have h4:=bif_t h3
    clear h3
    obtain ⟨t17,et17,h5⟩:=letk_elim h4; clear h4
    conv=>whnf
    refine Nm.mk ⟨t17,et17,?_⟩
    rcases t17 with _ | _
    · have h6:=bif_f h5
      clear h5
      have eh6_0:=Option.some.inj h6
      subst eh6_0
      conv=>whnf
      exact Returns.pure (r:=.lit (.bool false)) rfl rfl rfl rfl ⟨rfl,rfl⟩
    have h6:=bif_t h5
    clear h5
    obtain ⟨t20,et20,h7⟩:=letk_elim h6; clear h6
    conv=>whnf
    refine Nm.mk ⟨t20,et20,?_⟩
    have eh7_0:=Option.some.inj h7
    subst eh7_0
    conv=>whnf
    exact Returns.pure (r:=.lit (.bool t20)) rfl rfl rfl rfl ⟨rfl,rfl⟩
  have h2:=bif_t h1
  clear h1
  obtain ⟨t9,et9,h3⟩:=letk_elim h2; clear h2
  conv=>whnf
  refine Nm.mk ⟨t9,et9,?_⟩
  rcases t9 with _ | _
  · have h4:=bif_f h3
    clear h3
    have eh4_0:=Option.some.inj h4
    subst eh4_0
    conv=>whnf
    exact Returns.pure (r:=.lit (.bool false)) rfl rfl rfl rfl ⟨rfl,rfl⟩
  have h4:=bif_t h3
  clear h3
  obtain ⟨t12,et12,h5⟩:=letk_elim h4; clear h4
  conv=>whnf
  refine Nm.mk ⟨t12,et12,?_⟩
  have eh5_0:=Option.some.inj h5
  subst eh5_0
  conv=>whnf
  exact Returns.pure (r:=.lit (.bool t12)) rfl rfl rfl rfl ⟨rfl,rfl⟩
noncomputable def Ref1.Digits (kind0:Int):Option Int :=
  letk (kind0 == (2:Int)) fun t5 =>
  bif t5 then
    some 11
  else
    letk (kind0 == (4:Int)) fun t7 =>
    bif t7 then
      some 24
    else
      letk (kind0 == (8:Int)) fun t9 =>
      bif t9 then
        some 53
      else
        some 0
theorem Ref1.Digits_ok {kind0:Int} {r:Int} (h0:Ref1.Digits kind0 = some r):Gives Tryz.prog 62 [.lit (.int .i64 kind0)] (.lit (.int .i64 r)):=by
  unfold Ref1.Digits at h0
  refine ACalls.of_swp Tryz.func62 rfl (by decide) rfl (st0:=⟨10,[(0,.lit (.int .i64 kind0))],[]⟩) rfl (bwp_ok (C:=[]) ?_)
  obtain ⟨t5,et5,h1⟩:=letk_elim h0; clear h0
  conv=>whnf
  refine Nm.mk ⟨t5,et5,?_⟩
  rcases t5 with _ | _
  · have h2:=bif_f h1
    clear h1
    obtain ⟨t7,et7,h3⟩:=letk_elim h2; clear h2
    conv=>whnf
    refine Nm.mk ⟨t7,et7,?_⟩
    rcases t7 with _ | _
    · have h4:=bif_f h3
      clear h3
      obtain ⟨t9,et9,h5⟩:=letk_elim h4; clear h4
      conv=>whnf
      refine Nm.mk ⟨t9,et9,?_⟩
      rcases t9 with _ | _
      · have h6:=bif_f h5
        clear h5
        have eh6_0:=Option.some.inj h6
        subst eh6_0
        conv=>whnf
        exact Returns.pure (r:=.lit (.int .i64 0)) rfl rfl rfl rfl ⟨rfl,rfl⟩
      have h6:=bif_t h5
      clear h5
      have eh6_0:=Option.some.inj h6
      subst eh6_0
      conv=>whnf
      exact Returns.pure (r:=.lit (.int .i64 53)) rfl rfl rfl rfl ⟨rfl,rfl⟩
    have h4:=bif_t h3
    clear h3
    have eh4_0:=Option.some.inj h4
    subst eh4_0
    conv=>whnf
    exact Returns.pure (r:=.lit (.int .i64 24)) rfl rfl rfl rfl ⟨rfl,rfl⟩
  have h2:=bif_t h1
  clear h1
  have eh2_0:=Option.some.inj h2
  subst eh2_0
  conv=>whnf
  exact Returns.pure (r:=.lit (.int .i64 11)) rfl rfl rfl rfl ⟨rfl,rfl⟩
noncomputable def Ref1.Of.s0 (out3:List Int) (u4:Int):Option (((List Int) × Int) ⊕ ((List Int))) :=
  letk (decide (u4 > (0:Int))) fun t8 =>
  bif t8 then
    chk ((2:Int) ≠ 0) <|
    letk (u4.tmod (2:Int)) fun t13 =>
    letk (IntKind.u8.wrap t13) fun t14 =>
    chk ((out3.length + ([t14]).length) * 1 ≤ 140737488355328) <|
    letk (out3 ++ ([t14])) fun t16 =>
    chk ((2:Int) ≠ 0) <|
    letk (IntKind.u64.wrap (u4.tdiv (2:Int))) fun t10 =>
    some (.inl (t16,t10))
  else
    some (.inr out3)
noncomputable def Ref1.Of.l0 (out3:List Int) (u4:Int):Option ((List Int)):=loopO (fun v:(List Int) × Int=>Ref1.Of.s0 v.1 v.2) (out3,u4)
noncomputable def Ref1.Of (n0:Int):Option ((List Int)) :=
  letk (IntKind.u64.wrap n0) fun t6 =>
  Ref1.Of.l0 ([]) t6
theorem Ref1.Of_ok {n0:Int} {r:(List Int)} (h0:Ref1.Of n0 = some r):Gives Tryz.prog 114 [.lit (.int .i64 n0)] (.vs 1 (r.map (eI .u8))):=by
  unfold Ref1.Of at h0
  refine ACalls.of_swp Tryz.func114 rfl (by decide) rfl (st0:=⟨18,[(0,.lit (.int .i64 n0))],[]⟩) rfl (bwp_ok (C:=[]) ?_)
  obtain ⟨t6,et6,h1⟩:=letk_elim h0; clear h0
  conv=>whnf
  refine Nm.mk ⟨t6,et6,?_⟩
  conv=>whnf
  unfold Ref1.Of.l0 at h1
  refine LoopB.of (σ:=(List Int) × Int) (ρ:=(List Int)) (fun v:(List Int) × Int=>Ref1.Of.s0 v.1 v.2) (fun v=>(⟨18,[(3,.ref 0 0 ((v.1.map (eI .u8)).length)),(4,.lit (.int .u64 v.2))],[.arr 1 (v.1.map (eI .u8))]⟩:St)) ([],t6) h1 (BackS.by rfl (Sees.of (Weak.objs (keep:=[]) (frz:=[]) (m:=1) rfl (by decide) rfl rfl ⟨rfl,fun ob ho=>by simp only [List.mem_cons,List.not_mem_nil,or_false] at ho; exact ⟨_,ho⟩⟩ ⟨(.nilsRef 0 (by decide) (by decide)),.s,trivial⟩))) ?_
  clear h1
  rintro K1 ⟨out3,u4⟩ x1 hs0_0 hl1 hr1
  replace hs0_0:Ref1.Of.s0 out3 u4 = some x1:=hs0_0
  unfold Ref1.Of.s0 at hs0_0
  change bwp _ _ _ _ _ (⟨18,[(3,.ref 0 0 ((out3.map (eI .u8)).length)),(4,.lit (.int .u64 u4))],[.arr 1 (out3.map (eI .u8))]⟩:St)
  obtain ⟨t8,et8,hs0_1⟩:=letk_elim hs0_0; clear hs0_0
  conv=>whnf
  refine Nm.mk ⟨t8,et8,?_⟩
  rcases t8 with _ | _
  · have hs0_2:=bif_f hs0_1
    clear hs0_1
    have ehs0_2u_0:=hr1 _ (Option.some.inj hs0_2).symm
    have hs0_2u:=congrArg some ehs0_2u_0
    have ehs0_2u_0:=Option.some.inj hs0_2u
    subst ehs0_2u_0
    conv=>whnf
    exact Returns.frozen (r:=.vs 1 (out3.map (eI .u8))) [0] rfl rfl (WV.all (k:=0) (by decide) rfl) ⟨rfl,rfl⟩
  have hs0_2:=bif_t hs0_1
  clear hs0_1
  obtain ⟨chs0_3,hs0_3⟩:=chk_elim hs0_2; clear hs0_2
  obtain ⟨t13,et13,hs0_4⟩:=letk_elim hs0_3; clear hs0_3
  conv=>whnf
  refine Side.mk chs0_3 ?_
  conv=>whnf
  refine Nm.mk ⟨t13,et13,?_⟩
  obtain ⟨t14,et14,hs0_5⟩:=letk_elim hs0_4; clear hs0_4
  conv=>whnf
  refine Nm.mk ⟨t14,et14,?_⟩
  conv=>whnf
  refine Gate.go ?_
  conv=>whnf
  refine Nm.mk ⟨([t14]).map (eI .u8),rfl,?_⟩
  obtain ⟨chs0_6,hs0_6⟩:=chk_elim hs0_5; clear hs0_5
  obtain ⟨t16,et16,hs0_7⟩:=letk_elim hs0_6; clear hs0_6
  conv=>whnf
  refine Gate.go ?_
  conv=>whnf
  refine Side.mk (full_le _) ?_
  conv=>whnf
  refine Side.mk ⟨full_le _,one_map (fun _ _ hc=>by simp only [AV.cells,List.mem_singleton] at hc; subst hc; rfl)⟩ ?_
  conv=>whnf
  refine Side.mk (side_rr (by decide) chs0_6) ?_
  conv=>whnf
  refine Nm.mk ⟨t16.map (eI .u8),by rw [et16]; exact app_rr (m:=[t14]),?_⟩
  obtain ⟨chs0_8,hs0_8⟩:=chk_elim hs0_7; clear hs0_7
  obtain ⟨t10,et10,hs0_9⟩:=letk_elim hs0_8; clear hs0_8
  conv=>whnf
  refine Side.mk chs0_8 ?_
  conv=>whnf
  refine Nm.mk ⟨t10,et10,?_⟩
  exact BackS.by ⟨_,hl1 _ (Option.some.inj hs0_9).symm,rfl⟩ (Sees.of (Weak.objs (keep:=[2]) (frz:=[]) (m:=0) rfl (by decide) rfl rfl ⟨⟨_,rfl,.arr _ _⟩,⟨rfl,fun _ h=>by cases h⟩⟩ ⟨(.ref _ _ _ 0 rfl),.s,trivial⟩))
noncomputable def Ref1.Bias (kind0:Int):Option Int :=
  letk (kind0 == (2:Int)) fun t5 =>
  bif t5 then
    some 15
  else
    letk (kind0 == (4:Int)) fun t7 =>
    bif t7 then
      some 127
    else
      some 1023
theorem Ref1.Bias_ok {kind0:Int} {r:Int} (h0:Ref1.Bias kind0 = some r):Gives Tryz.prog 116 [.lit (.int .i64 kind0)] (.lit (.int .i64 r)):=by
  unfold Ref1.Bias at h0
  refine ACalls.of_swp Tryz.func116 rfl (by decide) rfl (st0:=⟨8,[(0,.lit (.int .i64 kind0))],[]⟩) rfl (bwp_ok (C:=[]) ?_)
  obtain ⟨t5,et5,h1⟩:=letk_elim h0; clear h0
  conv=>whnf
  refine Nm.mk ⟨t5,et5,?_⟩
  rcases t5 with _ | _
  · have h2:=bif_f h1
    clear h1
    obtain ⟨t7,et7,h3⟩:=letk_elim h2; clear h2
    conv=>whnf
    refine Nm.mk ⟨t7,et7,?_⟩
    rcases t7 with _ | _
    · have h4:=bif_f h3
      clear h3
      have eh4_0:=Option.some.inj h4
      subst eh4_0
      conv=>whnf
      exact Returns.pure (r:=.lit (.int .i64 1023)) rfl rfl rfl rfl ⟨rfl,rfl⟩
    have h4:=bif_t h3
    clear h3
    have eh4_0:=Option.some.inj h4
    subst eh4_0
    conv=>whnf
    exact Returns.pure (r:=.lit (.int .i64 127)) rfl rfl rfl rfl ⟨rfl,rfl⟩
  have h2:=bif_t h1
  clear h1
  have eh2_0:=Option.some.inj h2
  subst eh2_0
  conv=>whnf
  exact Returns.pure (r:=.lit (.int .i64 15)) rfl rfl rfl rfl ⟨rfl,rfl⟩
noncomputable def Ref1.least (kind0:Int):Option Int :=
  Option.bind (Ref1.Bias kind0) fun t4 =>
  letk (IntKind.i64.wrap ((2:Int) - t4)) fun t5 =>
  Option.bind (Ref1.Digits kind0) fun t7 =>
  letk (IntKind.i64.wrap (t5 - t7)) fun t8 =>
  some t8
theorem Ref1.least_ok {kind0:Int} {r:Int} (h0:Ref1.least kind0 = some r):Gives Tryz.prog 115 [.lit (.int .i64 kind0)] (.lit (.int .i64 r)):=by
  unfold Ref1.least at h0
  refine ACalls.of_swp Tryz.func115 rfl (by decide) rfl (st0:=⟨9,[(0,.lit (.int .i64 kind0))],[]⟩) rfl (bwp_ok (C:=[]) ?_)
  obtain ⟨t4,et4,h1⟩:=bind_elim h0; clear h0
  conv=>whnf
  refine Gate.go ?_
  conv=>whnf
  refine CallN.by (v:=.lit (.int .i64 t4)) (Ref1.Bias_ok et4) rfl rfl ?_
  obtain ⟨t5,et5,h2⟩:=letk_elim h1; clear h1
  conv=>whnf
  refine Nm.mk ⟨t5,et5,?_⟩
  obtain ⟨t7,et7,h3⟩:=bind_elim h2; clear h2
  conv=>whnf
  refine Gate.go ?_
  conv=>whnf
  refine CallN.by (v:=.lit (.int .i64 t7)) (Ref1.Digits_ok et7) rfl rfl ?_
  obtain ⟨t8,et8,h4⟩:=letk_elim h3; clear h3
  conv=>whnf
  refine Nm.mk ⟨t8,et8,?_⟩
  have eh4_0:=Option.some.inj h4
  subst eh4_0
  conv=>whnf
  exact Returns.pure (r:=.lit (.int .i64 t8)) rfl rfl rfl rfl ⟨rfl,rfl⟩
noncomputable def Ref1.taken.j0 (kind0:Int) (t12:Int) (t26:Int) (t35:Int) (t42:Int) (t4_0:ByteArray) (t4_1:Int) (t4_2:List Int) (t4_3:Int):Option quadratref01.float :=
  letk (IntKind.i64.wrap (t12 - (1:Int))) fun t82 =>
  chk (0 ≤ t82) <|
  letk (IntKind.i64.wrap ((1:Int) * 2 ^ (min t82.toNat (IntKind.i64).bits))) fun t83 =>
  letk (IntKind.i64.wrap (t83 + t26)) fun t85 =>
  Option.bind (Ref1.Of t85) fun t86 =>
  Option.bind (Ref1.Bias kind0) fun t89 =>
  letk (IntKind.i64.wrap (t35 - t89)) fun t90 =>
  letk (IntKind.i64.wrap (t90 - t12)) fun t92 =>
  letk (IntKind.i64.wrap (t92 + (1:Int))) fun t93 =>
  some (⟨⟨#[102,105,110,105,116,101]⟩,t42,t86,t93⟩:quadratref01.float)
noncomputable def Ref1.taken.j2 (kind0:Int) (t12:Int) (t26:Int) (t35:Int) (t42:Int) (t4_2_1:List Int) (t62:Bool):Option quadratref01.float :=
  bif t62 then
    some (⟨⟨#[122,101,114,111]⟩,t42,[],0⟩:quadratref01.float)
  else
    letk (t35 == (0:Int)) fun t73 =>
    bif t73 then
      Option.bind (Ref1.Of t26) fun t76 =>
      Option.bind (Ref1.least kind0) fun t78 =>
      some (⟨⟨#[102,105,110,105,116,101]⟩,t42,t76,t78⟩:quadratref01.float)
    else
      Ref1.taken.j0 kind0 t12 t26 t35 t42 (⟨#[]⟩) 0 t4_2_1 0
noncomputable def Ref1.taken.j1 (kind0:Int) (t12:Int) (t17:Int) (t26:Int) (t35:Int) (t42:Int) (t4_2_1:List Int) (t43:Bool):Option quadratref01.float :=
  bif t43 then
    some (⟨⟨#[105,110,102,105,110,105,116,101]⟩,t42,[],0⟩:quadratref01.float)
  else
    chk (0 ≤ t17) <|
    letk (IntKind.i64.wrap ((1:Int) * 2 ^ (min t17.toNat (IntKind.i64).bits))) fun t58 =>
    letk (IntKind.i64.wrap (t58 - (1:Int))) fun t59 =>
    letk (t35 == t59) fun t60 =>
    bif t60 then
      some (⟨⟨#[110,111,110,101]⟩,0,[],0⟩:quadratref01.float)
    else
      letk (t35 == (0:Int)) fun t64 =>
      bif t64 then
        letk (t26 == (0:Int)) fun t67 =>
        Ref1.taken.j2 kind0 t12 t26 t35 t42 t4_2_1 t67
      else
        Ref1.taken.j2 kind0 t12 t26 t35 t42 t4_2_1 false
noncomputable def Ref1.taken (kind0:Int) (a1:Int):Option quadratref01.float :=
  Option.bind (Ref1.Digits kind0) fun t12 =>
  letk (IntKind.i64.wrap ((8:Int) * kind0)) fun t14 =>
  Option.bind (Ref1.Digits kind0) fun t16 =>
  letk (IntKind.i64.wrap (t14 - t16)) fun t17 =>
  letk (IntKind.u64.wrap a1) fun t19 =>
  letk (IntKind.i64.wrap (t12 - (1:Int))) fun t22 =>
  chk (0 ≤ t22) <|
  letk (IntKind.u64.wrap ((1:Int) * 2 ^ (min t22.toNat (IntKind.u64).bits))) fun t23 =>
  letk (IntKind.u64.wrap (t23 - (1:Int))) fun t24 =>
  letk (IntKind.u64.wrap (BitVec.ofInt (IntKind.u64).bits t19 &&& BitVec.ofInt (IntKind.u64).bits t24).toNat) fun t25 =>
  letk (IntKind.i64.wrap t25) fun t26 =>
  letk (IntKind.i64.wrap (t12 - (1:Int))) fun t29 =>
  chk (0 ≤ t29) <|
  letk ((IntKind.u64,t19.fdiv (2 ^ (min t29.toNat (IntKind.u64).bits))).2) fun t30 =>
  chk (0 ≤ t17) <|
  letk (IntKind.u64.wrap ((1:Int) * 2 ^ (min t17.toNat (IntKind.u64).bits))) fun t32 =>
  letk (IntKind.u64.wrap (t32 - (1:Int))) fun t33 =>
  letk (IntKind.u64.wrap (BitVec.ofInt (IntKind.u64).bits t30 &&& BitVec.ofInt (IntKind.u64).bits t33).toNat) fun t34 =>
  letk (IntKind.i64.wrap t34) fun t35 =>
  letk (IntKind.i64.wrap ((8:Int) * kind0)) fun t38 =>
  letk (IntKind.i64.wrap (t38 - (1:Int))) fun t39 =>
  chk (0 ≤ t39) <|
  letk ((IntKind.u64,t19.fdiv (2 ^ (min t39.toNat (IntKind.u64).bits))).2) fun t40 =>
  letk (IntKind.u64.wrap (BitVec.ofInt (IntKind.u64).bits t40 &&& BitVec.ofInt (IntKind.u64).bits (1:Int)).toNat) fun t41 =>
  letk (IntKind.i64.wrap t41) fun t42 =>
  chk (0 ≤ t17) <|
  letk (IntKind.i64.wrap ((1:Int) * 2 ^ (min t17.toNat (IntKind.i64).bits))) fun t46 =>
  letk (IntKind.i64.wrap (t46 - (1:Int))) fun t47 =>
  letk (t35 == t47) fun t48 =>
  bif t48 then
    letk (t26 == (0:Int)) fun t51 =>
    Ref1.taken.j1 kind0 t12 t17 t26 t35 t42 ([]) t51
  else
    Ref1.taken.j1 kind0 t12 t17 t26 t35 t42 ([]) false
theorem Ref1.taken_ok {kind0:Int} {a1:Int} {r:quadratref01.float} (h0:Ref1.taken kind0 a1 = some r):Gives Tryz.prog 60 [.lit (.int .i64 kind0),.lit (.int .i64 a1)] (quadratref01.float.enc r):=by
  unfold Ref1.taken at h0
  refine ACalls.of_swp Tryz.func60 rfl (by decide) rfl (st0:=⟨95,[(0,.lit (.int .i64 kind0)),(1,.lit (.int .i64 a1))],[]⟩) rfl (bwp_ok (C:=[(0,14),(53,15),(72,23)]) ?_)
  conv=>whnf
  refine Nm.mk ⟨[.lit (.string (⟨#[]⟩)),.lit (.int .i64 0),.nils,.lit (.int .i64 0)],rfl,?_⟩
  obtain ⟨t12,et12,h1⟩:=bind_elim h0; clear h0
  conv=>whnf
  refine Gate.go ?_
  conv=>whnf
  refine CallN.by (v:=.lit (.int .i64 t12)) (Ref1.Digits_ok et12) rfl rfl ?_
  obtain ⟨t14,et14,h2⟩:=letk_elim h1; clear h1
  conv=>whnf
  refine Nm.mk ⟨t14,et14,?_⟩
  obtain ⟨t16,et16,h3⟩:=bind_elim h2; clear h2
  conv=>whnf
  refine Gate.go ?_
  conv=>whnf
  refine CallN.by (v:=.lit (.int .i64 t16)) (Ref1.Digits_ok et16) rfl rfl ?_
  obtain ⟨t17,et17,h4⟩:=letk_elim h3; clear h3
  conv=>whnf
  refine Nm.mk ⟨t17,et17,?_⟩
  obtain ⟨t19,et19,h5⟩:=letk_elim h4; clear h4
  conv=>whnf
  refine Nm.mk ⟨t19,et19,?_⟩
  obtain ⟨t22,et22,h6⟩:=letk_elim h5; clear h5
  conv=>whnf
  refine Nm.mk ⟨t22,et22,?_⟩
  obtain ⟨ch7,h7⟩:=chk_elim h6; clear h6
  obtain ⟨t23,et23,h8⟩:=letk_elim h7; clear h7
  conv=>whnf
  refine Side.mk ch7 ?_
  conv=>whnf
  refine Nm.mk ⟨t23,et23,?_⟩
  obtain ⟨t24,et24,h9⟩:=letk_elim h8; clear h8
  conv=>whnf
  refine Nm.mk ⟨t24,et24,?_⟩
  obtain ⟨t25,et25,h10⟩:=letk_elim h9; clear h9
  conv=>whnf
  refine Nm.mk ⟨t25,et25,?_⟩
  obtain ⟨t26,et26,h11⟩:=letk_elim h10; clear h10
  conv=>whnf
  refine Nm.mk ⟨t26,et26,?_⟩
  conv=>whnf
  refine DrawB.ofG [none,none,none,none,none,none,none,none,none,none] Tryz_mixed (by kernel_rfl) (by kernel_rfl) ?_
  conv=>whnf
  refine DNodeB.of (.lit (.int .u64 t19)) ?_ ?_
  · conv=>whnf
    rfl
  conv=>whnf
  refine DNodeB.of (.lit (.int .i64 t12)) ?_ ?_
  · conv=>whnf
    rfl
  obtain ⟨t29,et29,h12⟩:=letk_elim h11; clear h11
  conv=>whnf
  refine DNodeB.of (.lit (.int .i64 t29)) ?_ ?_
  · conv=>whnf
    refine Nm.mk ⟨t29,et29,?_⟩
    conv=>whnf
    rfl
  obtain ⟨ch13,h13⟩:=chk_elim h12; clear h12
  obtain ⟨t30,et30,h14⟩:=letk_elim h13; clear h13
  conv=>whnf
  refine DNodeB.of (.lit (.int .u64 t30)) ?_ ?_
  · conv=>whnf
    refine Side.mk ch13 ?_
    conv=>whnf
    refine Nm.mk ⟨t30,et30,?_⟩
    conv=>whnf
    rfl
  conv=>whnf
  refine DNodeB.of (.lit (.int .i64 t17)) ?_ ?_
  · conv=>whnf
    rfl
  obtain ⟨ch15,h15⟩:=chk_elim h14; clear h14
  obtain ⟨t32,et32,h16⟩:=letk_elim h15; clear h15
  conv=>whnf
  refine DNodeB.of (.lit (.int .u64 t32)) ?_ ?_
  · conv=>whnf
    refine Side.mk ch15 ?_
    conv=>whnf
    refine Nm.mk ⟨t32,et32,?_⟩
    conv=>whnf
    rfl
  obtain ⟨t33,et33,h17⟩:=letk_elim h16; clear h16
  conv=>whnf
  refine DNodeB.of (.lit (.int .u64 t33)) ?_ ?_
  · conv=>whnf
    refine Nm.mk ⟨t33,et33,?_⟩
    conv=>whnf
    rfl
  obtain ⟨t34,et34,h18⟩:=letk_elim h17; clear h17
  conv=>whnf
  refine DNodeB.of (.lit (.int .u64 t34)) ?_ ?_
  · conv=>whnf
    refine Nm.mk ⟨t34,et34,?_⟩
    conv=>whnf
    rfl
  obtain ⟨t35,et35,h19⟩:=letk_elim h18; clear h18
  conv=>whnf
  refine DNodeB.of (.lit (.int .i64 t35)) ?_ ?_
  · conv=>whnf
    refine Nm.mk ⟨t35,et35,?_⟩
    conv=>whnf
    rfl
  conv=>whnf
  refine DNodeB.of (.lit (.int .i64 t35)) ?_ ?_
  · conv=>whnf
    rfl
  obtain ⟨t38,et38,h20⟩:=letk_elim h19; clear h19
  conv=>whnf
  refine Nm.mk ⟨t38,et38,?_⟩
  obtain ⟨t39,et39,h21⟩:=letk_elim h20; clear h20
  conv=>whnf
  refine Nm.mk ⟨t39,et39,?_⟩
  obtain ⟨ch22,h22⟩:=chk_elim h21; clear h21
  obtain ⟨t40,et40,h23⟩:=letk_elim h22; clear h22
  conv=>whnf
  refine Side.mk ch22 ?_
  conv=>whnf
  refine Nm.mk ⟨t40,et40,?_⟩
  obtain ⟨t41,et41,h24⟩:=letk_elim h23; clear h23
  conv=>whnf
  refine Nm.mk ⟨t41,et41,?_⟩
  obtain ⟨t42,et42,h25⟩:=letk_elim h24; clear h24
  conv=>whnf
  refine Nm.mk ⟨t42,et42,?_⟩
  conv=>whnf
  refine CutN.of (fun s=>∃ (t4_0:ByteArray) (t4_1:Int) (t4_2:List Int) (t4_3:Int),Ref1.taken.j0 kind0 t12 t26 t35 t42 t4_0 t4_1 t4_2 t4_3 = some r ∧ s = (⟨95,[(0,.lit (.int .i64 kind0)),(4,.ptr 0 0),(5,.lit (.int .i64 t12)),(8,.lit (.int .i64 t26)),(9,.lit (.int .i64 t35)),(10,.lit (.int .i64 t42))],[.box [.lit (.string t4_0),.lit (.int .i64 t4_1),.vs 1 (t4_2.map (eI .u8)),.lit (.int .i64 t4_3)]]⟩:St)) ?_ ?_
  · conv=>whnf
    refine CutN.of (fun s=>∃ (t4_2_1:List Int) (t43:Bool),Ref1.taken.j1 kind0 t12 t17 t26 t35 t42 t4_2_1 t43 = some r ∧ s = (⟨95,[(0,.lit (.int .i64 kind0)),(4,.ptr 0 0),(5,.lit (.int .i64 t12)),(6,.lit (.int .i64 t17)),(8,.lit (.int .i64 t26)),(9,.lit (.int .i64 t35)),(10,.lit (.int .i64 t42)),(43,.lit (.bool t43))],[.box [.lit (.string (⟨#[]⟩)),.lit (.int .i64 0),.vs 1 (t4_2_1.map (eI .u8)),.lit (.int .i64 0)]]⟩:St)) ?_ ?_
    · obtain ⟨ch26,h26⟩:=chk_elim h25; clear h25
      obtain ⟨t46,et46,h27⟩:=letk_elim h26; clear h26
      conv=>whnf
      refine Side.mk ch26 ?_
      conv=>whnf
      refine Nm.mk ⟨t46,et46,?_⟩
      obtain ⟨t47,et47,h28⟩:=letk_elim h27; clear h27
      conv=>whnf
      refine Nm.mk ⟨t47,et47,?_⟩
      obtain ⟨t48,et48,h29⟩:=letk_elim h28; clear h28
      conv=>whnf
      refine Nm.mk ⟨t48,et48,?_⟩
      rcases t48 with _ | _
      · have h30:=bif_f h29
        clear h29
        exact BackS.by ⟨_,_,h30,rfl⟩ (Sees.of (Weak.objs (keep:=[0]) (frz:=[]) (m:=0) rfl (by decide) rfl rfl ⟨⟨_,rfl,WO.boxs ⟨.s,.s,(.nilsVs _),.s,trivial⟩⟩,⟨rfl,fun _ h=>by cases h⟩⟩ ⟨.s,(.ptr _ _ 0 rfl),.s,.s,.s,.s,.s,.s,trivial⟩))
      have h30:=bif_t h29
      clear h29
      obtain ⟨t51,et51,h31⟩:=letk_elim h30; clear h30
      conv=>whnf
      refine Nm.mk ⟨t51,et51,?_⟩
      exact BackS.by ⟨_,_,h31,rfl⟩ (Sees.of (Weak.objs (keep:=[0]) (frz:=[]) (m:=0) rfl (by decide) rfl rfl ⟨⟨_,rfl,WO.boxs ⟨.s,.s,(.nilsVs _),.s,trivial⟩⟩,⟨rfl,fun _ h=>by cases h⟩⟩ ⟨.s,(.ptr _ _ 0 rfl),.s,.s,.s,.s,.s,.s,trivial⟩))
    clear h25
    rintro s ⟨t4_2_1,t43,hj0,rfl⟩
    unfold Ref1.taken.j1 at hj0
    rcases t43 with _ | _
    · have hj1:=bif_f hj0
      clear hj0
      obtain ⟨chj2,hj2⟩:=chk_elim hj1; clear hj1
      obtain ⟨t58,et58,hj3⟩:=letk_elim hj2; clear hj2
      conv=>whnf
      refine Side.mk chj2 ?_
      conv=>whnf
      refine Nm.mk ⟨t58,et58,?_⟩
      obtain ⟨t59,et59,hj4⟩:=letk_elim hj3; clear hj3
      conv=>whnf
      refine Nm.mk ⟨t59,et59,?_⟩
      obtain ⟨t60,et60,hj5⟩:=letk_elim hj4; clear hj4
      conv=>whnf
      refine Nm.mk ⟨t60,et60,?_⟩
      rcases t60 with _ | _
      · have hj6:=bif_f hj5
        clear hj5
        conv=>whnf
        refine CutN.of (fun s=>∃ (t62:Bool),Ref1.taken.j2 kind0 t12 t26 t35 t42 t4_2_1 t62 = some r ∧ s = (⟨95,[(0,.lit (.int .i64 kind0)),(4,.ptr 0 0),(5,.lit (.int .i64 t12)),(8,.lit (.int .i64 t26)),(9,.lit (.int .i64 t35)),(10,.lit (.int .i64 t42)),(62,.lit (.bool t62))],[.box [.lit (.string (⟨#[]⟩)),.lit (.int .i64 0),.vs 1 (t4_2_1.map (eI .u8)),.lit (.int .i64 0)]]⟩:St)) ?_ ?_
        · obtain ⟨t64,et64,hj7⟩:=letk_elim hj6; clear hj6
          conv=>whnf
          refine Nm.mk ⟨t64,et64,?_⟩
          rcases t64 with _ | _
          · have hj8:=bif_f hj7
            clear hj7
            exact BackS.by ⟨_,hj8,rfl⟩ (Sees.of (Weak.objs (keep:=[0]) (frz:=[]) (m:=0) rfl (by decide) rfl rfl ⟨⟨_,rfl,WO.boxs ⟨.s,.s,.s,.s,trivial⟩⟩,⟨rfl,fun _ h=>by cases h⟩⟩ ⟨.s,(.ptr _ _ 0 rfl),.s,.s,.s,.s,.s,trivial⟩))
          have hj8:=bif_t hj7
          clear hj7
          obtain ⟨t67,et67,hj9⟩:=letk_elim hj8; clear hj8
          conv=>whnf
          refine Nm.mk ⟨t67,et67,?_⟩
          exact BackS.by ⟨_,hj9,rfl⟩ (Sees.of (Weak.objs (keep:=[0]) (frz:=[]) (m:=0) rfl (by decide) rfl rfl ⟨⟨_,rfl,WO.boxs ⟨.s,.s,.s,.s,trivial⟩⟩,⟨rfl,fun _ h=>by cases h⟩⟩ ⟨.s,(.ptr _ _ 0 rfl),.s,.s,.s,.s,.s,trivial⟩))
        clear hj6
        rintro s ⟨t62,hj0,rfl⟩
        unfold Ref1.taken.j2 at hj0
        rcases t62 with _ | _
        · have hj1:=bif_f hj0
          clear hj0
          obtain ⟨t73,et73,hj2⟩:=letk_elim hj1; clear hj1
          conv=>whnf
          refine Nm.mk ⟨t73,et73,?_⟩
          rcases t73 with _ | _
          · have hj3:=bif_f hj2
            clear hj2
            exact BackS.by ⟨_,_,_,_,hj3,rfl⟩ (Sees.of (Weak.objs (keep:=[0]) (frz:=[]) (m:=0) rfl (by decide) rfl rfl ⟨⟨_,rfl,WO.boxs ⟨.s,.s,.s,.s,trivial⟩⟩,⟨rfl,fun _ h=>by cases h⟩⟩ ⟨.s,(.ptr _ _ 0 rfl),.s,.s,.s,.s,trivial⟩))
          have hj3:=bif_t hj2
          clear hj2
          obtain ⟨t76,et76,hj4⟩:=bind_elim hj3; clear hj3
          conv=>whnf
          refine Gate.go ?_
          conv=>whnf
          refine CallN.by (v:=.vs 1 (t76.map (eI .u8))) (Ref1.Of_ok et76) rfl rfl ?_
          obtain ⟨t78,et78,hj5⟩:=bind_elim hj4; clear hj4
          conv=>whnf
          refine Gate.go ?_
          conv=>whnf
          refine CallN.by (v:=.lit (.int .i64 t78)) (Ref1.least_ok et78) rfl rfl ?_
          conv=>whnf
          refine Gate.go ?_
          conv=>whnf
          refine Nm.mk ⟨[.lit (.string (⟨#[102,105,110,105,116,101]⟩)),.lit (.int .i64 t42),.vs 1 (t76.map (eI .u8)),.lit (.int .i64 t78)],rfl,?_⟩
          conv=>whnf
          refine Nm.mk ⟨[.lit (.string (⟨#[102,105,110,105,116,101]⟩)),.lit (.int .i64 t42),.vs 1 (t76.map (eI .u8)),.lit (.int .i64 t78)],rfl,?_⟩
          have ehj5_0:=Option.some.inj hj5
          subst ehj5_0
          conv=>whnf
          exact Returns.pure (r:=quadratref01.float.enc ((⟨⟨#[102,105,110,105,116,101]⟩,t42,t76,t78⟩:quadratref01.float))) rfl rfl rfl rfl ⟨rfl,rfl⟩
        have hj1:=bif_t hj0
        clear hj0
        conv=>whnf
        refine Gate.go ?_
        conv=>whnf
        refine Nm.mk ⟨[.lit (.string (⟨#[122,101,114,111]⟩)),.lit (.int .i64 t42),.nils,.lit (.int .i64 0)],rfl,?_⟩
        conv=>whnf
        refine Nm.mk ⟨[.lit (.string (⟨#[122,101,114,111]⟩)),.lit (.int .i64 t42),.nils,.lit (.int .i64 0)],rfl,?_⟩
        have ehj1_0:=Option.some.inj hj1
        subst ehj1_0
        conv=>whnf
        exact Returns.frozen (r:=quadratref01.float.enc ((⟨⟨#[122,101,114,111]⟩,t42,[],0⟩:quadratref01.float))) [] rfl rfl (WV.aggs ⟨.s,.s,(.nilsVs _),.s,trivial⟩) ⟨rfl,rfl⟩
      have hj6:=bif_t hj5
      clear hj5
      conv=>whnf
      refine Gate.go ?_
      conv=>whnf
      refine Nm.mk ⟨[.lit (.string (⟨#[110,111,110,101]⟩)),.lit (.int .i64 0),.nils,.lit (.int .i64 0)],rfl,?_⟩
      conv=>whnf
      refine Nm.mk ⟨[.lit (.string (⟨#[110,111,110,101]⟩)),.lit (.int .i64 0),.nils,.lit (.int .i64 0)],rfl,?_⟩
      have ehj6_0:=Option.some.inj hj6
      subst ehj6_0
      conv=>whnf
      exact Returns.frozen (r:=quadratref01.float.enc ((⟨⟨#[110,111,110,101]⟩,0,[],0⟩:quadratref01.float))) [] rfl rfl (WV.aggs ⟨.s,.s,(.nilsVs _),.s,trivial⟩) ⟨rfl,rfl⟩
    have hj1:=bif_t hj0
    clear hj0
    conv=>whnf
    refine Gate.go ?_
    conv=>whnf
    refine Nm.mk ⟨[.lit (.string (⟨#[105,110,102,105,110,105,116,101]⟩)),.lit (.int .i64 t42),.nils,.lit (.int .i64 0)],rfl,?_⟩
    conv=>whnf
    refine Nm.mk ⟨[.lit (.string (⟨#[105,110,102,105,110,105,116,101]⟩)),.lit (.int .i64 t42),.nils,.lit (.int .i64 0)],rfl,?_⟩
    have ehj1_0:=Option.some.inj hj1
    subst ehj1_0
    conv=>whnf
    exact Returns.frozen (r:=quadratref01.float.enc ((⟨⟨#[105,110,102,105,110,105,116,101]⟩,t42,[],0⟩:quadratref01.float))) [] rfl rfl (WV.aggs ⟨.s,.s,(.nilsVs _),.s,trivial⟩) ⟨rfl,rfl⟩
  clear h25
  rintro s ⟨t4_0,t4_1,t4_2,t4_3,hj0,rfl⟩
  unfold Ref1.taken.j0 at hj0
  obtain ⟨t82,et82,hj1⟩:=letk_elim hj0; clear hj0
  conv=>whnf
  refine Nm.mk ⟨t82,et82,?_⟩
  obtain ⟨chj2,hj2⟩:=chk_elim hj1; clear hj1
  obtain ⟨t83,et83,hj3⟩:=letk_elim hj2; clear hj2
  conv=>whnf
  refine Side.mk chj2 ?_
  conv=>whnf
  refine Nm.mk ⟨t83,et83,?_⟩
  obtain ⟨t85,et85,hj4⟩:=letk_elim hj3; clear hj3
  conv=>whnf
  refine Nm.mk ⟨t85,et85,?_⟩
  obtain ⟨t86,et86,hj5⟩:=bind_elim hj4; clear hj4
  conv=>whnf
  refine Gate.go ?_
  conv=>whnf
  refine CallN.by (v:=.vs 1 (t86.map (eI .u8))) (Ref1.Of_ok et86) rfl rfl ?_
  obtain ⟨t89,et89,hj6⟩:=bind_elim hj5; clear hj5
  conv=>whnf
  refine Gate.go ?_
  conv=>whnf
  refine CallN.by (v:=.lit (.int .i64 t89)) (Ref1.Bias_ok et89) rfl rfl ?_
  obtain ⟨t90,et90,hj7⟩:=letk_elim hj6; clear hj6
  conv=>whnf
  refine Nm.mk ⟨t90,et90,?_⟩
  obtain ⟨t92,et92,hj8⟩:=letk_elim hj7; clear hj7
  conv=>whnf
  refine Nm.mk ⟨t92,et92,?_⟩
  obtain ⟨t93,et93,hj9⟩:=letk_elim hj8; clear hj8
  conv=>whnf
  refine Nm.mk ⟨t93,et93,?_⟩
  conv=>whnf
  refine Gate.go ?_
  conv=>whnf
  refine Nm.mk ⟨[.lit (.string (⟨#[102,105,110,105,116,101]⟩)),.lit (.int .i64 t42),.vs 1 (t86.map (eI .u8)),.lit (.int .i64 t93)],rfl,?_⟩
  conv=>whnf
  refine Nm.mk ⟨[.lit (.string (⟨#[102,105,110,105,116,101]⟩)),.lit (.int .i64 t42),.vs 1 (t86.map (eI .u8)),.lit (.int .i64 t93)],rfl,?_⟩
  have ehj9_0:=Option.some.inj hj9
  subst ehj9_0
  conv=>whnf
  exact Returns.pure (r:=quadratref01.float.enc ((⟨⟨#[102,105,110,105,116,101]⟩,t42,t86,t93⟩:quadratref01.float))) rfl rfl rfl rfl ⟨rfl,rfl⟩
noncomputable def Ref1.size (kind0:Int) (a1:Int):Option Int :=
  letk (IntKind.u64.wrap a1) fun t6 =>
  letk (IntKind.i64.wrap ((8:Int) * kind0)) fun t8 =>
  letk (IntKind.i64.wrap (t8 - (1:Int))) fun t9 =>
  chk (0 ≤ t9) <|
  letk (IntKind.u64.wrap ((1:Int) * 2 ^ (min t9.toNat (IntKind.u64).bits))) fun t10 =>
  letk (IntKind.u64.wrap (t10 - (1:Int))) fun t11 =>
  letk (IntKind.u64.wrap (BitVec.ofInt (IntKind.u64).bits t6 &&& BitVec.ofInt (IntKind.u64).bits t11).toNat) fun t12 =>
  letk (IntKind.i64.wrap t12) fun t13 =>
  some t13
theorem Ref1.size_ok {kind0:Int} {a1:Int} {r:Int} (h0:Ref1.size kind0 a1 = some r):Gives Tryz.prog 61 [.lit (.int .i64 kind0),.lit (.int .i64 a1)] (.lit (.int .i64 r)):=by
  unfold Ref1.size at h0
  refine ACalls.of_swp Tryz.func61 rfl (by decide) rfl (st0:=⟨14,[(0,.lit (.int .i64 kind0)),(1,.lit (.int .i64 a1))],[]⟩) rfl (bwp_ok (C:=[]) ?_)
  obtain ⟨t6,et6,h1⟩:=letk_elim h0; clear h0
  conv=>whnf
  refine Nm.mk ⟨t6,et6,?_⟩
  obtain ⟨t8,et8,h2⟩:=letk_elim h1; clear h1
  conv=>whnf
  refine Nm.mk ⟨t8,et8,?_⟩
  obtain ⟨t9,et9,h3⟩:=letk_elim h2; clear h2
  conv=>whnf
  refine Nm.mk ⟨t9,et9,?_⟩
  obtain ⟨ch4,h4⟩:=chk_elim h3; clear h3
  obtain ⟨t10,et10,h5⟩:=letk_elim h4; clear h4
  conv=>whnf
  refine Side.mk ch4 ?_
  conv=>whnf
  refine Nm.mk ⟨t10,et10,?_⟩
  obtain ⟨t11,et11,h6⟩:=letk_elim h5; clear h5
  conv=>whnf
  refine Nm.mk ⟨t11,et11,?_⟩
  obtain ⟨t12,et12,h7⟩:=letk_elim h6; clear h6
  conv=>whnf
  refine Nm.mk ⟨t12,et12,?_⟩
  obtain ⟨t13,et13,h8⟩:=letk_elim h7; clear h7
  conv=>whnf
  refine Nm.mk ⟨t13,et13,?_⟩
  have eh8_0:=Option.some.inj h8
  subst eh8_0
  conv=>whnf
  exact Returns.pure (r:=.lit (.int .i64 t13)) rfl rfl rfl rfl ⟨rfl,rfl⟩
noncomputable def Flt.of (kind0:Int):Option (float.shape × Bool) :=
  letk (kind0 == (2:Int)) fun t6 =>
  bif t6 then
    some ((⟨11,5⟩:float.shape),true)
  else
    letk (kind0 == (4:Int)) fun t9 =>
    bif t9 then
      some ((⟨24,8⟩:float.shape),true)
    else
      letk (kind0 == (8:Int)) fun t12 =>
      bif t12 then
        some ((⟨53,11⟩:float.shape),true)
      else
        some ((⟨0,0⟩:float.shape),false)
theorem Flt.of_ok {kind0:Int} {r:float.shape × Bool} (h0:Flt.of kind0 = some r):Gives Tryz.prog 92 [.lit (.int .i64 kind0)] (.tup [float.shape.enc r.1,.lit (.bool r.2)]):=by
  unfold Flt.of at h0
  refine ACalls.of_swp Tryz.func92 rfl (by decide) rfl (st0:=⟨15,[(0,.lit (.int .i64 kind0))],[]⟩) rfl (bwp_ok (C:=[]) ?_)
  conv=>whnf
  refine Nm.mk ⟨[.lit (.int .i64 0),.lit (.int .i64 0)],rfl,?_⟩
  obtain ⟨t6,et6,h1⟩:=letk_elim h0; clear h0
  conv=>whnf
  refine Nm.mk ⟨t6,et6,?_⟩
  rcases t6 with _ | _
  · have h2:=bif_f h1
    clear h1
    obtain ⟨t9,et9,h3⟩:=letk_elim h2; clear h2
    conv=>whnf
    refine Nm.mk ⟨t9,et9,?_⟩
    rcases t9 with _ | _
    · have h4:=bif_f h3
      clear h3
      obtain ⟨t12,et12,h5⟩:=letk_elim h4; clear h4
      conv=>whnf
      refine Nm.mk ⟨t12,et12,?_⟩
      rcases t12 with _ | _
      · have h6:=bif_f h5
        clear h5
        conv=>whnf
        refine Gate.go ?_
        conv=>whnf
        refine Nm.mk ⟨[.lit (.int .i64 0),.lit (.int .i64 0)],rfl,?_⟩
        conv=>whnf
        refine Nm.mk ⟨[.lit (.int .i64 0),.lit (.int .i64 0)],rfl,?_⟩
        have eh6_0:=Option.some.inj h6
        subst eh6_0
        conv=>whnf
        exact Returns.pure (r:=.tup [float.shape.enc ((⟨0,0⟩:float.shape)),.lit (.bool false)]) rfl rfl rfl rfl ⟨rfl,rfl⟩
      have h6:=bif_t h5
      clear h5
      conv=>whnf
      refine Gate.go ?_
      conv=>whnf
      refine Nm.mk ⟨[.lit (.int .i64 53),.lit (.int .i64 11)],rfl,?_⟩
      conv=>whnf
      refine Nm.mk ⟨[.lit (.int .i64 53),.lit (.int .i64 11)],rfl,?_⟩
      have eh6_0:=Option.some.inj h6
      subst eh6_0
      conv=>whnf
      exact Returns.pure (r:=.tup [float.shape.enc ((⟨53,11⟩:float.shape)),.lit (.bool true)]) rfl rfl rfl rfl ⟨rfl,rfl⟩
    have h4:=bif_t h3
    clear h3
    conv=>whnf
    refine Gate.go ?_
    conv=>whnf
    refine Nm.mk ⟨[.lit (.int .i64 24),.lit (.int .i64 8)],rfl,?_⟩
    conv=>whnf
    refine Nm.mk ⟨[.lit (.int .i64 24),.lit (.int .i64 8)],rfl,?_⟩
    have eh4_0:=Option.some.inj h4
    subst eh4_0
    conv=>whnf
    exact Returns.pure (r:=.tup [float.shape.enc ((⟨24,8⟩:float.shape)),.lit (.bool true)]) rfl rfl rfl rfl ⟨rfl,rfl⟩
  have h2:=bif_t h1
  clear h1
  conv=>whnf
  refine Gate.go ?_
  conv=>whnf
  refine Nm.mk ⟨[.lit (.int .i64 11),.lit (.int .i64 5)],rfl,?_⟩
  conv=>whnf
  refine Nm.mk ⟨[.lit (.int .i64 11),.lit (.int .i64 5)],rfl,?_⟩
  have eh2_0:=Option.some.inj h2
  subst eh2_0
  conv=>whnf
  exact Returns.pure (r:=.tup [float.shape.enc ((⟨11,5⟩:float.shape)),.lit (.bool true)]) rfl rfl rfl rfl ⟨rfl,rfl⟩
noncomputable def Flt.shape.top (s0:float.shape):Option Int :=
  chk (0 ≤ s0.w) <|
  letk (IntKind.u64.wrap ((1:Int) * 2 ^ (min s0.w.toNat (IntKind.u64).bits))) fun t5 =>
  letk (IntKind.u64.wrap (t5 - (1:Int))) fun t6 =>
  some t6
theorem Flt.shape.top_ok {s0:float.shape} {r:Int} (h0:Flt.shape.top s0 = some r):Gives Tryz.prog 133 [float.shape.enc s0] (.lit (.int .u64 r)):=by
  unfold Flt.shape.top at h0
  refine ACalls.of_swp Tryz.func133 rfl (by decide) rfl (st0:=⟨7,[(0,float.shape.enc s0)],[]⟩) rfl (bwp_ok (C:=[]) ?_)
  conv=>whnf
  refine Nm.mk ⟨[.lit (.int .i64 s0.p),.lit (.int .i64 s0.w)],rfl,?_⟩
  obtain ⟨ch1,h1⟩:=chk_elim h0; clear h0
  obtain ⟨t5,et5,h2⟩:=letk_elim h1; clear h1
  conv=>whnf
  refine Side.mk ch1 ?_
  conv=>whnf
  refine Nm.mk ⟨t5,et5,?_⟩
  obtain ⟨t6,et6,h3⟩:=letk_elim h2; clear h2
  conv=>whnf
  refine Nm.mk ⟨t6,et6,?_⟩
  have eh3_0:=Option.some.inj h3
  subst eh3_0
  conv=>whnf
  exact Returns.pure (r:=.lit (.int .u64 t6)) rfl rfl rfl rfl ⟨rfl,rfl⟩
noncomputable def Flt.shape.bias (s0:float.shape):Option Int :=
  letk (IntKind.i64.wrap (s0.w - (1:Int))) fun t5 =>
  chk (0 ≤ t5) <|
  letk (IntKind.i64.wrap ((1:Int) * 2 ^ (min t5.toNat (IntKind.i64).bits))) fun t6 =>
  letk (IntKind.i64.wrap (t6 - (1:Int))) fun t7 =>
  some t7
theorem Flt.shape.bias_ok {s0:float.shape} {r:Int} (h0:Flt.shape.bias s0 = some r):Gives Tryz.prog 135 [float.shape.enc s0] (.lit (.int .i64 r)):=by
  unfold Flt.shape.bias at h0
  refine ACalls.of_swp Tryz.func135 rfl (by decide) rfl (st0:=⟨8,[(0,float.shape.enc s0)],[]⟩) rfl (bwp_ok (C:=[]) ?_)
  conv=>whnf
  refine Nm.mk ⟨[.lit (.int .i64 s0.p),.lit (.int .i64 s0.w)],rfl,?_⟩
  obtain ⟨t5,et5,h1⟩:=letk_elim h0; clear h0
  conv=>whnf
  refine Nm.mk ⟨t5,et5,?_⟩
  obtain ⟨ch2,h2⟩:=chk_elim h1; clear h1
  obtain ⟨t6,et6,h3⟩:=letk_elim h2; clear h2
  conv=>whnf
  refine Side.mk ch2 ?_
  conv=>whnf
  refine Nm.mk ⟨t6,et6,?_⟩
  obtain ⟨t7,et7,h4⟩:=letk_elim h3; clear h3
  conv=>whnf
  refine Nm.mk ⟨t7,et7,?_⟩
  have eh4_0:=Option.some.inj h4
  subst eh4_0
  conv=>whnf
  exact Returns.pure (r:=.lit (.int .i64 t7)) rfl rfl rfl rfl ⟨rfl,rfl⟩
noncomputable def Flt.shape.least (s0:float.shape):Option Int :=
  Option.bind (Flt.shape.bias (⟨s0.p,s0.w⟩:float.shape)) fun t4 =>
  letk (IntKind.i64.wrap ((2:Int) - t4)) fun t5 =>
  letk (IntKind.i64.wrap (t5 - s0.p)) fun t8 =>
  some t8
theorem Flt.shape.least_ok {s0:float.shape} {r:Int} (h0:Flt.shape.least s0 = some r):Gives Tryz.prog 134 [float.shape.enc s0] (.lit (.int .i64 r)):=by
  unfold Flt.shape.least at h0
  refine ACalls.of_swp Tryz.func134 rfl (by decide) rfl (st0:=⟨9,[(0,float.shape.enc s0)],[]⟩) rfl (bwp_ok (C:=[]) ?_)
  conv=>whnf
  refine Nm.mk ⟨[.lit (.int .i64 s0.p),.lit (.int .i64 s0.w)],rfl,?_⟩
  conv=>whnf
  refine DrawB.ofG [none,none,none,none,none,none,none] Tryz_mixed (by kernel_rfl) (by kernel_rfl) ?_
  conv=>whnf
  refine DNodeB.of (.agg [.lit (.int .i64 s0.p),.lit (.int .i64 s0.w)]) ?_ ?_
  · conv=>whnf
    rfl
  obtain ⟨t4,et4,h1⟩:=bind_elim h0; clear h0
  conv=>whnf
  refine DNodeB.of (.lit (.int .i64 t4)) ?_ ?_
  · conv=>whnf
    refine CallN.by (v:=.lit (.int .i64 t4)) (Flt.shape.bias_ok et4) rfl rfl ?_
    conv=>whnf
    rfl
  obtain ⟨t5,et5,h2⟩:=letk_elim h1; clear h1
  conv=>whnf
  refine DNodeB.of (.lit (.int .i64 t5)) ?_ ?_
  · conv=>whnf
    refine Nm.mk ⟨t5,et5,?_⟩
    conv=>whnf
    rfl
  conv=>whnf
  refine DNodeB.of (.ptr 0 0) ?_ ?_
  · conv=>whnf
    rfl
  conv=>whnf
  refine DNodeB.of (.lit (.int .i64 s0.p)) ?_ ?_
  · conv=>whnf
    rfl
  obtain ⟨t8,et8,h3⟩:=letk_elim h2; clear h2
  conv=>whnf
  refine DNodeB.of (.lit (.int .i64 t8)) ?_ ?_
  · conv=>whnf
    refine Nm.mk ⟨t8,et8,?_⟩
    conv=>whnf
    rfl
  conv=>whnf
  refine DNodeB.of (.lit (.int .i64 t8)) ?_ ?_
  · conv=>whnf
    rfl
  have eh3_0:=Option.some.inj h3
  subst eh3_0
  conv=>whnf
  exact Returns.pure (r:=.lit (.int .i64 t8)) rfl rfl rfl rfl ⟨rfl,rfl⟩
noncomputable def Flt.shape.read.j2 (t41:Int) (t48:Int) (s2_0_1:Int) (s2_1_1:Int) (t4_0_1:Int) (t4_1_1:Int) (t4_2_1:Int) (t4_3_1:Int) (x8_0:Int) (x8_1:Int) (x8_2:Int) (x8_3:Int) (t83:Bool):Option (float.number × Bool) :=
  bif t83 then
    some ((⟨0,x8_1,x8_2,x8_3⟩:float.number),true)
  else
    letk (t41 == (0:Int)) fun t93 =>
    bif t93 then
      Option.bind (Flt.shape.least (⟨s2_0_1,s2_1_1⟩:float.shape)) fun t96 =>
      some ((⟨1,x8_1,t48,t96⟩:float.number),true)
    else
      letk (IntKind.i64.wrap (s2_0_1 - (1:Int))) fun t52 =>
      chk (0 ≤ t52) <|
      letk (IntKind.u64.wrap ((1:Int) * 2 ^ (min t52.toNat (IntKind.u64).bits))) fun t53 =>
      letk (IntKind.u64.wrap (BitVec.ofInt (IntKind.u64).bits t48 ||| BitVec.ofInt (IntKind.u64).bits t53).toNat) fun t54 =>
      letk (IntKind.i64.wrap t41) fun t56 =>
      Option.bind (Flt.shape.bias (⟨s2_0_1,s2_1_1⟩:float.shape)) fun t58 =>
      letk (IntKind.i64.wrap (t56 - t58)) fun t59 =>
      letk (IntKind.i64.wrap (t59 - s2_0_1)) fun t62 =>
      letk (IntKind.i64.wrap (t62 + (1:Int))) fun t63 =>
      some ((⟨1,x8_1,t54,t63⟩:float.number),true)
noncomputable def Flt.shape.read.j1 (t41:Int) (t48:Int) (s2_0_1:Int) (s2_1_1:Int) (t4_0_1:Int) (t4_1_1:Int) (t4_2_1:Int) (t4_3_1:Int) (x8_0:Int) (x8_1:Int) (x8_2:Int) (x8_3:Int) (t67:Bool):Option (float.number × Bool) :=
  bif t67 then
    some ((⟨2,x8_1,x8_2,x8_3⟩:float.number),true)
  else
    Option.bind (Flt.shape.top (⟨s2_0_1,s2_1_1⟩:float.shape)) fun t80 =>
    letk (t41 == t80) fun t81 =>
    bif t81 then
      some ((⟨3,x8_1,x8_2,x8_3⟩:float.number),true)
    else
      letk (t41 == (0:Int)) fun t85 =>
      bif t85 then
        letk (t48 == (0:Int)) fun t88 =>
        Flt.shape.read.j2 t41 t48 s2_0_1 s2_1_1 t4_0_1 t4_1_1 t4_2_1 t4_3_1 x8_0 x8_1 x8_2 x8_3 t88
      else
        Flt.shape.read.j2 t41 t48 s2_0_1 s2_1_1 t4_0_1 t4_1_1 t4_2_1 t4_3_1 x8_0 x8_1 x8_2 x8_3 false
noncomputable def Flt.shape.read.j0 (t12:Int) (t17:Int) (s2_0:Int) (s2_1:Int) (t4_0:Int) (t4_1:Int) (t4_2:Int) (t4_3:Int):Option (float.number × Bool) :=
  letk (IntKind.i64.wrap (t17 - (1:Int))) fun t29 =>
  chk (0 ≤ t29) <|
  letk ((IntKind.u64,t12.fdiv (2 ^ (min t29.toNat (IntKind.u64).bits))).2) fun t30 =>
  letk (IntKind.u64.wrap (BitVec.ofInt (IntKind.u64).bits t30 &&& BitVec.ofInt (IntKind.u64).bits (1:Int)).toNat) fun t31 =>
  letk (IntKind.i64.wrap t31) fun t32 =>
  letk (IntKind.i64.wrap (s2_0 - (1:Int))) fun t37 =>
  chk (0 ≤ t37) <|
  letk ((IntKind.u64,t12.fdiv (2 ^ (min t37.toNat (IntKind.u64).bits))).2) fun t38 =>
  Option.bind (Flt.shape.top (⟨s2_0,s2_1⟩:float.shape)) fun t40 =>
  letk (IntKind.u64.wrap (BitVec.ofInt (IntKind.u64).bits t38 &&& BitVec.ofInt (IntKind.u64).bits t40).toNat) fun t41 =>
  letk (IntKind.i64.wrap (s2_0 - (1:Int))) fun t45 =>
  chk (0 ≤ t45) <|
  letk (IntKind.u64.wrap ((1:Int) * 2 ^ (min t45.toNat (IntKind.u64).bits))) fun t46 =>
  letk (IntKind.u64.wrap (t46 - (1:Int))) fun t47 =>
  letk (IntKind.u64.wrap (BitVec.ofInt (IntKind.u64).bits t12 &&& BitVec.ofInt (IntKind.u64).bits t47).toNat) fun t48 =>
  Option.bind (Flt.shape.top (⟨s2_0,s2_1⟩:float.shape)) fun t70 =>
  letk (t41 == t70) fun t71 =>
  bif t71 then
    letk (t48 == (0:Int)) fun t74 =>
    Flt.shape.read.j1 t41 t48 s2_0 s2_1 t4_0 t4_1 t4_2 t4_3 0 t32 0 0 t74
  else
    Flt.shape.read.j1 t41 t48 s2_0 s2_1 t4_0 t4_1 t4_2 t4_3 0 t32 0 0 false
noncomputable def Flt.shape.read.j3 (s0:float.shape) (t12:Int) (t17:Int) (t25:Bool):Option (float.number × Bool) :=
  bif t25 then
    some ((⟨0,0,0,0⟩:float.number),false)
  else
    Flt.shape.read.j0 t12 t17 s0.p s0.w 0 0 0 0
noncomputable def Flt.shape.read (s0:float.shape) (a1:Int):Option (float.number × Bool) :=
  letk (IntKind.u64.wrap a1) fun t12 =>
  letk (IntKind.i64.wrap (s0.p + s0.w)) fun t17 =>
  letk (decide (t17 < (64:Int))) fun t19 =>
  bif t19 then
    chk (0 ≤ t17) <|
    letk ((IntKind.u64,t12.fdiv (2 ^ (min t17.toNat (IntKind.u64).bits))).2) fun t23 =>
    letk (t23 != (0:Int)) fun t24 =>
    Flt.shape.read.j3 s0 t12 t17 t24
  else
    Flt.shape.read.j3 s0 t12 t17 false
theorem Flt.shape.read_ok {s0:float.shape} {a1:Int} {r:float.number × Bool} (h0:Flt.shape.read s0 a1 = some r):Gives Tryz.prog 93 [float.shape.enc s0,.lit (.int .i64 a1)] (.tup [float.number.enc r.1,.lit (.bool r.2)]):=by
  unfold Flt.shape.read at h0
  refine ACalls.of_swp Tryz.func93 rfl (by decide) rfl (st0:=⟨101,[(0,float.shape.enc s0),(1,.lit (.int .i64 a1))],[]⟩) rfl (bwp_ok (C:=[(0,5),(77,19),(93,27),(35,9)]) ?_)
  conv=>whnf
  refine Nm.mk ⟨[.lit (.int .i64 s0.p),.lit (.int .i64 s0.w)],rfl,?_⟩
  conv=>whnf
  refine Nm.mk ⟨[.lit (.int .i64 0),.lit (.int .i64 0),.lit (.int .u64 0),.lit (.int .i64 0)],rfl,?_⟩
  obtain ⟨t12,et12,h1⟩:=letk_elim h0; clear h0
  conv=>whnf
  refine Nm.mk ⟨t12,et12,?_⟩
  obtain ⟨t17,et17,h2⟩:=letk_elim h1; clear h1
  conv=>whnf
  refine Nm.mk ⟨t17,et17,?_⟩
  conv=>whnf
  refine CutN.of (fun s=>∃ (s2_0:Int) (s2_1:Int) (t4_0:Int) (t4_1:Int) (t4_2:Int) (t4_3:Int),Flt.shape.read.j0 t12 t17 s2_0 s2_1 t4_0 t4_1 t4_2 t4_3 = some r ∧ s = (⟨101,[(2,.ptr 0 0),(4,.ptr 1 0),(6,.lit (.int .u64 t12)),(7,.lit (.int .i64 t17))],[.box [.lit (.int .i64 s2_0),.lit (.int .i64 s2_1)],.box [.lit (.int .i64 t4_0),.lit (.int .i64 t4_1),.lit (.int .u64 t4_2),.lit (.int .i64 t4_3)]]⟩:St)) ?_ ?_
  · conv=>whnf
    refine CutN.of (fun s=>∃ (t25:Bool),Flt.shape.read.j3 s0 t12 t17 t25 = some r ∧ s = (⟨101,[(2,.ptr 0 0),(4,.ptr 1 0),(6,.lit (.int .u64 t12)),(7,.lit (.int .i64 t17)),(25,.lit (.bool t25))],[.box [.lit (.int .i64 s0.p),.lit (.int .i64 s0.w)],.box [.lit (.int .i64 0),.lit (.int .i64 0),.lit (.int .u64 0),.lit (.int .i64 0)]]⟩:St)) ?_ ?_
    · obtain ⟨t19,et19,h3⟩:=letk_elim h2; clear h2
      conv=>whnf
      refine Nm.mk ⟨t19,et19,?_⟩
      rcases t19 with _ | _
      · have h4:=bif_f h3
        clear h3
        exact BackS.by ⟨_,h4,rfl⟩ (Sees.of (Weak.objs (keep:=[0,1]) (frz:=[]) (m:=0) rfl (by decide) rfl rfl ⟨⟨_,rfl,WO.boxs ⟨.s,.s,trivial⟩⟩,⟨⟨_,rfl,WO.boxs ⟨.s,.s,.s,.s,trivial⟩⟩,⟨rfl,fun _ h=>by cases h⟩⟩⟩ ⟨(.ptr _ _ 0 rfl),(.ptr _ _ 1 rfl),.s,.s,.s,trivial⟩))
      have h4:=bif_t h3
      clear h3
      obtain ⟨ch5,h5⟩:=chk_elim h4; clear h4
      obtain ⟨t23,et23,h6⟩:=letk_elim h5; clear h5
      conv=>whnf
      refine Side.mk ch5 ?_
      conv=>whnf
      refine Nm.mk ⟨t23,et23,?_⟩
      obtain ⟨t24,et24,h7⟩:=letk_elim h6; clear h6
      conv=>whnf
      refine Nm.mk ⟨t24,et24,?_⟩
      exact BackS.by ⟨_,h7,rfl⟩ (Sees.of (Weak.objs (keep:=[0,1]) (frz:=[]) (m:=0) rfl (by decide) rfl rfl ⟨⟨_,rfl,WO.boxs ⟨.s,.s,trivial⟩⟩,⟨⟨_,rfl,WO.boxs ⟨.s,.s,.s,.s,trivial⟩⟩,⟨rfl,fun _ h=>by cases h⟩⟩⟩ ⟨(.ptr _ _ 0 rfl),(.ptr _ _ 1 rfl),.s,.s,.s,trivial⟩))
    clear h2
    rintro s ⟨t25,hj0,rfl⟩
    unfold Flt.shape.read.j3 at hj0
    rcases t25 with _ | _
    · have hj1:=bif_f hj0
      clear hj0
      exact BackS.by ⟨_,_,_,_,_,_,hj1,rfl⟩ (Sees.of (Weak.objs (keep:=[0,1]) (frz:=[]) (m:=0) rfl (by decide) rfl rfl ⟨⟨_,rfl,WO.boxs ⟨.s,.s,trivial⟩⟩,⟨⟨_,rfl,WO.boxs ⟨.s,.s,.s,.s,trivial⟩⟩,⟨rfl,fun _ h=>by cases h⟩⟩⟩ ⟨(.ptr _ _ 0 rfl),(.ptr _ _ 1 rfl),.s,.s,trivial⟩))
    have hj1:=bif_t hj0
    clear hj0
    conv=>whnf
    refine Gate.go ?_
    conv=>whnf
    refine Nm.mk ⟨[.lit (.int .i64 0),.lit (.int .i64 0),.lit (.int .u64 0),.lit (.int .i64 0)],rfl,?_⟩
    conv=>whnf
    refine Nm.mk ⟨[.lit (.int .i64 0),.lit (.int .i64 0),.lit (.int .u64 0),.lit (.int .i64 0)],rfl,?_⟩
    have ehj1_0:=Option.some.inj hj1
    subst ehj1_0
    conv=>whnf
    exact Returns.pure (r:=.tup [float.number.enc ((⟨0,0,0,0⟩:float.number)),.lit (.bool false)]) rfl rfl rfl rfl ⟨rfl,rfl⟩
  clear h2
  rintro s ⟨s2_0,s2_1,t4_0,t4_1,t4_2,t4_3,hj0,rfl⟩
  unfold Flt.shape.read.j0 at hj0
  obtain ⟨t29,et29,hj1⟩:=letk_elim hj0; clear hj0
  conv=>whnf
  refine Nm.mk ⟨t29,et29,?_⟩
  obtain ⟨chj2,hj2⟩:=chk_elim hj1; clear hj1
  obtain ⟨t30,et30,hj3⟩:=letk_elim hj2; clear hj2
  conv=>whnf
  refine Side.mk chj2 ?_
  conv=>whnf
  refine Nm.mk ⟨t30,et30,?_⟩
  obtain ⟨t31,et31,hj4⟩:=letk_elim hj3; clear hj3
  conv=>whnf
  refine Nm.mk ⟨t31,et31,?_⟩
  obtain ⟨t32,et32,hj5⟩:=letk_elim hj4; clear hj4
  conv=>whnf
  refine Nm.mk ⟨t32,et32,?_⟩
  conv=>whnf
  refine Gate.go ?_
  conv=>whnf
  refine Nm.mk ⟨[.lit (.int .i64 0),.lit (.int .i64 t32),.lit (.int .u64 0),.lit (.int .i64 0)],rfl,?_⟩
  conv=>whnf
  refine Nm.mk ⟨[.lit (.int .i64 0),.lit (.int .i64 0),.lit (.int .u64 0),.lit (.int .i64 0)],rfl,?_⟩
  conv=>whnf
  refine Nm.mk ⟨[.lit (.int .i64 0),.lit (.int .i64 t32),.lit (.int .u64 0),.lit (.int .i64 0)],rfl,?_⟩
  conv=>whnf
  refine DrawB.sees (Sees.of (Weak.objs (k:=101) (keep:=[0,1,2]) (frz:=[]) (m:=0) (ts:=[(2,.ptr 0 0),(4,.ptr 1 0),(6,.lit (.int .u64 t12)),(8,.ptr 2 0)]) (hs:=[.box [.lit (.int .i64 s2_0),.lit (.int .i64 s2_1)],.box [.lit (.int .i64 t4_0),.lit (.int .i64 t4_1),.lit (.int .u64 t4_2),.lit (.int .i64 t4_3)],.box [.lit (.int .i64 0),.lit (.int .i64 t32),.lit (.int .u64 0),.lit (.int .i64 0)]]) rfl (by decide) rfl rfl ⟨⟨_,rfl,WO.refl rfl⟩,⟨⟨_,rfl,WO.refl rfl⟩,⟨⟨_,rfl,WO.refl rfl⟩,⟨rfl,fun _ h=>by cases h⟩⟩⟩⟩ ⟨(.ptr _ _ 0 rfl),(.ptr _ _ 1 rfl),.s,(.ptr _ _ 2 rfl),trivial⟩)) ?_
  refine DrawB.ofG [none,none,none,none,none,none,none,none,none,none,none,none,none,none,none,none,none] Tryz_mixed (by kernel_rfl) (by kernel_rfl) ?_
  conv=>whnf
  refine DNodeB.of (.lit (.int .u64 t12)) ?_ ?_
  · conv=>whnf
    rfl
  conv=>whnf
  refine DNodeB.of (.ptr 0 0) ?_ ?_
  · conv=>whnf
    rfl
  conv=>whnf
  refine DNodeB.of (.lit (.int .i64 s2_0)) ?_ ?_
  · conv=>whnf
    rfl
  obtain ⟨t37,et37,hj6⟩:=letk_elim hj5; clear hj5
  conv=>whnf
  refine DNodeB.of (.lit (.int .i64 t37)) ?_ ?_
  · conv=>whnf
    refine Nm.mk ⟨t37,et37,?_⟩
    conv=>whnf
    rfl
  obtain ⟨chj7,hj7⟩:=chk_elim hj6; clear hj6
  obtain ⟨t38,et38,hj8⟩:=letk_elim hj7; clear hj7
  conv=>whnf
  refine DNodeB.of (.lit (.int .u64 t38)) ?_ ?_
  · conv=>whnf
    refine Side.mk chj7 ?_
    conv=>whnf
    refine Nm.mk ⟨t38,et38,?_⟩
    conv=>whnf
    rfl
  conv=>whnf
  refine DNodeB.of (.agg [.lit (.int .i64 s2_0),.lit (.int .i64 s2_1)]) ?_ ?_
  · conv=>whnf
    rfl
  obtain ⟨t40,et40,hj9⟩:=bind_elim hj8; clear hj8
  conv=>whnf
  refine DNodeB.of (.lit (.int .u64 t40)) ?_ ?_
  · conv=>whnf
    refine CallN.by (v:=.lit (.int .u64 t40)) (Flt.shape.top_ok et40) rfl rfl ?_
    conv=>whnf
    rfl
  obtain ⟨t41,et41,hj10⟩:=letk_elim hj9; clear hj9
  conv=>whnf
  refine DNodeB.of (.lit (.int .u64 t41)) ?_ ?_
  · conv=>whnf
    refine Nm.mk ⟨t41,et41,?_⟩
    conv=>whnf
    rfl
  conv=>whnf
  refine DNodeB.of (.lit (.int .u64 t12)) ?_ ?_
  · conv=>whnf
    rfl
  conv=>whnf
  refine DNodeB.of (.ptr 0 0) ?_ ?_
  · conv=>whnf
    rfl
  conv=>whnf
  refine DNodeB.of (.lit (.int .i64 s2_0)) ?_ ?_
  · conv=>whnf
    rfl
  obtain ⟨t45,et45,hj11⟩:=letk_elim hj10; clear hj10
  conv=>whnf
  refine DNodeB.of (.lit (.int .i64 t45)) ?_ ?_
  · conv=>whnf
    refine Nm.mk ⟨t45,et45,?_⟩
    conv=>whnf
    rfl
  obtain ⟨chj12,hj12⟩:=chk_elim hj11; clear hj11
  obtain ⟨t46,et46,hj13⟩:=letk_elim hj12; clear hj12
  conv=>whnf
  refine DNodeB.of (.lit (.int .u64 t46)) ?_ ?_
  · conv=>whnf
    refine Side.mk chj12 ?_
    conv=>whnf
    refine Nm.mk ⟨t46,et46,?_⟩
    conv=>whnf
    rfl
  obtain ⟨t47,et47,hj14⟩:=letk_elim hj13; clear hj13
  conv=>whnf
  refine DNodeB.of (.lit (.int .u64 t47)) ?_ ?_
  · conv=>whnf
    refine Nm.mk ⟨t47,et47,?_⟩
    conv=>whnf
    rfl
  obtain ⟨t48,et48,hj15⟩:=letk_elim hj14; clear hj14
  conv=>whnf
  refine DNodeB.of (.lit (.int .u64 t48)) ?_ ?_
  · conv=>whnf
    refine Nm.mk ⟨t48,et48,?_⟩
    conv=>whnf
    rfl
  conv=>whnf
  refine DNodeB.of (.lit (.int .u64 t41)) ?_ ?_
  · conv=>whnf
    rfl
  conv=>whnf
  refine DNodeB.of (.lit (.int .u64 t48)) ?_ ?_
  · conv=>whnf
    rfl
  conv=>whnf
  refine CutN.of (fun s=>∃ (s2_0_1:Int) (s2_1_1:Int) (t4_0_1:Int) (t4_1_1:Int) (t4_2_1:Int) (t4_3_1:Int) (x8_0:Int) (x8_1:Int) (x8_2:Int) (x8_3:Int) (t67:Bool),Flt.shape.read.j1 t41 t48 s2_0_1 s2_1_1 t4_0_1 t4_1_1 t4_2_1 t4_3_1 x8_0 x8_1 x8_2 x8_3 t67 = some r ∧ s = (⟨101,[(2,.ptr 0 0),(4,.ptr 1 0),(8,.ptr 2 0),(9,.lit (.int .u64 t41)),(10,.lit (.int .u64 t48)),(67,.lit (.bool t67))],[.box [.lit (.int .i64 s2_0_1),.lit (.int .i64 s2_1_1)],.box [.lit (.int .i64 t4_0_1),.lit (.int .i64 t4_1_1),.lit (.int .u64 t4_2_1),.lit (.int .i64 t4_3_1)],.box [.lit (.int .i64 x8_0),.lit (.int .i64 x8_1),.lit (.int .u64 x8_2),.lit (.int .i64 x8_3)]]⟩:St)) ?_ ?_
  · obtain ⟨t70,et70,hj16⟩:=bind_elim hj15; clear hj15
    conv=>whnf
    refine Gate.go ?_
    conv=>whnf
    refine CallN.by (v:=.lit (.int .u64 t70)) (Flt.shape.top_ok et70) rfl rfl ?_
    obtain ⟨t71,et71,hj17⟩:=letk_elim hj16; clear hj16
    conv=>whnf
    refine Nm.mk ⟨t71,et71,?_⟩
    rcases t71 with _ | _
    · have hj18:=bif_f hj17
      clear hj17
      exact BackS.by ⟨_,_,_,_,_,_,_,_,_,_,_,hj18,rfl⟩ (Sees.of (Weak.objs (keep:=[0,1,2]) (frz:=[]) (m:=0) rfl (by decide) rfl rfl ⟨⟨_,rfl,WO.boxs ⟨.s,.s,trivial⟩⟩,⟨⟨_,rfl,WO.boxs ⟨.s,.s,.s,.s,trivial⟩⟩,⟨⟨_,rfl,WO.boxs ⟨.s,.s,.s,.s,trivial⟩⟩,⟨rfl,fun _ h=>by cases h⟩⟩⟩⟩ ⟨(.ptr _ _ 0 rfl),(.ptr _ _ 1 rfl),(.ptr _ _ 2 rfl),.s,.s,.s,trivial⟩))
    have hj18:=bif_t hj17
    clear hj17
    obtain ⟨t74,et74,hj19⟩:=letk_elim hj18; clear hj18
    conv=>whnf
    refine Nm.mk ⟨t74,et74,?_⟩
    exact BackS.by ⟨_,_,_,_,_,_,_,_,_,_,_,hj19,rfl⟩ (Sees.of (Weak.objs (keep:=[0,1,2]) (frz:=[]) (m:=0) rfl (by decide) rfl rfl ⟨⟨_,rfl,WO.boxs ⟨.s,.s,trivial⟩⟩,⟨⟨_,rfl,WO.boxs ⟨.s,.s,.s,.s,trivial⟩⟩,⟨⟨_,rfl,WO.boxs ⟨.s,.s,.s,.s,trivial⟩⟩,⟨rfl,fun _ h=>by cases h⟩⟩⟩⟩ ⟨(.ptr _ _ 0 rfl),(.ptr _ _ 1 rfl),(.ptr _ _ 2 rfl),.s,.s,.s,trivial⟩))
  clear hj15
  rintro s ⟨s2_0_1,s2_1_1,t4_0_1,t4_1_1,t4_2_1,t4_3_1,x8_0,x8_1,x8_2,x8_3,t67,hj0,rfl⟩
  unfold Flt.shape.read.j1 at hj0
  rcases t67 with _ | _
  · have hj1:=bif_f hj0
    clear hj0
    obtain ⟨t80,et80,hj2⟩:=bind_elim hj1; clear hj1
    conv=>whnf
    refine Gate.go ?_
    conv=>whnf
    refine CallN.by (v:=.lit (.int .u64 t80)) (Flt.shape.top_ok et80) rfl rfl ?_
    obtain ⟨t81,et81,hj3⟩:=letk_elim hj2; clear hj2
    conv=>whnf
    refine Nm.mk ⟨t81,et81,?_⟩
    rcases t81 with _ | _
    · have hj4:=bif_f hj3
      clear hj3
      conv=>whnf
      refine CutN.of (fun s=>∃ (t83:Bool),Flt.shape.read.j2 t41 t48 s2_0_1 s2_1_1 t4_0_1 t4_1_1 t4_2_1 t4_3_1 x8_0 x8_1 x8_2 x8_3 t83 = some r ∧ s = (⟨101,[(2,.ptr 0 0),(4,.ptr 1 0),(8,.ptr 2 0),(9,.lit (.int .u64 t41)),(10,.lit (.int .u64 t48)),(83,.lit (.bool t83))],[.box [.lit (.int .i64 s2_0_1),.lit (.int .i64 s2_1_1)],.box [.lit (.int .i64 t4_0_1),.lit (.int .i64 t4_1_1),.lit (.int .u64 t4_2_1),.lit (.int .i64 t4_3_1)],.box [.lit (.int .i64 x8_0),.lit (.int .i64 x8_1),.lit (.int .u64 x8_2),.lit (.int .i64 x8_3)]]⟩:St)) ?_ ?_
      · obtain ⟨t85,et85,hj5⟩:=letk_elim hj4; clear hj4
        conv=>whnf
        refine Nm.mk ⟨t85,et85,?_⟩
        rcases t85 with _ | _
        · have hj6:=bif_f hj5
          clear hj5
          exact BackS.by ⟨_,hj6,rfl⟩ (Sees.of (Weak.objs (keep:=[0,1,2]) (frz:=[]) (m:=0) rfl (by decide) rfl rfl ⟨⟨_,rfl,WO.boxs ⟨.s,.s,trivial⟩⟩,⟨⟨_,rfl,WO.boxs ⟨.s,.s,.s,.s,trivial⟩⟩,⟨⟨_,rfl,WO.boxs ⟨.s,.s,.s,.s,trivial⟩⟩,⟨rfl,fun _ h=>by cases h⟩⟩⟩⟩ ⟨(.ptr _ _ 0 rfl),(.ptr _ _ 1 rfl),(.ptr _ _ 2 rfl),.s,.s,.s,trivial⟩))
        have hj6:=bif_t hj5
        clear hj5
        obtain ⟨t88,et88,hj7⟩:=letk_elim hj6; clear hj6
        conv=>whnf
        refine Nm.mk ⟨t88,et88,?_⟩
        exact BackS.by ⟨_,hj7,rfl⟩ (Sees.of (Weak.objs (keep:=[0,1,2]) (frz:=[]) (m:=0) rfl (by decide) rfl rfl ⟨⟨_,rfl,WO.boxs ⟨.s,.s,trivial⟩⟩,⟨⟨_,rfl,WO.boxs ⟨.s,.s,.s,.s,trivial⟩⟩,⟨⟨_,rfl,WO.boxs ⟨.s,.s,.s,.s,trivial⟩⟩,⟨rfl,fun _ h=>by cases h⟩⟩⟩⟩ ⟨(.ptr _ _ 0 rfl),(.ptr _ _ 1 rfl),(.ptr _ _ 2 rfl),.s,.s,.s,trivial⟩))
      clear hj4
      rintro s ⟨t83,hj0,rfl⟩
      unfold Flt.shape.read.j2 at hj0
      rcases t83 with _ | _
      · have hj1:=bif_f hj0
        clear hj0
        obtain ⟨t93,et93,hj2⟩:=letk_elim hj1; clear hj1
        conv=>whnf
        refine Nm.mk ⟨t93,et93,?_⟩
        rcases t93 with _ | _
        · have hj3:=bif_f hj2
          clear hj2
          conv=>whnf
          refine DrawB.sees (Sees.of (Weak.objs (k:=101) (keep:=[0,1,2]) (frz:=[]) (m:=0) (ts:=[(2,.ptr 0 0),(4,.ptr 1 0),(8,.ptr 2 0),(9,.lit (.int .u64 t41)),(10,.lit (.int .u64 t48))]) (hs:=[.box [.lit (.int .i64 s2_0_1),.lit (.int .i64 s2_1_1)],.box [.lit (.int .i64 t4_0_1),.lit (.int .i64 t4_1_1),.lit (.int .u64 t4_2_1),.lit (.int .i64 t4_3_1)],.box [.lit (.int .i64 x8_0),.lit (.int .i64 x8_1),.lit (.int .u64 x8_2),.lit (.int .i64 x8_3)]]) rfl (by decide) rfl rfl ⟨⟨_,rfl,WO.refl rfl⟩,⟨⟨_,rfl,WO.refl rfl⟩,⟨⟨_,rfl,WO.refl rfl⟩,⟨rfl,fun _ h=>by cases h⟩⟩⟩⟩ ⟨(.ptr _ _ 0 rfl),(.ptr _ _ 1 rfl),(.ptr _ _ 2 rfl),.s,.s,trivial⟩)) ?_
          refine DrawB.ofFN 0 [.box [.lit (.int .i64 s2_0_1),.lit (.int .i64 s2_1_1)],.box [.lit (.int .i64 t4_0_1),.lit (.int .i64 t4_1_1),.lit (.int .u64 t4_2_1),.lit (.int .i64 t4_3_1)],.box [.lit (.int .i64 x8_0),.lit (.int .i64 x8_1),.lit (.int .u64 x8_2),.lit (.int .i64 x8_3)]] 3 3 [[],[0],[0],[],[],[],[],[],[0],[],[],[0],[0],[],[],[2],[2],[2],[2],[2],[2]] [[],[],[],[],[],[],[],[],[],[],[],[],[],[],[],[],[2],[],[2],[],[2]] [none,none,none,none,none,none,none,none,none,none,none,none,none,none,none,none,none,none,none,none,none] Tryz_mixed (by kernel_rfl) rfl rfl rfl (by kernel_rfl) ?_
          conv=>whnf
          refine FNode.no (W:=[]) (.lit (.int .u64 t48)) ?_ rfl ?_
          · conv=>whnf
            rfl
          conv=>whnf
          refine FNode.rd (F:=[0]) (W:=[]) (.ptr 0 0) ?_ rfl rfl ?_
          · conv=>whnf
            rfl
          conv=>whnf
          refine FNode.rd (F:=[0]) (W:=[]) (.lit (.int .i64 s2_0_1)) ?_ rfl rfl ?_
          · conv=>whnf
            rfl
          obtain ⟨t52,et52,hj4⟩:=letk_elim hj3; clear hj3
          conv=>whnf
          refine FNode.no (W:=[]) (.lit (.int .i64 t52)) ?_ rfl ?_
          · conv=>whnf
            refine Nm.mk ⟨t52,et52,?_⟩
            conv=>whnf
            rfl
          obtain ⟨chj5,hj5⟩:=chk_elim hj4; clear hj4
          obtain ⟨t53,et53,hj6⟩:=letk_elim hj5; clear hj5
          conv=>whnf
          refine FNode.no (W:=[]) (.lit (.int .u64 t53)) ?_ rfl ?_
          · conv=>whnf
            refine Side.mk chj5 ?_
            conv=>whnf
            refine Nm.mk ⟨t53,et53,?_⟩
            conv=>whnf
            rfl
          obtain ⟨t54,et54,hj7⟩:=letk_elim hj6; clear hj6
          conv=>whnf
          refine FNode.no (W:=[]) (.lit (.int .u64 t54)) ?_ rfl ?_
          · conv=>whnf
            refine Nm.mk ⟨t54,et54,?_⟩
            conv=>whnf
            rfl
          conv=>whnf
          refine FNode.no (W:=[]) (.lit (.int .u64 t41)) ?_ rfl ?_
          · conv=>whnf
            rfl
          obtain ⟨t56,et56,hj8⟩:=letk_elim hj7; clear hj7
          conv=>whnf
          refine FNode.no (W:=[]) (.lit (.int .i64 t56)) ?_ rfl ?_
          · conv=>whnf
            refine Nm.mk ⟨t56,et56,?_⟩
            conv=>whnf
            rfl
          conv=>whnf
          refine FNode.rd (F:=[0]) (W:=[]) (.agg [.lit (.int .i64 s2_0_1),.lit (.int .i64 s2_1_1)]) ?_ rfl rfl ?_
          · conv=>whnf
            rfl
          obtain ⟨t58,et58,hj9⟩:=bind_elim hj8; clear hj8
          conv=>whnf
          refine FNode.no (W:=[]) (.lit (.int .i64 t58)) ?_ rfl ?_
          · conv=>whnf
            refine CallN.by (v:=.lit (.int .i64 t58)) (Flt.shape.bias_ok et58) rfl rfl ?_
            conv=>whnf
            rfl
          obtain ⟨t59,et59,hj10⟩:=letk_elim hj9; clear hj9
          conv=>whnf
          refine FNode.no (W:=[]) (.lit (.int .i64 t59)) ?_ rfl ?_
          · conv=>whnf
            refine Nm.mk ⟨t59,et59,?_⟩
            conv=>whnf
            rfl
          conv=>whnf
          refine FNode.rd (F:=[0]) (W:=[]) (.ptr 0 0) ?_ rfl rfl ?_
          · conv=>whnf
            rfl
          conv=>whnf
          refine FNode.rd (F:=[0]) (W:=[]) (.lit (.int .i64 s2_0_1)) ?_ rfl rfl ?_
          · conv=>whnf
            rfl
          obtain ⟨t62,et62,hj11⟩:=letk_elim hj10; clear hj10
          conv=>whnf
          refine FNode.no (W:=[]) (.lit (.int .i64 t62)) ?_ rfl ?_
          · conv=>whnf
            refine Nm.mk ⟨t62,et62,?_⟩
            conv=>whnf
            rfl
          obtain ⟨t63,et63,hj12⟩:=letk_elim hj11; clear hj11
          conv=>whnf
          refine FNode.no (W:=[]) (.lit (.int .i64 t63)) ?_ rfl ?_
          · conv=>whnf
            refine Nm.mk ⟨t63,et63,?_⟩
            conv=>whnf
            rfl
          conv=>whnf
          refine FNode.rd (F:=[2]) (W:=[]) (.ptr 2 0) ?_ rfl rfl ?_
          · conv=>whnf
            rfl
          conv=>whnf
          refine FNode.pl (F:=[2]) (W:=[2]) (.undef) [.box [.lit (.int .i64 s2_0_1),.lit (.int .i64 s2_1_1)],.box [.lit (.int .i64 t4_0_1),.lit (.int .i64 t4_1_1),.lit (.int .u64 t4_2_1),.lit (.int .i64 t4_3_1)],.box [.lit (.int .i64 1),.lit (.int .i64 x8_1),.lit (.int .u64 x8_2),.lit (.int .i64 x8_3)]] ?_ rfl rfl rfl rfl ?_
          · conv=>whnf
            refine Nm.mk ⟨[.lit (.int .i64 1),.lit (.int .i64 x8_1),.lit (.int .u64 x8_2),.lit (.int .i64 x8_3)],rfl,?_⟩
            conv=>whnf
            rfl
          conv=>whnf
          refine FNode.rd (F:=[2]) (W:=[]) (.ptr 2 2) ?_ rfl rfl ?_
          · conv=>whnf
            rfl
          conv=>whnf
          refine FNode.pl (F:=[2]) (W:=[2]) (.undef) [.box [.lit (.int .i64 s2_0_1),.lit (.int .i64 s2_1_1)],.box [.lit (.int .i64 t4_0_1),.lit (.int .i64 t4_1_1),.lit (.int .u64 t4_2_1),.lit (.int .i64 t4_3_1)],.box [.lit (.int .i64 1),.lit (.int .i64 x8_1),.lit (.int .u64 t54),.lit (.int .i64 x8_3)]] ?_ rfl rfl rfl rfl ?_
          · conv=>whnf
            refine Nm.mk ⟨[.lit (.int .i64 1),.lit (.int .i64 x8_1),.lit (.int .u64 t54),.lit (.int .i64 x8_3)],rfl,?_⟩
            conv=>whnf
            rfl
          conv=>whnf
          refine FNode.rd (F:=[2]) (W:=[]) (.ptr 2 3) ?_ rfl rfl ?_
          · conv=>whnf
            rfl
          conv=>whnf
          refine FNode.pl (F:=[2]) (W:=[2]) (.undef) [.box [.lit (.int .i64 s2_0_1),.lit (.int .i64 s2_1_1)],.box [.lit (.int .i64 t4_0_1),.lit (.int .i64 t4_1_1),.lit (.int .u64 t4_2_1),.lit (.int .i64 t4_3_1)],.box [.lit (.int .i64 1),.lit (.int .i64 x8_1),.lit (.int .u64 t54),.lit (.int .i64 t63)]] ?_ rfl rfl rfl rfl ?_
          · conv=>whnf
            refine Nm.mk ⟨[.lit (.int .i64 1),.lit (.int .i64 x8_1),.lit (.int .u64 t54),.lit (.int .i64 t63)],rfl,?_⟩
            conv=>whnf
            rfl
          conv=>whnf
          refine Nm.mk ⟨[.lit (.int .i64 1),.lit (.int .i64 x8_1),.lit (.int .u64 t54),.lit (.int .i64 t63)],rfl,?_⟩
          have ehj12_0:=Option.some.inj hj12
          subst ehj12_0
          conv=>whnf
          exact Returns.pure (r:=.tup [float.number.enc ((⟨1,x8_1,t54,t63⟩:float.number)),.lit (.bool true)]) rfl rfl rfl rfl ⟨rfl,rfl⟩
        have hj3:=bif_t hj2
        clear hj2
        obtain ⟨t96,et96,hj4⟩:=bind_elim hj3; clear hj3
        conv=>whnf
        refine Gate.go ?_
        conv=>whnf
        refine CallN.by (v:=.lit (.int .i64 t96)) (Flt.shape.least_ok et96) rfl rfl ?_
        conv=>whnf
        refine Nm.mk ⟨[.lit (.int .i64 1),.lit (.int .i64 x8_1),.lit (.int .u64 x8_2),.lit (.int .i64 x8_3)],rfl,?_⟩
        conv=>whnf
        refine Nm.mk ⟨[.lit (.int .i64 1),.lit (.int .i64 x8_1),.lit (.int .u64 t48),.lit (.int .i64 x8_3)],rfl,?_⟩
        conv=>whnf
        refine Nm.mk ⟨[.lit (.int .i64 1),.lit (.int .i64 x8_1),.lit (.int .u64 t48),.lit (.int .i64 t96)],rfl,?_⟩
        conv=>whnf
        refine Nm.mk ⟨[.lit (.int .i64 1),.lit (.int .i64 x8_1),.lit (.int .u64 t48),.lit (.int .i64 t96)],rfl,?_⟩
        have ehj4_0:=Option.some.inj hj4
        subst ehj4_0
        conv=>whnf
        exact Returns.pure (r:=.tup [float.number.enc ((⟨1,x8_1,t48,t96⟩:float.number)),.lit (.bool true)]) rfl rfl rfl rfl ⟨rfl,rfl⟩
      have hj1:=bif_t hj0
      clear hj0
      conv=>whnf
      refine Nm.mk ⟨[.lit (.int .i64 0),.lit (.int .i64 x8_1),.lit (.int .u64 x8_2),.lit (.int .i64 x8_3)],rfl,?_⟩
      conv=>whnf
      refine Nm.mk ⟨[.lit (.int .i64 0),.lit (.int .i64 x8_1),.lit (.int .u64 x8_2),.lit (.int .i64 x8_3)],rfl,?_⟩
      have ehj1_0:=Option.some.inj hj1
      subst ehj1_0
      conv=>whnf
      exact Returns.pure (r:=.tup [float.number.enc ((⟨0,x8_1,x8_2,x8_3⟩:float.number)),.lit (.bool true)]) rfl rfl rfl rfl ⟨rfl,rfl⟩
    have hj4:=bif_t hj3
    clear hj3
    conv=>whnf
    refine Nm.mk ⟨[.lit (.int .i64 3),.lit (.int .i64 x8_1),.lit (.int .u64 x8_2),.lit (.int .i64 x8_3)],rfl,?_⟩
    conv=>whnf
    refine Nm.mk ⟨[.lit (.int .i64 3),.lit (.int .i64 x8_1),.lit (.int .u64 x8_2),.lit (.int .i64 x8_3)],rfl,?_⟩
    have ehj4_0:=Option.some.inj hj4
    subst ehj4_0
    conv=>whnf
    exact Returns.pure (r:=.tup [float.number.enc ((⟨3,x8_1,x8_2,x8_3⟩:float.number)),.lit (.bool true)]) rfl rfl rfl rfl ⟨rfl,rfl⟩
  have hj1:=bif_t hj0
  clear hj0
  conv=>whnf
  refine Nm.mk ⟨[.lit (.int .i64 2),.lit (.int .i64 x8_1),.lit (.int .u64 x8_2),.lit (.int .i64 x8_3)],rfl,?_⟩
  conv=>whnf
  refine Nm.mk ⟨[.lit (.int .i64 2),.lit (.int .i64 x8_1),.lit (.int .u64 x8_2),.lit (.int .i64 x8_3)],rfl,?_⟩
  have ehj1_0:=Option.some.inj hj1
  subst ehj1_0
  conv=>whnf
  exact Returns.pure (r:=.tup [float.number.enc ((⟨2,x8_1,x8_2,x8_3⟩:float.number)),.lit (.bool true)]) rfl rfl rfl rfl ⟨rfl,rfl⟩
noncomputable def Flt.Valid (kind0:Int) (a1:Int):Option Bool :=
  Option.bind (Flt.of kind0) fun (t9_0,t9_1) =>
  letk (!t9_1) fun t13 =>
  bif t13 then
    some false
  else
    Option.bind (Flt.shape.read (⟨t9_0.p,t9_0.w⟩:float.shape) a1) fun (t17_0,t17_1) =>
    some t17_1
theorem Flt.Valid_ok {kind0:Int} {a1:Int} {r:Bool} (h0:Flt.Valid kind0 a1 = some r):Gives Tryz.prog 40 [.lit (.int .i64 kind0),.lit (.int .i64 a1)] (.lit (.bool r)):=by
  unfold Flt.Valid at h0
  refine ACalls.of_swp Tryz.func40 rfl (by decide) rfl (st0:=⟨21,[(0,.lit (.int .i64 kind0)),(1,.lit (.int .i64 a1))],[]⟩) rfl (bwp_ok (C:=[]) ?_)
  obtain ⟨⟨t9_0,t9_1⟩,et9,h1⟩:=bind_elim h0; clear h0
  conv=>whnf
  refine Gate.go ?_
  conv=>whnf
  refine CallN.by (v:=.tup [float.shape.enc t9_0,.lit (.bool t9_1)]) (Flt.of_ok et9) rfl rfl ?_
  conv=>whnf
  refine Nm.mk ⟨[.lit (.int .i64 0),.lit (.int .i64 0)],rfl,?_⟩
  conv=>whnf
  refine Nm.mk ⟨[.lit (.int .i64 t9_0.p),.lit (.int .i64 t9_0.w)],rfl,?_⟩
  obtain ⟨t13,et13,h2⟩:=letk_elim h1; clear h1
  conv=>whnf
  refine Nm.mk ⟨t13,et13,?_⟩
  rcases t13 with _ | _
  · have h3:=bif_f h2
    clear h2
    obtain ⟨⟨t17_0,t17_1⟩,et17,h4⟩:=bind_elim h3; clear h3
    conv=>whnf
    refine Gate.go ?_
    conv=>whnf
    refine CallN.by (v:=.tup [float.number.enc t17_0,.lit (.bool t17_1)]) (Flt.shape.read_ok et17) rfl rfl ?_
    have eh4_0:=Option.some.inj h4
    subst eh4_0
    conv=>whnf
    exact Returns.pure (r:=.lit (.bool t17_1)) rfl rfl rfl rfl ⟨rfl,rfl⟩
  have h3:=bif_t h2
  clear h2
  have eh3_0:=Option.some.inj h3
  subst eh3_0
  conv=>whnf
  exact Returns.pure (r:=.lit (.bool false)) rfl rfl rfl rfl ⟨rfl,rfl⟩
noncomputable def Dec.isKind (kind0:Int) (mode1:Int):Option Bool :=
  Option.bind (Flt.Valid kind0 0) fun t6 =>
  bif t6 then
    letk (decide (mode1 ≥ (0:Int))) fun t9 =>
    bif t9 then
      letk (decide (mode1 ≤ (3:Int))) fun t13 =>
      some t13
    else
      some false
  else
    some false
theorem Dec.isKind_ok {kind0:Int} {mode1:Int} {r:Bool} (h0:Dec.isKind kind0 mode1 = some r):Gives Tryz.prog 52 [.lit (.int .i64 kind0),.lit (.int .i64 mode1)] (.lit (.bool r)):=by
  unfold Dec.isKind at h0
  refine ACalls.of_swp Tryz.func52 rfl (by decide) rfl (st0:=⟨15,[(0,.lit (.int .i64 kind0)),(1,.lit (.int .i64 mode1))],[]⟩) rfl (bwp_ok (C:=[]) ?_)
  obtain ⟨t6,et6,h1⟩:=bind_elim h0; clear h0
  conv=>whnf
  refine Gate.go ?_
  conv=>whnf
  refine CallN.by (v:=.lit (.bool t6)) (Flt.Valid_ok et6) rfl rfl ?_
  rcases t6 with _ | _
  · have h2:=bif_f h1
    clear h1
    have eh2_0:=Option.some.inj h2
    subst eh2_0
    conv=>whnf
    exact Returns.pure (r:=.lit (.bool false)) rfl rfl rfl rfl ⟨rfl,rfl⟩
  have h2:=bif_t h1
  clear h1
  obtain ⟨t9,et9,h3⟩:=letk_elim h2; clear h2
  conv=>whnf
  refine Nm.mk ⟨t9,et9,?_⟩
  rcases t9 with _ | _
  · have h4:=bif_f h3
    clear h3
    have eh4_0:=Option.some.inj h4
    subst eh4_0
    conv=>whnf
    exact Returns.pure (r:=.lit (.bool false)) rfl rfl rfl rfl ⟨rfl,rfl⟩
  have h4:=bif_t h3
  clear h3
  obtain ⟨t13,et13,h5⟩:=letk_elim h4; clear h4
  conv=>whnf
  refine Nm.mk ⟨t13,et13,?_⟩
  have eh5_0:=Option.some.inj h5
  subst eh5_0
  conv=>whnf
  exact Returns.pure (r:=.lit (.bool t13)) rfl rfl rfl rfl ⟨rfl,rfl⟩
noncomputable def Dec.digitsOf.s0 (s0:ByteArray) (n3:Int):Option (Int ⊕ ByteArray) :=
  letk ((s0.size:Int)) fun t6 =>
  letk (decide (n3 < t6)) fun t7 =>
  bif t7 then
    chk (0 ≤ n3 ∧ n3 < (s0.size:Int)) <|
    letk (bt s0 n3) fun t11 =>
    letk (decide (t11 ≥ (48:Int))) fun t12 =>
    bif t12 then
      chk (0 ≤ n3 ∧ n3 < (s0.size:Int)) <|
      letk (bt s0 n3) fun t17 =>
      letk (decide (t17 ≤ (57:Int))) fun t18 =>
      bif t18 then
        letk (IntKind.i64.wrap (n3 + (1:Int))) fun t21 =>
        some (.inl t21)
      else
        ((
        chk (0 ≤ n3 ∧ n3 ≤ (s0.size:Int)) <|
        letk (s0.extract 0 n3.toNat) fun t24_2 =>
        some t24_2)).map .inr
    else
      ((
      chk (0 ≤ n3 ∧ n3 ≤ (s0.size:Int)) <|
      letk (s0.extract 0 n3.toNat) fun t24_1 =>
      some t24_1)).map .inr
  else
    ((
    chk (0 ≤ n3 ∧ n3 ≤ (s0.size:Int)) <|
    letk (s0.extract 0 n3.toNat) fun t24 =>
    some t24)).map .inr
noncomputable def Dec.digitsOf.l0 (s0:ByteArray) (n3:Int):Option ByteArray:=loopO (fun v:Int=>Dec.digitsOf.s0 s0 v) n3
noncomputable def Dec.digitsOf (s0:ByteArray):Option ByteArray :=
  Dec.digitsOf.l0 s0 0
theorem Dec.digitsOf_ok {s0:ByteArray} {r:ByteArray} (h0:Dec.digitsOf s0 = some r):Gives Tryz.prog 107 [.lit (.string s0)] (.lit (.string r)):=by
  unfold Dec.digitsOf at h0
  refine ACalls.of_swp Tryz.func107 rfl (by decide) rfl (st0:=⟨25,[(0,.lit (.string s0))],[]⟩) rfl (bwp_ok (C:=[]) ?_)
  conv=>whnf
  unfold Dec.digitsOf.l0 at h0
  refine LoopB.of (σ:=Int) (ρ:=ByteArray) (fun v:Int=>Dec.digitsOf.s0 s0 v) (fun v=>(⟨25,[(0,.lit (.string s0)),(3,.lit (.int .i64 v))],[]⟩:St)) 0 h0 (BackS.by rfl (Sees.e ⟨.s,.s,trivial⟩)) ?_
  clear h0
  rintro K1 n3 x1 hs0_0 hl1 hr1
  replace hs0_0:Dec.digitsOf.s0 s0 n3 = some x1:=hs0_0
  unfold Dec.digitsOf.s0 at hs0_0
  change bwp _ _ _ _ _ (⟨25,[(0,.lit (.string s0)),(3,.lit (.int .i64 n3))],[]⟩:St)
  obtain ⟨t6,et6,hs0_1⟩:=letk_elim hs0_0; clear hs0_0
  conv=>whnf
  refine Nm.mk ⟨t6,et6,?_⟩
  obtain ⟨t7,et7,hs0_2⟩:=letk_elim hs0_1; clear hs0_1
  conv=>whnf
  refine Nm.mk ⟨t7,et7,?_⟩
  rcases t7 with _ | _
  · have hs0_3:=bif_f hs0_2
    clear hs0_2
    obtain ⟨yhs0_3_0,hs0_3u,ehs0_3_0⟩:=map_elim hs0_3
    have ehs0_3_0:=(hr1 _ ehs0_3_0.symm).symm
    subst ehs0_3_0
    obtain ⟨chs0_3u0,hs0_3u0⟩:=chk_elim hs0_3u; clear hs0_3u
    obtain ⟨t24,et24,hs0_3u1⟩:=letk_elim hs0_3u0; clear hs0_3u0
    conv=>whnf
    refine Side.mk chs0_3u0 ?_
    conv=>whnf
    refine Nm.mk ⟨t24,et24,?_⟩
    have ehs0_3u1_0:=Option.some.inj hs0_3u1
    subst ehs0_3u1_0
    conv=>whnf
    exact Returns.pure (r:=.lit (.string t24)) rfl rfl rfl rfl ⟨rfl,rfl⟩
  have hs0_3:=bif_t hs0_2
  clear hs0_2
  obtain ⟨chs0_4,hs0_4⟩:=chk_elim hs0_3; clear hs0_3
  obtain ⟨t11,et11,hs0_5⟩:=letk_elim hs0_4; clear hs0_4
  conv=>whnf
  refine Side.mk chs0_4 ?_
  conv=>whnf
  refine Nm.mk ⟨t11,et11,?_⟩
  obtain ⟨t12,et12,hs0_6⟩:=letk_elim hs0_5; clear hs0_5
  conv=>whnf
  refine Nm.mk ⟨t12,et12,?_⟩
  rcases t12 with _ | _
  · have hs0_7:=bif_f hs0_6
    clear hs0_6
    obtain ⟨yhs0_7_0,hs0_7u,ehs0_7_0⟩:=map_elim hs0_7
    have ehs0_7_0:=(hr1 _ ehs0_7_0.symm).symm
    subst ehs0_7_0
    obtain ⟨chs0_7u0,hs0_7u0⟩:=chk_elim hs0_7u; clear hs0_7u
    obtain ⟨t24_1,et24_1,hs0_7u1⟩:=letk_elim hs0_7u0; clear hs0_7u0
    conv=>whnf
    refine Side.mk chs0_7u0 ?_
    conv=>whnf
    refine Nm.mk ⟨t24_1,et24_1,?_⟩
    have ehs0_7u1_0:=Option.some.inj hs0_7u1
    subst ehs0_7u1_0
    conv=>whnf
    exact Returns.pure (r:=.lit (.string t24_1)) rfl rfl rfl rfl ⟨rfl,rfl⟩
  have hs0_7:=bif_t hs0_6
  clear hs0_6
  obtain ⟨chs0_8,hs0_8⟩:=chk_elim hs0_7; clear hs0_7
  obtain ⟨t17,et17,hs0_9⟩:=letk_elim hs0_8; clear hs0_8
  conv=>whnf
  refine Side.mk chs0_8 ?_
  conv=>whnf
  refine Nm.mk ⟨t17,et17,?_⟩
  obtain ⟨t18,et18,hs0_10⟩:=letk_elim hs0_9; clear hs0_9
  conv=>whnf
  refine Nm.mk ⟨t18,et18,?_⟩
  rcases t18 with _ | _
  · have hs0_11:=bif_f hs0_10
    clear hs0_10
    obtain ⟨yhs0_11_0,hs0_11u,ehs0_11_0⟩:=map_elim hs0_11
    have ehs0_11_0:=(hr1 _ ehs0_11_0.symm).symm
    subst ehs0_11_0
    obtain ⟨chs0_11u0,hs0_11u0⟩:=chk_elim hs0_11u; clear hs0_11u
    obtain ⟨t24_2,et24_2,hs0_11u1⟩:=letk_elim hs0_11u0; clear hs0_11u0
    conv=>whnf
    refine Side.mk chs0_11u0 ?_
    conv=>whnf
    refine Nm.mk ⟨t24_2,et24_2,?_⟩
    have ehs0_11u1_0:=Option.some.inj hs0_11u1
    subst ehs0_11u1_0
    conv=>whnf
    exact Returns.pure (r:=.lit (.string t24_2)) rfl rfl rfl rfl ⟨rfl,rfl⟩
  have hs0_11:=bif_t hs0_10
  clear hs0_10
  obtain ⟨t21,et21,hs0_12⟩:=letk_elim hs0_11; clear hs0_11
  conv=>whnf
  refine Nm.mk ⟨t21,et21,?_⟩
  exact BackS.by ⟨_,hl1 _ (Option.some.inj hs0_12).symm,rfl⟩ (Sees.e ⟨.s,.s,trivial⟩)
noncomputable def Slite.HasPrefix (s0:ByteArray) (prefix1:ByteArray):Option Bool :=
  letk ((s0.size:Int)) fun t6 =>
  letk ((prefix1.size:Int)) fun t8 =>
  letk (decide (t6 ≥ t8)) fun t9 =>
  bif t9 then
    letk ((prefix1.size:Int)) fun t13 =>
    chk (0 ≤ t13 ∧ t13 ≤ (s0.size:Int)) <|
    letk (s0.extract 0 t13.toNat) fun t14 =>
    letk (t14.toList == prefix1.toList) fun t16 =>
    some t16
  else
    some false
theorem Slite.HasPrefix_ok {s0:ByteArray} {prefix1:ByteArray} {r:Bool} (h0:Slite.HasPrefix s0 prefix1 = some r):Gives Tryz.prog 142 [.lit (.string s0),.lit (.string prefix1)] (.lit (.bool r)):=by
  unfold Slite.HasPrefix at h0
  refine ACalls.of_swp Tryz.func142 rfl (by decide) rfl (st0:=⟨18,[(0,.lit (.string s0)),(1,.lit (.string prefix1))],[]⟩) rfl (bwp_ok (C:=[]) ?_)
  obtain ⟨t6,et6,h1⟩:=letk_elim h0; clear h0
  conv=>whnf
  refine Nm.mk ⟨t6,et6,?_⟩
  obtain ⟨t8,et8,h2⟩:=letk_elim h1; clear h1
  conv=>whnf
  refine Nm.mk ⟨t8,et8,?_⟩
  obtain ⟨t9,et9,h3⟩:=letk_elim h2; clear h2
  conv=>whnf
  refine Nm.mk ⟨t9,et9,?_⟩
  rcases t9 with _ | _
  · have h4:=bif_f h3
    clear h3
    have eh4_0:=Option.some.inj h4
    subst eh4_0
    conv=>whnf
    exact Returns.pure (r:=.lit (.bool false)) rfl rfl rfl rfl ⟨rfl,rfl⟩
  have h4:=bif_t h3
  clear h3
  obtain ⟨t13,et13,h5⟩:=letk_elim h4; clear h4
  conv=>whnf
  refine Nm.mk ⟨t13,et13,?_⟩
  obtain ⟨ch6,h6⟩:=chk_elim h5; clear h5
  obtain ⟨t14,et14,h7⟩:=letk_elim h6; clear h6
  conv=>whnf
  refine Side.mk ch6 ?_
  conv=>whnf
  refine Nm.mk ⟨t14,et14,?_⟩
  obtain ⟨t16,et16,h8⟩:=letk_elim h7; clear h7
  conv=>whnf
  refine Nm.mk ⟨t16,et16,?_⟩
  have eh8_0:=Option.some.inj h8
  subst eh8_0
  conv=>whnf
  exact Returns.pure (r:=.lit (.bool t16)) rfl rfl rfl rfl ⟨rfl,rfl⟩
noncomputable def Strs.HasPrefix (s0:ByteArray) (prefix1:ByteArray):Option Bool :=
  Option.bind (Slite.HasPrefix s0 prefix1) fun t7 =>
  some t7
theorem Strs.HasPrefix_ok {s0:ByteArray} {prefix1:ByteArray} {r:Bool} (h0:Strs.HasPrefix s0 prefix1 = some r):Gives Tryz.prog 100 [.lit (.string s0),.lit (.string prefix1)] (.lit (.bool r)):=by
  unfold Strs.HasPrefix at h0
  refine ACalls.of_swp Tryz.func100 rfl (by decide) rfl (st0:=⟨8,[(0,.lit (.string s0)),(1,.lit (.string prefix1))],[]⟩) rfl (bwp_ok (C:=[]) ?_)
  obtain ⟨t7,et7,h1⟩:=bind_elim h0; clear h0
  conv=>whnf
  refine Gate.go ?_
  conv=>whnf
  refine CallN.by (v:=.lit (.bool t7)) (Slite.HasPrefix_ok et7) rfl rfl ?_
  have eh1_0:=Option.some.inj h1
  subst eh1_0
  conv=>whnf
  exact Returns.pure (r:=.lit (.bool t7)) rfl rfl rfl rfl ⟨rfl,rfl⟩
noncomputable def Dec.parse.j6 (p2_0_5:Int) (p2_1_5:ByteArray) (p2_2_5:ByteArray) (p2_3_5:Int) (n7:Int):Option (decimal.parsed × Bool) :=
  letk (IntKind.i64.wrap (p2_3_5 + n7)) fun t113 =>
  some ((⟨p2_0_5,p2_1_5,p2_2_5,t113⟩:decimal.parsed),true)
noncomputable def Dec.parse.j5 (s0_3:ByteArray) (p2_0_5:Int) (p2_1_5:ByteArray) (p2_2_5:ByteArray) (p2_3_5:Int) (minus6_1:Bool):Option (decimal.parsed × Bool) :=
  Option.bind (Strconv.Atoi s0_3) fun (t104_0,t104_1) =>
  bif minus6_1 then
    letk (IntKind.i64.wrap (0 - t104_0)) fun t109 =>
    Dec.parse.j6 p2_0_5 p2_1_5 p2_2_5 p2_3_5 t109
  else
    Dec.parse.j6 p2_0_5 p2_1_5 p2_2_5 p2_3_5 t104_0
noncomputable def Dec.parse.j7 (s0_3:ByteArray) (p2_0_6:Int) (p2_1_6:ByteArray) (p2_2_6:ByteArray) (p2_3_6:Int) (minus6_2:Bool) (t100:Bool):Option (decimal.parsed × Bool) :=
  bif t100 then
    some ((⟨p2_0_6,p2_1_6,p2_2_6,p2_3_6⟩:decimal.parsed),false)
  else
    Dec.parse.j5 s0_3 p2_0_6 p2_1_6 p2_2_6 p2_3_6 minus6_2
noncomputable def Dec.parse.j4 (s0_3:ByteArray) (p2_0_4:Int) (p2_1_4:ByteArray) (p2_2_4:ByteArray) (p2_3_4:Int) (minus6:Bool):Option (decimal.parsed × Bool) :=
  letk (s0_3.toList == (⟨#[]⟩:ByteArray).toList) fun t89 =>
  bif t89 then
    Dec.parse.j7 s0_3 p2_0_4 p2_1_4 p2_2_4 p2_3_4 minus6 true
  else
    letk ((s0_3.size:Int)) fun t92 =>
    letk (decide (t92 > (4:Int))) fun t93 =>
    bif t93 then
      Dec.parse.j7 s0_3 p2_0_4 p2_1_4 p2_2_4 p2_3_4 minus6 true
    else
      Option.bind (Dec.digitsOf s0_3) fun t97 =>
      letk (!(t97.toList == s0_3.toList)) fun t99 =>
      Dec.parse.j7 s0_3 p2_0_4 p2_1_4 p2_2_4 p2_3_4 minus6 t99
noncomputable def Dec.parse.j3 (s0_2:ByteArray) (p2_0_3:Int) (p2_1_3:ByteArray) (p2_2_3:ByteArray) (p2_3_3:Int):Option (decimal.parsed × Bool) :=
  letk (s0_2.toList == (⟨#[]⟩:ByteArray).toList) fun t70 =>
  bif t70 then
    some ((⟨p2_0_3,p2_1_3,p2_2_3,p2_3_3⟩:decimal.parsed),true)
  else
    chk (0 ≤ (1:Int) ∧ (1:Int) ≤ (s0_2.size:Int)) <|
    letk (s0_2.extract 0 ((1:Int).toNat)) fun t73 =>
    Option.bind (Strs.Contains ⟨#[101,69,100,68]⟩ t73) fun t74 =>
    letk (!t74) fun t75 =>
    bif t75 then
      some ((⟨p2_0_3,p2_1_3,p2_2_3,p2_3_3⟩:decimal.parsed),false)
    else
      chk (0 ≤ (1:Int) ∧ (1:Int) ≤ (s0_2.size:Int)) <|
      letk (s0_2.extract (1:Int).toNat s0_2.size) fun t78 =>
      Option.bind (Strs.HasPrefix t78 ⟨#[45]⟩) fun t80 =>
      bif t80 then
        chk (0 ≤ (1:Int) ∧ (1:Int) ≤ (t78.size:Int)) <|
        letk (t78.extract (1:Int).toNat t78.size) fun t87_1 =>
        Dec.parse.j4 t87_1 p2_0_3 p2_1_3 p2_2_3 p2_3_3 true
      else
        Option.bind (Strs.HasPrefix t78 ⟨#[43]⟩) fun t84 =>
        bif t84 then
          chk (0 ≤ (1:Int) ∧ (1:Int) ≤ (t78.size:Int)) <|
          letk (t78.extract (1:Int).toNat t78.size) fun t87 =>
          Dec.parse.j4 t87 p2_0_3 p2_1_3 p2_2_3 p2_3_3 false
        else
          Dec.parse.j4 t78 p2_0_3 p2_1_3 p2_2_3 p2_3_3 false
noncomputable def Dec.parse.j8 (s0_2:ByteArray) (p2_0_7:Int) (p2_1_7:ByteArray) (p2_2_7:ByteArray) (p2_3_7:Int) (t67:Bool):Option (decimal.parsed × Bool) :=
  bif t67 then
    some ((⟨p2_0_7,p2_1_7,p2_2_7,p2_3_7⟩:decimal.parsed),false)
  else
    Dec.parse.j3 s0_2 p2_0_7 p2_1_7 p2_2_7 p2_3_7
noncomputable def Dec.parse.j2 (t37:ByteArray) (s0_2:ByteArray) (p2_0_2:Int) (p2_1_2:ByteArray) (p2_2_2:ByteArray) (p2_3_2:Int) (behind5:ByteArray):Option (decimal.parsed × Bool) :=
  chk (((t37.size + behind5.size:Nat):Int) ≤ 9223372036854775807) <|
  letk (t37 ++ behind5) fun t54 =>
  letk ((t37.size:Int)) fun t56 =>
  letk (t54.toList == (⟨#[]⟩:ByteArray).toList) fun t61 =>
  bif t61 then
    Dec.parse.j8 s0_2 p2_0_2 p2_1_2 t54 t56 true
  else
    letk ((t54.size:Int)) fun t65 =>
    letk (decide (t65 > (60:Int))) fun t66 =>
    Dec.parse.j8 s0_2 p2_0_2 p2_1_2 t54 t56 t66
noncomputable def Dec.parse.j1 (s0_1:ByteArray) (p2_0_1:Int) (p2_1_1:ByteArray) (p2_2_1:ByteArray) (p2_3_1:Int):Option (decimal.parsed × Bool) :=
  Option.bind (Dec.digitsOf s0_1) fun t37 =>
  letk ((t37.size:Int)) fun t40 =>
  chk (0 ≤ t40 ∧ t40 ≤ (s0_1.size:Int)) <|
  letk (s0_1.extract t40.toNat s0_1.size) fun t41 =>
  Option.bind (Strs.HasPrefix t41 ⟨#[46]⟩) fun t43 =>
  bif t43 then
    chk (0 ≤ (1:Int) ∧ (1:Int) ≤ (t41.size:Int)) <|
    letk (t41.extract (1:Int).toNat t41.size) fun t45 =>
    Option.bind (Dec.digitsOf t45) fun t46 =>
    letk ((t46.size:Int)) fun t49 =>
    letk (IntKind.i64.wrap ((1:Int) + t49)) fun t50 =>
    chk (0 ≤ t50 ∧ t50 ≤ (t41.size:Int)) <|
    letk (t41.extract t50.toNat t41.size) fun t51 =>
    Dec.parse.j2 t37 t51 p2_0_1 p2_1_1 p2_2_1 p2_3_1 t46
  else
    Dec.parse.j2 t37 t41 p2_0_1 p2_1_1 p2_2_1 p2_3_1 (⟨#[]⟩)
noncomputable def Dec.parse.j9 (s0_1:ByteArray) (p2_0:Int) (p2_1:ByteArray) (p2_2:ByteArray) (p2_3:Int) (t32:Bool):Option (decimal.parsed × Bool) :=
  bif t32 then
    some ((⟨p2_0,s0_1,p2_2,p2_3⟩:decimal.parsed),true)
  else
    Dec.parse.j1 s0_1 p2_0 p2_1 p2_2 p2_3
noncomputable def Dec.parse.j0 (s0_1:ByteArray) (p2_0:Int) (p2_1:ByteArray) (p2_2:ByteArray) (p2_3:Int):Option (decimal.parsed × Bool) :=
  letk (s0_1.toList == (⟨#[105,110,102]⟩:ByteArray).toList) fun t28 =>
  bif t28 then
    Dec.parse.j9 s0_1 p2_0 p2_1 p2_2 p2_3 true
  else
    letk (s0_1.toList == (⟨#[110,97,110]⟩:ByteArray).toList) fun t31 =>
    Dec.parse.j9 s0_1 p2_0 p2_1 p2_2 p2_3 t31
noncomputable def Dec.parse.j10 (s0:ByteArray) (t20:Bool):Option (decimal.parsed × Bool) :=
  bif t20 then
    chk (0 ≤ (0:Int) ∧ (0:Int) < (s0.size:Int)) <|
    letk (bt s0 (0:Int)) fun t22 =>
    letk (t22 == (45:Int)) fun t23 =>
    bif t23 then
      chk (0 ≤ (1:Int) ∧ (1:Int) ≤ (s0.size:Int)) <|
      letk (s0.extract (1:Int).toNat s0.size) fun t26_1 =>
      Dec.parse.j0 t26_1 1 (⟨#[]⟩) (⟨#[]⟩) 0
    else
      chk (0 ≤ (1:Int) ∧ (1:Int) ≤ (s0.size:Int)) <|
      letk (s0.extract (1:Int).toNat s0.size) fun t26 =>
      Dec.parse.j0 t26 0 (⟨#[]⟩) (⟨#[]⟩) 0
  else
    Dec.parse.j0 s0 0 (⟨#[]⟩) (⟨#[]⟩) 0
noncomputable def Dec.parse (s0:ByteArray):Option (decimal.parsed × Bool) :=
  letk (!(s0.toList == (⟨#[]⟩:ByteArray).toList)) fun t10 =>
  bif t10 then
    chk (0 ≤ (0:Int) ∧ (0:Int) < (s0.size:Int)) <|
    letk (bt s0 (0:Int)) fun t13 =>
    letk (t13 == (45:Int)) fun t14 =>
    bif t14 then
      Dec.parse.j10 s0 true
    else
      chk (0 ≤ (0:Int) ∧ (0:Int) < (s0.size:Int)) <|
      letk (bt s0 (0:Int)) fun t17 =>
      letk (t17 == (43:Int)) fun t18 =>
      Dec.parse.j10 s0 t18
  else
    Dec.parse.j10 s0 false
theorem Dec.parse_ok {s0:ByteArray} {r:decimal.parsed × Bool} (h0:Dec.parse s0 = some r):Gives Tryz.prog 53 [.lit (.string s0)] (.tup [decimal.parsed.enc r.1,.lit (.bool r.2)]):=by
  unfold Dec.parse at h0
  refine ACalls.of_swp Tryz.func53 rfl (by decide) rfl (st0:=⟨116,[(0,.lit (.string s0))],[]⟩) rfl (bwp_ok (C:=[(0,5),(0,8),(0,14),(0,17),(0,25),(0,27),(0,30),(110,53),(77,33),(42,13),(30,5)]) ?_)
  conv=>whnf
  refine Nm.mk ⟨[.lit (.int .i64 0),.lit (.string (⟨#[]⟩)),.lit (.string (⟨#[]⟩)),.lit (.int .i64 0)],rfl,?_⟩
  conv=>whnf
  refine CutN.of (fun s=>∃ (s0_1:ByteArray) (p2_0:Int) (p2_1:ByteArray) (p2_2:ByteArray) (p2_3:Int),Dec.parse.j0 s0_1 p2_0 p2_1 p2_2 p2_3 = some r ∧ s = (⟨116,[(0,.lit (.string s0_1)),(2,.ptr 0 0)],[.box [.lit (.int .i64 p2_0),.lit (.string p2_1),.lit (.string p2_2),.lit (.int .i64 p2_3)]]⟩:St)) ?_ ?_
  · conv=>whnf
    refine CutN.of (fun s=>∃ (t20:Bool),Dec.parse.j10 s0 t20 = some r ∧ s = (⟨116,[(0,.lit (.string s0)),(2,.ptr 0 0),(20,.lit (.bool t20))],[.box [.lit (.int .i64 0),.lit (.string (⟨#[]⟩)),.lit (.string (⟨#[]⟩)),.lit (.int .i64 0)]]⟩:St)) ?_ ?_
    · obtain ⟨t10,et10,h1⟩:=letk_elim h0; clear h0
      conv=>whnf
      refine Nm.mk ⟨t10,et10,?_⟩
      rcases t10 with _ | _
      · have h2:=bif_f h1
        clear h1
        exact BackS.by ⟨_,h2,rfl⟩ (Sees.of (Weak.objs (keep:=[0]) (frz:=[]) (m:=0) rfl (by decide) rfl rfl ⟨⟨_,rfl,WO.boxs ⟨.s,.s,.s,.s,trivial⟩⟩,⟨rfl,fun _ h=>by cases h⟩⟩ ⟨.s,(.ptr _ _ 0 rfl),.s,trivial⟩))
      have h2:=bif_t h1
      clear h1
      obtain ⟨ch3,h3⟩:=chk_elim h2; clear h2
      obtain ⟨t13,et13,h4⟩:=letk_elim h3; clear h3
      conv=>whnf
      refine Side.mk ch3 ?_
      conv=>whnf
      refine Nm.mk ⟨t13,et13,?_⟩
      obtain ⟨t14,et14,h5⟩:=letk_elim h4; clear h4
      conv=>whnf
      refine Nm.mk ⟨t14,et14,?_⟩
      rcases t14 with _ | _
      · have h6:=bif_f h5
        clear h5
        obtain ⟨ch7,h7⟩:=chk_elim h6; clear h6
        obtain ⟨t17,et17,h8⟩:=letk_elim h7; clear h7
        conv=>whnf
        refine Side.mk ch7 ?_
        conv=>whnf
        refine Nm.mk ⟨t17,et17,?_⟩
        obtain ⟨t18,et18,h9⟩:=letk_elim h8; clear h8
        conv=>whnf
        refine Nm.mk ⟨t18,et18,?_⟩
        exact BackS.by ⟨_,h9,rfl⟩ (Sees.of (Weak.objs (keep:=[0]) (frz:=[]) (m:=0) rfl (by decide) rfl rfl ⟨⟨_,rfl,WO.boxs ⟨.s,.s,.s,.s,trivial⟩⟩,⟨rfl,fun _ h=>by cases h⟩⟩ ⟨.s,(.ptr _ _ 0 rfl),.s,trivial⟩))
      have h6:=bif_t h5
      clear h5
      exact BackS.by ⟨_,h6,rfl⟩ (Sees.of (Weak.objs (keep:=[0]) (frz:=[]) (m:=0) rfl (by decide) rfl rfl ⟨⟨_,rfl,WO.boxs ⟨.s,.s,.s,.s,trivial⟩⟩,⟨rfl,fun _ h=>by cases h⟩⟩ ⟨.s,(.ptr _ _ 0 rfl),.s,trivial⟩))
    clear h0
    rintro s ⟨t20,hj0,rfl⟩
    unfold Dec.parse.j10 at hj0
    rcases t20 with _ | _
    · have hj1:=bif_f hj0
      clear hj0
      exact BackS.by ⟨_,_,_,_,_,hj1,rfl⟩ (Sees.of (Weak.objs (keep:=[0]) (frz:=[]) (m:=0) rfl (by decide) rfl rfl ⟨⟨_,rfl,WO.boxs ⟨.s,.s,.s,.s,trivial⟩⟩,⟨rfl,fun _ h=>by cases h⟩⟩ ⟨.s,(.ptr _ _ 0 rfl),trivial⟩))
    have hj1:=bif_t hj0
    clear hj0
    obtain ⟨chj2,hj2⟩:=chk_elim hj1; clear hj1
    obtain ⟨t22,et22,hj3⟩:=letk_elim hj2; clear hj2
    conv=>whnf
    refine Side.mk chj2 ?_
    conv=>whnf
    refine Nm.mk ⟨t22,et22,?_⟩
    obtain ⟨t23,et23,hj4⟩:=letk_elim hj3; clear hj3
    conv=>whnf
    refine Nm.mk ⟨t23,et23,?_⟩
    rcases t23 with _ | _
    · have hj5:=bif_f hj4
      clear hj4
      obtain ⟨chj6,hj6⟩:=chk_elim hj5; clear hj5
      obtain ⟨t26,et26,hj7⟩:=letk_elim hj6; clear hj6
      conv=>whnf
      refine Side.mk chj6 ?_
      conv=>whnf
      refine Nm.mk ⟨t26,et26,?_⟩
      exact BackS.by ⟨_,_,_,_,_,hj7,rfl⟩ (Sees.of (Weak.objs (keep:=[0]) (frz:=[]) (m:=0) rfl (by decide) rfl rfl ⟨⟨_,rfl,WO.boxs ⟨.s,.s,.s,.s,trivial⟩⟩,⟨rfl,fun _ h=>by cases h⟩⟩ ⟨.s,(.ptr _ _ 0 rfl),trivial⟩))
    have hj5:=bif_t hj4
    clear hj4
    conv=>whnf
    refine Nm.mk ⟨[.lit (.int .i64 1),.lit (.string (⟨#[]⟩)),.lit (.string (⟨#[]⟩)),.lit (.int .i64 0)],rfl,?_⟩
    obtain ⟨chj6,hj6⟩:=chk_elim hj5; clear hj5
    obtain ⟨t26_1,et26_1,hj7⟩:=letk_elim hj6; clear hj6
    conv=>whnf
    refine Side.mk chj6 ?_
    conv=>whnf
    refine Nm.mk ⟨t26_1,et26_1,?_⟩
    exact BackS.by ⟨_,_,_,_,_,hj7,rfl⟩ (Sees.of (Weak.objs (keep:=[0]) (frz:=[]) (m:=0) rfl (by decide) rfl rfl ⟨⟨_,rfl,WO.boxs ⟨.s,.s,.s,.s,trivial⟩⟩,⟨rfl,fun _ h=>by cases h⟩⟩ ⟨.s,(.ptr _ _ 0 rfl),trivial⟩))
  clear h0
  rintro s ⟨s0_1,p2_0,p2_1,p2_2,p2_3,hj0,rfl⟩
  unfold Dec.parse.j0 at hj0
  conv=>whnf
  refine CutN.of (fun s=>∃ (p2_0_1:Int) (p2_1_1:ByteArray) (p2_2_1:ByteArray) (p2_3_1:Int),Dec.parse.j1 s0_1 p2_0_1 p2_1_1 p2_2_1 p2_3_1 = some r ∧ s = (⟨116,[(0,.lit (.string s0_1)),(2,.ptr 0 0)],[.box [.lit (.int .i64 p2_0_1),.lit (.string p2_1_1),.lit (.string p2_2_1),.lit (.int .i64 p2_3_1)]]⟩:St)) ?_ ?_
  · conv=>whnf
    refine CutN.of (fun s=>∃ (t32:Bool),Dec.parse.j9 s0_1 p2_0 p2_1 p2_2 p2_3 t32 = some r ∧ s = (⟨116,[(0,.lit (.string s0_1)),(2,.ptr 0 0),(32,.lit (.bool t32))],[.box [.lit (.int .i64 p2_0),.lit (.string p2_1),.lit (.string p2_2),.lit (.int .i64 p2_3)]]⟩:St)) ?_ ?_
    · obtain ⟨t28,et28,hj1⟩:=letk_elim hj0; clear hj0
      conv=>whnf
      refine Nm.mk ⟨t28,et28,?_⟩
      rcases t28 with _ | _
      · have hj2:=bif_f hj1
        clear hj1
        obtain ⟨t31,et31,hj3⟩:=letk_elim hj2; clear hj2
        conv=>whnf
        refine Nm.mk ⟨t31,et31,?_⟩
        exact BackS.by ⟨_,hj3,rfl⟩ (Sees.of (Weak.objs (keep:=[0]) (frz:=[]) (m:=0) rfl (by decide) rfl rfl ⟨⟨_,rfl,WO.boxs ⟨.s,.s,.s,.s,trivial⟩⟩,⟨rfl,fun _ h=>by cases h⟩⟩ ⟨.s,(.ptr _ _ 0 rfl),.s,trivial⟩))
      have hj2:=bif_t hj1
      clear hj1
      exact BackS.by ⟨_,hj2,rfl⟩ (Sees.of (Weak.objs (keep:=[0]) (frz:=[]) (m:=0) rfl (by decide) rfl rfl ⟨⟨_,rfl,WO.boxs ⟨.s,.s,.s,.s,trivial⟩⟩,⟨rfl,fun _ h=>by cases h⟩⟩ ⟨.s,(.ptr _ _ 0 rfl),.s,trivial⟩))
    clear hj0
    rintro s ⟨t32,hj0,rfl⟩
    unfold Dec.parse.j9 at hj0
    rcases t32 with _ | _
    · have hj1:=bif_f hj0
      clear hj0
      exact BackS.by ⟨_,_,_,_,hj1,rfl⟩ (Sees.of (Weak.objs (keep:=[0]) (frz:=[]) (m:=0) rfl (by decide) rfl rfl ⟨⟨_,rfl,WO.boxs ⟨.s,.s,.s,.s,trivial⟩⟩,⟨rfl,fun _ h=>by cases h⟩⟩ ⟨.s,(.ptr _ _ 0 rfl),trivial⟩))
    have hj1:=bif_t hj0
    clear hj0
    conv=>whnf
    refine Nm.mk ⟨[.lit (.int .i64 p2_0),.lit (.string s0_1),.lit (.string p2_2),.lit (.int .i64 p2_3)],rfl,?_⟩
    conv=>whnf
    refine Nm.mk ⟨[.lit (.int .i64 p2_0),.lit (.string s0_1),.lit (.string p2_2),.lit (.int .i64 p2_3)],rfl,?_⟩
    have ehj1_0:=Option.some.inj hj1
    subst ehj1_0
    conv=>whnf
    exact Returns.pure (r:=.tup [decimal.parsed.enc ((⟨p2_0,s0_1,p2_2,p2_3⟩:decimal.parsed)),.lit (.bool true)]) rfl rfl rfl rfl ⟨rfl,rfl⟩
  clear hj0
  rintro s ⟨p2_0_1,p2_1_1,p2_2_1,p2_3_1,hj0,rfl⟩
  unfold Dec.parse.j1 at hj0
  obtain ⟨t37,et37,hj1⟩:=bind_elim hj0; clear hj0
  conv=>whnf
  refine Gate.go ?_
  conv=>whnf
  refine CallN.by (v:=.lit (.string t37)) (Dec.digitsOf_ok et37) rfl rfl ?_
  obtain ⟨t40,et40,hj2⟩:=letk_elim hj1; clear hj1
  conv=>whnf
  refine Nm.mk ⟨t40,et40,?_⟩
  obtain ⟨chj3,hj3⟩:=chk_elim hj2; clear hj2
  obtain ⟨t41,et41,hj4⟩:=letk_elim hj3; clear hj3
  conv=>whnf
  refine Side.mk chj3 ?_
  conv=>whnf
  refine Nm.mk ⟨t41,et41,?_⟩
  conv=>whnf
  refine CutN.of (fun s=>∃ (s0_2:ByteArray) (p2_0_2:Int) (p2_1_2:ByteArray) (p2_2_2:ByteArray) (p2_3_2:Int) (behind5:ByteArray),Dec.parse.j2 t37 s0_2 p2_0_2 p2_1_2 p2_2_2 p2_3_2 behind5 = some r ∧ s = (⟨116,[(0,.lit (.string s0_2)),(2,.ptr 0 0),(4,.lit (.string t37)),(5,.lit (.string behind5))],[.box [.lit (.int .i64 p2_0_2),.lit (.string p2_1_2),.lit (.string p2_2_2),.lit (.int .i64 p2_3_2)]]⟩:St)) ?_ ?_
  · obtain ⟨t43,et43,hj5⟩:=bind_elim hj4; clear hj4
    conv=>whnf
    refine Gate.go ?_
    conv=>whnf
    refine CallN.by (v:=.lit (.bool t43)) (Strs.HasPrefix_ok et43) rfl rfl ?_
    rcases t43 with _ | _
    · have hj6:=bif_f hj5
      clear hj5
      exact BackS.by ⟨_,_,_,_,_,_,hj6,rfl⟩ (Sees.of (Weak.objs (keep:=[0]) (frz:=[]) (m:=0) rfl (by decide) rfl rfl ⟨⟨_,rfl,WO.boxs ⟨.s,.s,.s,.s,trivial⟩⟩,⟨rfl,fun _ h=>by cases h⟩⟩ ⟨.s,(.ptr _ _ 0 rfl),.s,.s,trivial⟩))
    have hj6:=bif_t hj5
    clear hj5
    obtain ⟨chj7,hj7⟩:=chk_elim hj6; clear hj6
    obtain ⟨t45,et45,hj8⟩:=letk_elim hj7; clear hj7
    conv=>whnf
    refine Side.mk chj7 ?_
    conv=>whnf
    refine Nm.mk ⟨t45,et45,?_⟩
    obtain ⟨t46,et46,hj9⟩:=bind_elim hj8; clear hj8
    conv=>whnf
    refine Gate.go ?_
    conv=>whnf
    refine CallN.by (v:=.lit (.string t46)) (Dec.digitsOf_ok et46) rfl rfl ?_
    obtain ⟨t49,et49,hj10⟩:=letk_elim hj9; clear hj9
    conv=>whnf
    refine Nm.mk ⟨t49,et49,?_⟩
    obtain ⟨t50,et50,hj11⟩:=letk_elim hj10; clear hj10
    conv=>whnf
    refine Nm.mk ⟨t50,et50,?_⟩
    obtain ⟨chj12,hj12⟩:=chk_elim hj11; clear hj11
    obtain ⟨t51,et51,hj13⟩:=letk_elim hj12; clear hj12
    conv=>whnf
    refine Side.mk chj12 ?_
    conv=>whnf
    refine Nm.mk ⟨t51,et51,?_⟩
    exact BackS.by ⟨_,_,_,_,_,_,hj13,rfl⟩ (Sees.of (Weak.objs (keep:=[0]) (frz:=[]) (m:=0) rfl (by decide) rfl rfl ⟨⟨_,rfl,WO.boxs ⟨.s,.s,.s,.s,trivial⟩⟩,⟨rfl,fun _ h=>by cases h⟩⟩ ⟨.s,(.ptr _ _ 0 rfl),.s,.s,trivial⟩))
  clear hj4
  rintro s ⟨s0_2,p2_0_2,p2_1_2,p2_2_2,p2_3_2,behind5,hj0,rfl⟩
  unfold Dec.parse.j2 at hj0
  obtain ⟨chj1,hj1⟩:=chk_elim hj0; clear hj0
  obtain ⟨t54,et54,hj2⟩:=letk_elim hj1; clear hj1
  conv=>whnf
  refine Side.mk chj1 ?_
  conv=>whnf
  refine Nm.mk ⟨t54,et54,?_⟩
  obtain ⟨t56,et56,hj3⟩:=letk_elim hj2; clear hj2
  conv=>whnf
  refine Nm.mk ⟨t56,et56,?_⟩
  conv=>whnf
  refine Nm.mk ⟨[.lit (.int .i64 p2_0_2),.lit (.string p2_1_2),.lit (.string t54),.lit (.int .i64 p2_3_2)],rfl,?_⟩
  conv=>whnf
  refine Nm.mk ⟨[.lit (.int .i64 p2_0_2),.lit (.string p2_1_2),.lit (.string t54),.lit (.int .i64 t56)],rfl,?_⟩
  conv=>whnf
  refine CutN.of (fun s=>∃ (p2_0_3:Int) (p2_1_3:ByteArray) (p2_2_3:ByteArray) (p2_3_3:Int),Dec.parse.j3 s0_2 p2_0_3 p2_1_3 p2_2_3 p2_3_3 = some r ∧ s = (⟨116,[(0,.lit (.string s0_2)),(2,.ptr 0 0)],[.box [.lit (.int .i64 p2_0_3),.lit (.string p2_1_3),.lit (.string p2_2_3),.lit (.int .i64 p2_3_3)]]⟩:St)) ?_ ?_
  · conv=>whnf
    refine CutN.of (fun s=>∃ (p2_0_7:Int) (p2_1_7:ByteArray) (p2_2_7:ByteArray) (p2_3_7:Int) (t67:Bool),Dec.parse.j8 s0_2 p2_0_7 p2_1_7 p2_2_7 p2_3_7 t67 = some r ∧ s = (⟨116,[(0,.lit (.string s0_2)),(2,.ptr 0 0),(67,.lit (.bool t67))],[.box [.lit (.int .i64 p2_0_7),.lit (.string p2_1_7),.lit (.string p2_2_7),.lit (.int .i64 p2_3_7)]]⟩:St)) ?_ ?_
    · obtain ⟨t61,et61,hj4⟩:=letk_elim hj3; clear hj3
      conv=>whnf
      refine Nm.mk ⟨t61,et61,?_⟩
      rcases t61 with _ | _
      · have hj5:=bif_f hj4
        clear hj4
        obtain ⟨t65,et65,hj6⟩:=letk_elim hj5; clear hj5
        conv=>whnf
        refine Nm.mk ⟨t65,et65,?_⟩
        obtain ⟨t66,et66,hj7⟩:=letk_elim hj6; clear hj6
        conv=>whnf
        refine Nm.mk ⟨t66,et66,?_⟩
        exact BackS.by ⟨_,_,_,_,_,hj7,rfl⟩ (Sees.of (Weak.objs (keep:=[0]) (frz:=[]) (m:=0) rfl (by decide) rfl rfl ⟨⟨_,rfl,WO.boxs ⟨.s,.s,.s,.s,trivial⟩⟩,⟨rfl,fun _ h=>by cases h⟩⟩ ⟨.s,(.ptr _ _ 0 rfl),.s,trivial⟩))
      have hj5:=bif_t hj4
      clear hj4
      exact BackS.by ⟨_,_,_,_,_,hj5,rfl⟩ (Sees.of (Weak.objs (keep:=[0]) (frz:=[]) (m:=0) rfl (by decide) rfl rfl ⟨⟨_,rfl,WO.boxs ⟨.s,.s,.s,.s,trivial⟩⟩,⟨rfl,fun _ h=>by cases h⟩⟩ ⟨.s,(.ptr _ _ 0 rfl),.s,trivial⟩))
    clear hj3
    rintro s ⟨p2_0_7,p2_1_7,p2_2_7,p2_3_7,t67,hj0,rfl⟩
    unfold Dec.parse.j8 at hj0
    rcases t67 with _ | _
    · have hj1:=bif_f hj0
      clear hj0
      exact BackS.by ⟨_,_,_,_,hj1,rfl⟩ (Sees.of (Weak.objs (keep:=[0]) (frz:=[]) (m:=0) rfl (by decide) rfl rfl ⟨⟨_,rfl,WO.boxs ⟨.s,.s,.s,.s,trivial⟩⟩,⟨rfl,fun _ h=>by cases h⟩⟩ ⟨.s,(.ptr _ _ 0 rfl),trivial⟩))
    have hj1:=bif_t hj0
    clear hj0
    conv=>whnf
    refine Nm.mk ⟨[.lit (.int .i64 p2_0_7),.lit (.string p2_1_7),.lit (.string p2_2_7),.lit (.int .i64 p2_3_7)],rfl,?_⟩
    have ehj1_0:=Option.some.inj hj1
    subst ehj1_0
    conv=>whnf
    exact Returns.pure (r:=.tup [decimal.parsed.enc ((⟨p2_0_7,p2_1_7,p2_2_7,p2_3_7⟩:decimal.parsed)),.lit (.bool false)]) rfl rfl rfl rfl ⟨rfl,rfl⟩
  clear hj3
  rintro s ⟨p2_0_3,p2_1_3,p2_2_3,p2_3_3,hj0,rfl⟩
  unfold Dec.parse.j3 at hj0
  obtain ⟨t70,et70,hj1⟩:=letk_elim hj0; clear hj0
  conv=>whnf
  refine Nm.mk ⟨t70,et70,?_⟩
  rcases t70 with _ | _
  · have hj2:=bif_f hj1
    clear hj1
    obtain ⟨chj3,hj3⟩:=chk_elim hj2; clear hj2
    obtain ⟨t73,et73,hj4⟩:=letk_elim hj3; clear hj3
    conv=>whnf
    refine Side.mk chj3 ?_
    conv=>whnf
    refine Nm.mk ⟨t73,et73,?_⟩
    obtain ⟨t74,et74,hj5⟩:=bind_elim hj4; clear hj4
    conv=>whnf
    refine Gate.go ?_
    conv=>whnf
    refine CallN.by (v:=.lit (.bool t74)) (Strs.Contains_ok et74) rfl rfl ?_
    obtain ⟨t75,et75,hj6⟩:=letk_elim hj5; clear hj5
    conv=>whnf
    refine Nm.mk ⟨t75,et75,?_⟩
    rcases t75 with _ | _
    · have hj7:=bif_f hj6
      clear hj6
      obtain ⟨chj8,hj8⟩:=chk_elim hj7; clear hj7
      obtain ⟨t78,et78,hj9⟩:=letk_elim hj8; clear hj8
      conv=>whnf
      refine Side.mk chj8 ?_
      conv=>whnf
      refine Nm.mk ⟨t78,et78,?_⟩
      obtain ⟨t80,et80,hj10⟩:=bind_elim hj9; clear hj9
      conv=>whnf
      refine Gate.go ?_
      conv=>whnf
      refine CallN.by (v:=.lit (.bool t80)) (Strs.HasPrefix_ok et80) rfl rfl ?_
      conv=>whnf
      refine CutN.of (fun s=>∃ (s0_3:ByteArray) (p2_0_4:Int) (p2_1_4:ByteArray) (p2_2_4:ByteArray) (p2_3_4:Int) (minus6:Bool),Dec.parse.j4 s0_3 p2_0_4 p2_1_4 p2_2_4 p2_3_4 minus6 = some r ∧ s = (⟨116,[(0,.lit (.string s0_3)),(2,.ptr 0 0),(6,.lit (.bool minus6))],[.box [.lit (.int .i64 p2_0_4),.lit (.string p2_1_4),.lit (.string p2_2_4),.lit (.int .i64 p2_3_4)]]⟩:St)) ?_ ?_
      · rcases t80 with _ | _
        · have hj11:=bif_f hj10
          clear hj10
          obtain ⟨t84,et84,hj12⟩:=bind_elim hj11; clear hj11
          conv=>whnf
          refine Gate.go ?_
          conv=>whnf
          refine CallN.by (v:=.lit (.bool t84)) (Strs.HasPrefix_ok et84) rfl rfl ?_
          rcases t84 with _ | _
          · have hj13:=bif_f hj12
            clear hj12
            exact BackS.by ⟨_,_,_,_,_,_,hj13,rfl⟩ (Sees.of (Weak.objs (keep:=[0]) (frz:=[]) (m:=0) rfl (by decide) rfl rfl ⟨⟨_,rfl,WO.boxs ⟨.s,.s,.s,.s,trivial⟩⟩,⟨rfl,fun _ h=>by cases h⟩⟩ ⟨.s,(.ptr _ _ 0 rfl),.s,trivial⟩))
          have hj13:=bif_t hj12
          clear hj12
          obtain ⟨chj14,hj14⟩:=chk_elim hj13; clear hj13
          obtain ⟨t87,et87,hj15⟩:=letk_elim hj14; clear hj14
          conv=>whnf
          refine Side.mk chj14 ?_
          conv=>whnf
          refine Nm.mk ⟨t87,et87,?_⟩
          exact BackS.by ⟨_,_,_,_,_,_,hj15,rfl⟩ (Sees.of (Weak.objs (keep:=[0]) (frz:=[]) (m:=0) rfl (by decide) rfl rfl ⟨⟨_,rfl,WO.boxs ⟨.s,.s,.s,.s,trivial⟩⟩,⟨rfl,fun _ h=>by cases h⟩⟩ ⟨.s,(.ptr _ _ 0 rfl),.s,trivial⟩))
        have hj11:=bif_t hj10
        clear hj10
        obtain ⟨chj12,hj12⟩:=chk_elim hj11; clear hj11
        obtain ⟨t87_1,et87_1,hj13⟩:=letk_elim hj12; clear hj12
        conv=>whnf
        refine Side.mk chj12 ?_
        conv=>whnf
        refine Nm.mk ⟨t87_1,et87_1,?_⟩
        exact BackS.by ⟨_,_,_,_,_,_,hj13,rfl⟩ (Sees.of (Weak.objs (keep:=[0]) (frz:=[]) (m:=0) rfl (by decide) rfl rfl ⟨⟨_,rfl,WO.boxs ⟨.s,.s,.s,.s,trivial⟩⟩,⟨rfl,fun _ h=>by cases h⟩⟩ ⟨.s,(.ptr _ _ 0 rfl),.s,trivial⟩))
      clear hj10
      rintro s ⟨s0_3,p2_0_4,p2_1_4,p2_2_4,p2_3_4,minus6,hj0,rfl⟩
      unfold Dec.parse.j4 at hj0
      conv=>whnf
      refine CutN.of (fun s=>∃ (p2_0_5:Int) (p2_1_5:ByteArray) (p2_2_5:ByteArray) (p2_3_5:Int) (minus6_1:Bool),Dec.parse.j5 s0_3 p2_0_5 p2_1_5 p2_2_5 p2_3_5 minus6_1 = some r ∧ s = (⟨116,[(0,.lit (.string s0_3)),(2,.ptr 0 0),(6,.lit (.bool minus6_1))],[.box [.lit (.int .i64 p2_0_5),.lit (.string p2_1_5),.lit (.string p2_2_5),.lit (.int .i64 p2_3_5)]]⟩:St)) ?_ ?_
      · conv=>whnf
        refine CutN.of (fun s=>∃ (p2_0_6:Int) (p2_1_6:ByteArray) (p2_2_6:ByteArray) (p2_3_6:Int) (minus6_2:Bool) (t100:Bool),Dec.parse.j7 s0_3 p2_0_6 p2_1_6 p2_2_6 p2_3_6 minus6_2 t100 = some r ∧ s = (⟨116,[(0,.lit (.string s0_3)),(2,.ptr 0 0),(6,.lit (.bool minus6_2)),(100,.lit (.bool t100))],[.box [.lit (.int .i64 p2_0_6),.lit (.string p2_1_6),.lit (.string p2_2_6),.lit (.int .i64 p2_3_6)]]⟩:St)) ?_ ?_
        · obtain ⟨t89,et89,hj1⟩:=letk_elim hj0; clear hj0
          conv=>whnf
          refine Nm.mk ⟨t89,et89,?_⟩
          rcases t89 with _ | _
          · have hj2:=bif_f hj1
            clear hj1
            obtain ⟨t92,et92,hj3⟩:=letk_elim hj2; clear hj2
            conv=>whnf
            refine Nm.mk ⟨t92,et92,?_⟩
            obtain ⟨t93,et93,hj4⟩:=letk_elim hj3; clear hj3
            conv=>whnf
            refine Nm.mk ⟨t93,et93,?_⟩
            rcases t93 with _ | _
            · have hj5:=bif_f hj4
              clear hj4
              obtain ⟨t97,et97,hj6⟩:=bind_elim hj5; clear hj5
              conv=>whnf
              refine Gate.go ?_
              conv=>whnf
              refine CallN.by (v:=.lit (.string t97)) (Dec.digitsOf_ok et97) rfl rfl ?_
              obtain ⟨t99,et99,hj7⟩:=letk_elim hj6; clear hj6
              conv=>whnf
              refine Nm.mk ⟨t99,et99,?_⟩
              exact BackS.by ⟨_,_,_,_,_,_,hj7,rfl⟩ (Sees.of (Weak.objs (keep:=[0]) (frz:=[]) (m:=0) rfl (by decide) rfl rfl ⟨⟨_,rfl,WO.boxs ⟨.s,.s,.s,.s,trivial⟩⟩,⟨rfl,fun _ h=>by cases h⟩⟩ ⟨.s,(.ptr _ _ 0 rfl),.s,.s,trivial⟩))
            have hj5:=bif_t hj4
            clear hj4
            exact BackS.by ⟨_,_,_,_,_,_,hj5,rfl⟩ (Sees.of (Weak.objs (keep:=[0]) (frz:=[]) (m:=0) rfl (by decide) rfl rfl ⟨⟨_,rfl,WO.boxs ⟨.s,.s,.s,.s,trivial⟩⟩,⟨rfl,fun _ h=>by cases h⟩⟩ ⟨.s,(.ptr _ _ 0 rfl),.s,.s,trivial⟩))
          have hj2:=bif_t hj1
          clear hj1
          exact BackS.by ⟨_,_,_,_,_,_,hj2,rfl⟩ (Sees.of (Weak.objs (keep:=[0]) (frz:=[]) (m:=0) rfl (by decide) rfl rfl ⟨⟨_,rfl,WO.boxs ⟨.s,.s,.s,.s,trivial⟩⟩,⟨rfl,fun _ h=>by cases h⟩⟩ ⟨.s,(.ptr _ _ 0 rfl),.s,.s,trivial⟩))
        clear hj0
        rintro s ⟨p2_0_6,p2_1_6,p2_2_6,p2_3_6,minus6_2,t100,hj0,rfl⟩
        unfold Dec.parse.j7 at hj0
        rcases t100 with _ | _
        · have hj1:=bif_f hj0
          clear hj0
          exact BackS.by ⟨_,_,_,_,_,hj1,rfl⟩ (Sees.of (Weak.objs (keep:=[0]) (frz:=[]) (m:=0) rfl (by decide) rfl rfl ⟨⟨_,rfl,WO.boxs ⟨.s,.s,.s,.s,trivial⟩⟩,⟨rfl,fun _ h=>by cases h⟩⟩ ⟨.s,(.ptr _ _ 0 rfl),.s,trivial⟩))
        have hj1:=bif_t hj0
        clear hj0
        conv=>whnf
        refine Nm.mk ⟨[.lit (.int .i64 p2_0_6),.lit (.string p2_1_6),.lit (.string p2_2_6),.lit (.int .i64 p2_3_6)],rfl,?_⟩
        have ehj1_0:=Option.some.inj hj1
        subst ehj1_0
        conv=>whnf
        exact Returns.pure (r:=.tup [decimal.parsed.enc ((⟨p2_0_6,p2_1_6,p2_2_6,p2_3_6⟩:decimal.parsed)),.lit (.bool false)]) rfl rfl rfl rfl ⟨rfl,rfl⟩
      clear hj0
      rintro s ⟨p2_0_5,p2_1_5,p2_2_5,p2_3_5,minus6_1,hj0,rfl⟩
      unfold Dec.parse.j5 at hj0
      obtain ⟨⟨t104_0,t104_1⟩,et104,hj1⟩:=bind_elim hj0; clear hj0
      conv=>whnf
      refine Gate.go ?_
      conv=>whnf
      refine CallN.by (v:=.tup [.lit (.int .i64 t104_0),.lit Value.nilIface]) (Strconv.Atoi_ok et104) rfl rfl ?_
      conv=>whnf
      refine CutN.of (fun s=>∃ (n7:Int),Dec.parse.j6 p2_0_5 p2_1_5 p2_2_5 p2_3_5 n7 = some r ∧ s = (⟨116,[(2,.ptr 0 0),(7,.lit (.int .i64 n7))],[.box [.lit (.int .i64 p2_0_5),.lit (.string p2_1_5),.lit (.string p2_2_5),.lit (.int .i64 p2_3_5)]]⟩:St)) ?_ ?_
      · rcases minus6_1 with _ | _
        · have hj2:=bif_f hj1
          clear hj1
          exact BackS.by ⟨_,hj2,rfl⟩ (Sees.of (Weak.objs (keep:=[0]) (frz:=[]) (m:=0) rfl (by decide) rfl rfl ⟨⟨_,rfl,WO.boxs ⟨.s,.s,.s,.s,trivial⟩⟩,⟨rfl,fun _ h=>by cases h⟩⟩ ⟨(.ptr _ _ 0 rfl),.s,trivial⟩))
        have hj2:=bif_t hj1
        clear hj1
        obtain ⟨t109,et109,hj3⟩:=letk_elim hj2; clear hj2
        conv=>whnf
        refine Nm.mk ⟨t109,et109,?_⟩
        exact BackS.by ⟨_,hj3,rfl⟩ (Sees.of (Weak.objs (keep:=[0]) (frz:=[]) (m:=0) rfl (by decide) rfl rfl ⟨⟨_,rfl,WO.boxs ⟨.s,.s,.s,.s,trivial⟩⟩,⟨rfl,fun _ h=>by cases h⟩⟩ ⟨(.ptr _ _ 0 rfl),.s,trivial⟩))
      clear hj1
      rintro s ⟨n7,hj0,rfl⟩
      unfold Dec.parse.j6 at hj0
      obtain ⟨t113,et113,hj1⟩:=letk_elim hj0; clear hj0
      conv=>whnf
      refine Nm.mk ⟨t113,et113,?_⟩
      conv=>whnf
      refine Nm.mk ⟨[.lit (.int .i64 p2_0_5),.lit (.string p2_1_5),.lit (.string p2_2_5),.lit (.int .i64 t113)],rfl,?_⟩
      conv=>whnf
      refine Nm.mk ⟨[.lit (.int .i64 p2_0_5),.lit (.string p2_1_5),.lit (.string p2_2_5),.lit (.int .i64 t113)],rfl,?_⟩
      have ehj1_0:=Option.some.inj hj1
      subst ehj1_0
      conv=>whnf
      exact Returns.pure (r:=.tup [decimal.parsed.enc ((⟨p2_0_5,p2_1_5,p2_2_5,t113⟩:decimal.parsed)),.lit (.bool true)]) rfl rfl rfl rfl ⟨rfl,rfl⟩
    have hj7:=bif_t hj6
    clear hj6
    conv=>whnf
    refine Nm.mk ⟨[.lit (.int .i64 p2_0_3),.lit (.string p2_1_3),.lit (.string p2_2_3),.lit (.int .i64 p2_3_3)],rfl,?_⟩
    have ehj7_0:=Option.some.inj hj7
    subst ehj7_0
    conv=>whnf
    exact Returns.pure (r:=.tup [decimal.parsed.enc ((⟨p2_0_3,p2_1_3,p2_2_3,p2_3_3⟩:decimal.parsed)),.lit (.bool false)]) rfl rfl rfl rfl ⟨rfl,rfl⟩
  have hj2:=bif_t hj1
  clear hj1
  conv=>whnf
  refine Nm.mk ⟨[.lit (.int .i64 p2_0_3),.lit (.string p2_1_3),.lit (.string p2_2_3),.lit (.int .i64 p2_3_3)],rfl,?_⟩
  have ehj2_0:=Option.some.inj hj2
  subst ehj2_0
  conv=>whnf
  exact Returns.pure (r:=.tup [decimal.parsed.enc ((⟨p2_0_3,p2_1_3,p2_2_3,p2_3_3⟩:decimal.parsed)),.lit (.bool true)]) rfl rfl rfl rfl ⟨rfl,rfl⟩
noncomputable def Flt.shape.pack (s0:float.shape) (sign1:Int) (e2:Int) (f3:Int):Option Int :=
  letk (IntKind.u64.wrap sign1) fun t10 =>
  letk (IntKind.i64.wrap (s0.p + s0.w)) fun t15 =>
  letk (IntKind.i64.wrap (t15 - (1:Int))) fun t16 =>
  chk (0 ≤ t16) <|
  letk (IntKind.u64.wrap (t10 * 2 ^ (min t16.toNat (IntKind.u64).bits))) fun t17 =>
  letk (IntKind.i64.wrap (s0.p - (1:Int))) fun t21 =>
  chk (0 ≤ t21) <|
  letk (IntKind.u64.wrap (e2 * 2 ^ (min t21.toNat (IntKind.u64).bits))) fun t22 =>
  letk (IntKind.u64.wrap (BitVec.ofInt (IntKind.u64).bits t17 ||| BitVec.ofInt (IntKind.u64).bits t22).toNat) fun t23 =>
  letk (IntKind.u64.wrap (BitVec.ofInt (IntKind.u64).bits t23 ||| BitVec.ofInt (IntKind.u64).bits f3).toNat) fun t25 =>
  letk (IntKind.i64.wrap t25) fun t26 =>
  some t26
theorem Flt.shape.pack_ok {s0:float.shape} {sign1:Int} {e2:Int} {f3:Int} {r:Int} (h0:Flt.shape.pack s0 sign1 e2 f3 = some r):Gives Tryz.prog 152 [float.shape.enc s0,.lit (.int .i64 sign1),.lit (.int .u64 e2),.lit (.int .u64 f3)] (.lit (.int .i64 r)):=by
  unfold Flt.shape.pack at h0
  refine ACalls.of_swp Tryz.func152 rfl (by decide) rfl (st0:=⟨27,[(0,float.shape.enc s0),(1,.lit (.int .i64 sign1)),(2,.lit (.int .u64 e2)),(3,.lit (.int .u64 f3))],[]⟩) rfl (bwp_ok (C:=[]) ?_)
  conv=>whnf
  refine Nm.mk ⟨[.lit (.int .i64 s0.p),.lit (.int .i64 s0.w)],rfl,?_⟩
  conv=>whnf
  refine DrawB.sees (Sees.of (Weak.objs (k:=27) (keep:=[0]) (frz:=[]) (m:=0) (ts:=[(1,.lit (.int .i64 sign1)),(2,.lit (.int .u64 e2)),(3,.lit (.int .u64 f3)),(4,.ptr 0 0)]) (hs:=[.box [.lit (.int .i64 s0.p),.lit (.int .i64 s0.w)]]) rfl (by decide) rfl rfl ⟨⟨_,rfl,WO.refl rfl⟩,⟨rfl,fun _ h=>by cases h⟩⟩ ⟨.s,.s,.s,(.ptr _ _ 0 rfl),trivial⟩)) ?_
  refine DrawB.ofG [none,none,none,none,none,none,none,none,none,none,none,none,none,none,none,none,none,none,none] Tryz_mixed (by kernel_rfl) (by kernel_rfl) ?_
  conv=>whnf
  refine DNodeB.of (.lit (.int .i64 sign1)) ?_ ?_
  · conv=>whnf
    rfl
  obtain ⟨t10,et10,h1⟩:=letk_elim h0; clear h0
  conv=>whnf
  refine DNodeB.of (.lit (.int .u64 t10)) ?_ ?_
  · conv=>whnf
    refine Nm.mk ⟨t10,et10,?_⟩
    conv=>whnf
    rfl
  conv=>whnf
  refine DNodeB.of (.ptr 0 0) ?_ ?_
  · conv=>whnf
    rfl
  conv=>whnf
  refine DNodeB.of (.lit (.int .i64 s0.p)) ?_ ?_
  · conv=>whnf
    rfl
  conv=>whnf
  refine DNodeB.of (.ptr 0 1) ?_ ?_
  · conv=>whnf
    rfl
  conv=>whnf
  refine DNodeB.of (.lit (.int .i64 s0.w)) ?_ ?_
  · conv=>whnf
    rfl
  obtain ⟨t15,et15,h2⟩:=letk_elim h1; clear h1
  conv=>whnf
  refine DNodeB.of (.lit (.int .i64 t15)) ?_ ?_
  · conv=>whnf
    refine Nm.mk ⟨t15,et15,?_⟩
    conv=>whnf
    rfl
  obtain ⟨t16,et16,h3⟩:=letk_elim h2; clear h2
  conv=>whnf
  refine DNodeB.of (.lit (.int .i64 t16)) ?_ ?_
  · conv=>whnf
    refine Nm.mk ⟨t16,et16,?_⟩
    conv=>whnf
    rfl
  obtain ⟨ch4,h4⟩:=chk_elim h3; clear h3
  obtain ⟨t17,et17,h5⟩:=letk_elim h4; clear h4
  conv=>whnf
  refine DNodeB.of (.lit (.int .u64 t17)) ?_ ?_
  · conv=>whnf
    refine Side.mk ch4 ?_
    conv=>whnf
    refine Nm.mk ⟨t17,et17,?_⟩
    conv=>whnf
    rfl
  conv=>whnf
  refine DNodeB.of (.lit (.int .u64 e2)) ?_ ?_
  · conv=>whnf
    rfl
  conv=>whnf
  refine DNodeB.of (.ptr 0 0) ?_ ?_
  · conv=>whnf
    rfl
  conv=>whnf
  refine DNodeB.of (.lit (.int .i64 s0.p)) ?_ ?_
  · conv=>whnf
    rfl
  obtain ⟨t21,et21,h6⟩:=letk_elim h5; clear h5
  conv=>whnf
  refine DNodeB.of (.lit (.int .i64 t21)) ?_ ?_
  · conv=>whnf
    refine Nm.mk ⟨t21,et21,?_⟩
    conv=>whnf
    rfl
  obtain ⟨ch7,h7⟩:=chk_elim h6; clear h6
  obtain ⟨t22,et22,h8⟩:=letk_elim h7; clear h7
  conv=>whnf
  refine DNodeB.of (.lit (.int .u64 t22)) ?_ ?_
  · conv=>whnf
    refine Side.mk ch7 ?_
    conv=>whnf
    refine Nm.mk ⟨t22,et22,?_⟩
    conv=>whnf
    rfl
  obtain ⟨t23,et23,h9⟩:=letk_elim h8; clear h8
  conv=>whnf
  refine DNodeB.of (.lit (.int .u64 t23)) ?_ ?_
  · conv=>whnf
    refine Nm.mk ⟨t23,et23,?_⟩
    conv=>whnf
    rfl
  conv=>whnf
  refine DNodeB.of (.lit (.int .u64 f3)) ?_ ?_
  · conv=>whnf
    rfl
  obtain ⟨t25,et25,h10⟩:=letk_elim h9; clear h9
  conv=>whnf
  refine DNodeB.of (.lit (.int .u64 t25)) ?_ ?_
  · conv=>whnf
    refine Nm.mk ⟨t25,et25,?_⟩
    conv=>whnf
    rfl
  obtain ⟨t26,et26,h11⟩:=letk_elim h10; clear h10
  conv=>whnf
  refine DNodeB.of (.lit (.int .i64 t26)) ?_ ?_
  · conv=>whnf
    refine Nm.mk ⟨t26,et26,?_⟩
    conv=>whnf
    rfl
  conv=>whnf
  refine DNodeB.of (.lit (.int .i64 t26)) ?_ ?_
  · conv=>whnf
    rfl
  have eh11_0:=Option.some.inj h11
  subst eh11_0
  conv=>whnf
  exact Returns.pure (r:=.lit (.int .i64 t26)) rfl rfl rfl rfl ⟨rfl,rfl⟩
noncomputable def Flt.shape.zero (s0:float.shape) (sign1:Int):Option Int :=
  Option.bind (Flt.shape.pack (⟨s0.p,s0.w⟩:float.shape) sign1 0 0) fun t7 =>
  some t7
theorem Flt.shape.zero_ok {s0:float.shape} {sign1:Int} {r:Int} (h0:Flt.shape.zero s0 sign1 = some r):Gives Tryz.prog 125 [float.shape.enc s0,.lit (.int .i64 sign1)] (.lit (.int .i64 r)):=by
  unfold Flt.shape.zero at h0
  refine ACalls.of_swp Tryz.func125 rfl (by decide) rfl (st0:=⟨8,[(0,float.shape.enc s0),(1,.lit (.int .i64 sign1))],[]⟩) rfl (bwp_ok (C:=[]) ?_)
  conv=>whnf
  refine Nm.mk ⟨[.lit (.int .i64 s0.p),.lit (.int .i64 s0.w)],rfl,?_⟩
  obtain ⟨t7,et7,h1⟩:=bind_elim h0; clear h0
  conv=>whnf
  refine Gate.go ?_
  conv=>whnf
  refine CallN.by (v:=.lit (.int .i64 t7)) (Flt.shape.pack_ok et7) rfl rfl ?_
  have eh1_0:=Option.some.inj h1
  subst eh1_0
  conv=>whnf
  exact Returns.pure (r:=.lit (.int .i64 t7)) rfl rfl rfl rfl ⟨rfl,rfl⟩
noncomputable def Flt.exact.long (x0:float.exact):Option Int :=
  letk (x0.hi != (0:Int)) fun t5 =>
  bif t5 then
    Option.bind (Bits.Len64 x0.hi) fun t8 =>
    letk (IntKind.i64.wrap ((64:Int) + t8)) fun t9 =>
    some t9
  else
    Option.bind (Bits.Len64 x0.lo) fun t12 =>
    some t12
theorem Flt.exact.long_ok {x0:float.exact} {r:Int} (h0:Flt.exact.long x0 = some r):Gives Tryz.prog 153 [float.exact.enc x0] (.lit (.int .i64 r)):=by
  unfold Flt.exact.long at h0
  refine ACalls.of_swp Tryz.func153 rfl (by decide) rfl (st0:=⟨13,[(0,float.exact.enc x0)],[]⟩) rfl (bwp_ok (C:=[]) ?_)
  conv=>whnf
  refine Nm.mk ⟨[.lit (.int .u64 x0.hi),.lit (.int .u64 x0.lo),.lit (.int .i64 x0.e),.lit (.bool x0.more)],rfl,?_⟩
  obtain ⟨t5,et5,h1⟩:=letk_elim h0; clear h0
  conv=>whnf
  refine Nm.mk ⟨t5,et5,?_⟩
  rcases t5 with _ | _
  · have h2:=bif_f h1
    clear h1
    obtain ⟨t12,et12,h3⟩:=bind_elim h2; clear h2
    conv=>whnf
    refine Gate.go ?_
    conv=>whnf
    refine CallN.by (v:=.lit (.int .i64 t12)) (Bits.Len64_ok et12) rfl rfl ?_
    have eh3_0:=Option.some.inj h3
    subst eh3_0
    conv=>whnf
    exact Returns.pure (r:=.lit (.int .i64 t12)) rfl rfl rfl rfl ⟨rfl,rfl⟩
  have h2:=bif_t h1
  clear h1
  obtain ⟨t8,et8,h3⟩:=bind_elim h2; clear h2
  conv=>whnf
  refine Gate.go ?_
  conv=>whnf
  refine CallN.by (v:=.lit (.int .i64 t8)) (Bits.Len64_ok et8) rfl rfl ?_
  obtain ⟨t9,et9,h4⟩:=letk_elim h3; clear h3
  conv=>whnf
  refine Nm.mk ⟨t9,et9,?_⟩
  have eh4_0:=Option.some.inj h4
  subst eh4_0
  conv=>whnf
  exact Returns.pure (r:=.lit (.int .i64 t9)) rfl rfl rfl rfl ⟨rfl,rfl⟩
end Go.Q
