import Derived.Test.YtemmhailjfdfdaaGreatAGE
import Derived.Test.YtemmhailjfdfdaaGreatFX
import Derived.Test.YtemmhailjfdfdaaGreatFY
import Derived.Test.YtemmhailjfdfdaaGreatProg
namespace Go.Q
open Go Go.Proofs
set_option maxRecDepth 10000
set_option maxHeartbeats 2000000
noncomputable def Law7.isLarge.s0 (l0:List api.Array) (i3:Int):Option (Int ⊕ Bool) :=
 letk ((l0.length:Int)) fun t6 =>
 letk (decide (i3 < t6)) fun t7 =>
 bif t7 then
 chk (0 ≤ i3) <|
 Option.bind (l0[i3.toNat]?) fun t12 =>
 letk ((t12.Elems.length:Int)) fun t15 =>
 letk (decide (t15 > (400:Int))) fun t16 =>
 bif t16 then
 some (.inr true)
 else
 chk (0 ≤ i3) <|
 Option.bind (l0[i3.toNat]?) fun t20 =>
 letk ((t20.Shape.length:Int)) fun t23 =>
 letk (decide (t23 > (50:Int))) fun t24 =>
 bif t24 then
 some (.inr true)
 else
 letk (IntKind.i64.wrap (i3 + (1:Int))) fun t9 =>
 some (.inl t9)
 else
 ((
 letk ((l0.length:Int)) fun t27 =>
 letk (decide (t27 > (10:Int))) fun t28 =>
 some t28)).map .inr
noncomputable def Law7.isLarge.l0 (l0:List api.Array) (i3:Int):Option Bool:=loopO (fun v:Int=>Law7.isLarge.s0 l0 v) i3
noncomputable def Law7.isLarge (l0:List api.Array):Option Bool :=
 Law7.isLarge.l0 l0 0
abbrev E1':Bool → AV:=fun r=>(.lit (.bool r))
theorem Law7.isLarge_ok {l0:List api.Array} {r:Bool} (h0:Law7.isLarge l0 = some r):Gives Tryz.prog 11 [.vs 3 (l0.map (api.Array.enc))] (.lit (.bool r)):=by
 unfold Law7.isLarge at h0
 refine W' [] Tryz.func11 ?_
 unfold Law7.isLarge.l0 at h0
 refine LoopB.of (σ:=Int) (ρ:=Bool) (fun v:Int=>Law7.isLarge.s0 l0 v) (fun v=>(⟨29,[(0,.vs 3 (l0.map (api.Array.enc))),(3,J v)],[]⟩:St)) 0 h0 (B' [] rfl) ?_
 rintro K1 i3 x1 hs0_0 hl1 hr1
 replace hs0_0:Law7.isLarge.s0 l0 i3 = some x1:=hs0_0
 unfold Law7.isLarge.s0 at hs0_0
 obtain ⟨t6,et6,hs0_1⟩:=letk_elim hs0_0
 refine Nm.mk ⟨t6,by rw [et6,List.length_map],?_⟩
 refine C' hs0_1 (fun hs0_3=>?_) fun hs0_3=>?_
 obtain ⟨_,hs0_3u,ehs0_3_0⟩:=map_elim hs0_3
 have ehs0_3_0:=(hr1 _ ehs0_3_0.symm).symm
 subst ehs0_3_0
 obtain ⟨t27,et27,hs0_3u0⟩:=letk_elim hs0_3u
 refine Nm.mk ⟨t27,by rw [et27,List.length_map],?_⟩
 refine N' hs0_3u0 fun _ hs0_3u1=>?_
 exact R' (E:=E1') hs0_3u1
 obtain ⟨chs0_4,hs0_4⟩:=chk_elim hs0_3
 obtain ⟨_,et12,hs0_5⟩:=bind_elim hs0_4
 refine Side.mk chs0_4 ?_
 refine At.by et12 ?_
 obtain ⟨t15,et15,hs0_6⟩:=letk_elim hs0_5
 refine Nm.mk ⟨t15,by rw [et15,List.length_map],?_⟩
 refine C' hs0_6 (fun hs0_8=>?_) fun hs0_8=>?_
 obtain ⟨chs0_9,hs0_9⟩:=chk_elim hs0_8
 obtain ⟨_,et20,hs0_10⟩:=bind_elim hs0_9
 refine Side.mk chs0_9 ?_
 refine At.by et20 ?_
 obtain ⟨t23,et23,hs0_11⟩:=letk_elim hs0_10
 refine Nm.mk ⟨t23,by rw [et23,List.length_map],?_⟩
 refine C' hs0_11 (fun hs0_13=>?_) fun hs0_13=>?_
 refine N' hs0_13 fun _ hs0_14=>?_
 exact B' [] ⟨_,hl1 _ (Option.some.inj hs0_14).symm,rfl⟩
 have ehs0_13_0:=hr1 _ (Option.some.inj hs0_13).symm
 subst ehs0_13_0
 exact Returns.pure (r:=.lit (.bool true)) rfl rfl rfl rfl ⟨rfl,rfl⟩
 have ehs0_8_0:=hr1 _ (Option.some.inj hs0_8).symm
 subst ehs0_8_0
 exact Returns.pure (r:=.lit (.bool true)) rfl rfl rfl rfl ⟨rfl,rfl⟩
noncomputable def Slcs.IndexFunc___int_int_.s0 (s0:List Int) (t7:Int) (f1:Int → Option Bool) (t8:Int):Option (Int ⊕ Int) :=
 letk (decide (t8 < t7)) fun t9 =>
 bif t9 then
 chk (0 ≤ t8) <|
 Option.bind (s0[t8.toNat]?) fun t14 =>
 Option.bind (f1 t14) fun t16 =>
 bif t16 then
 some (.inr t8)
 else
 letk (IntKind.i64.wrap (t8 + (1:Int))) fun t18 =>
 some (.inl t18)
 else
 some (.inr (-1))
noncomputable def Slcs.IndexFunc___int_int_.l0 (s0:List Int) (t7:Int) (f1:Int → Option Bool) (t8:Int):Option Int:=loopO (fun v:Int=>Slcs.IndexFunc___int_int_.s0 s0 t7 f1 v) t8
noncomputable def Slcs.IndexFunc___int_int_ (s0:List Int) (f1:Int → Option Bool):Option Int :=
 letk ((s0.length:Int)) fun t7 =>
 Slcs.IndexFunc___int_int_.l0 s0 t7 f1 0
abbrev E2':Int → AV:=fun r=>(J r)
theorem Slcs.IndexFunc___int_int__ok {s0:List Int} {f1:Int → Option Bool} {r:Int} {f1g:Nat} {f1gc:List AV} (hf1gc:f1gc.all pureQ.pureQ0 = true) (hf1:∀ a0 r,f1 a0 = some r → Gives Tryz.prog f1g ([J a0] ++ f1gc) (.lit (.bool r))) (h0:Slcs.IndexFunc___int_int_ s0 f1 = some r):Gives Tryz.prog 107 [VI' s0,.fn (.func f1g) [] f1gc] (J r):=by
 unfold Slcs.IndexFunc___int_int_ at h0
 refine W' [] Tryz.func107 ?_
 obtain ⟨t7,et7,h1⟩:=letk_elim h0
 refine Nm.mk ⟨t7,by rw [et7,List.length_map],?_⟩
 unfold Slcs.IndexFunc___int_int_.l0 at h1
 refine LoopB.of (σ:=Int) (ρ:=Int) (fun v:Int=>Slcs.IndexFunc___int_int_.s0 s0 t7 f1 v) (fun v=>(⟨19,[(0,VI' s0),(1,.fn (.func f1g) [] f1gc),(7,J t7),(8,J v)],[]⟩:St)) 0 h1 (BackS.by rfl (Sees.e ⟨.s,(.same _ (fnq hf1gc)),.s,.s,trivial⟩)) ?_
 rintro K1 t8 x1 hs0_0 hl1 hr1
 replace hs0_0:Slcs.IndexFunc___int_int_.s0 s0 t7 f1 t8 = some x1:=hs0_0
 unfold Slcs.IndexFunc___int_int_.s0 at hs0_0
 refine C' hs0_0 (fun hs0_2=>?_) fun hs0_2=>?_
 have ehs0_2u_0:=hr1 _ (Option.some.inj hs0_2).symm
 have hs0_2u:=congrArg some ehs0_2u_0
 exact R' (E:=E2') hs0_2u
 obtain ⟨chs0_3,hs0_3⟩:=chk_elim hs0_2
 obtain ⟨_,et14,hs0_4⟩:=bind_elim hs0_3
 refine Side.mk chs0_3 ?_
 refine At.by et14 ?_
 obtain ⟨t16,et16,hs0_5⟩:=bind_elim hs0_4
 refine Gate.go ?_
 refine CallN.by (v:=.lit (.bool t16)) (hf1 _ _ et16) (allq_app rfl hf1gc) rfl ?_
 rcases t16 with _ | _
 have hs0_6:=bif_f hs0_5
 refine N' hs0_6 fun _ hs0_7=>?_
 exact BackS.by ⟨_,hl1 _ (Option.some.inj hs0_7).symm,rfl⟩ (Sees.e ⟨.s,(.same _ (fnq hf1gc)),.s,.s,trivial⟩)
 have hs0_6:=bif_t hs0_5
 have ehs0_6_0:=hr1 _ (Option.some.inj hs0_6).symm
 subst ehs0_6_0
 exact Returns.pure (r:=J t8) rfl rfl rfl rfl ⟨rfl,rfl⟩
noncomputable def Slcs.ContainsFunc___int_int_ (s0:List Int) (f1:Int → Option Bool):Option Bool :=
 Option.bind (Slcs.IndexFunc___int_int_ s0 f1) fun t7 =>
 letk (decide (t7 ≥ (0:Int))) fun t8 =>
 some t8
theorem Slcs.ContainsFunc___int_int__ok {s0:List Int} {f1:Int → Option Bool} {r:Bool} {f1g:Nat} {f1gc:List AV} (hf1gc:f1gc.all pureQ.pureQ0 = true) (hf1:∀ a0 r,f1 a0 = some r → Gives Tryz.prog f1g ([J a0] ++ f1gc) (.lit (.bool r))) (h0:Slcs.ContainsFunc___int_int_ s0 f1 = some r):Gives Tryz.prog 52 [VI' s0,.fn (.func f1g) [] f1gc] (.lit (.bool r)):=by
 unfold Slcs.ContainsFunc___int_int_ at h0
 refine W' [] Tryz.func52 ?_
 obtain ⟨t7,et7,h1⟩:=bind_elim h0
 refine Gate.go ?_
 refine CallN.by (v:=J t7) (Slcs.IndexFunc___int_int__ok hf1gc (fun _ r h=>hf1 _ r h) et7) (allq_cons rfl (allq_cons (fnq hf1gc) rfl)) rfl ?_
 refine N' h1 fun _ h2=>?_
 exact R' (E:=E1') h2
noncomputable def Sec.size_1 (n0:Int):Option Bool :=
 letk (decide (n0 < (0:Int))) fun t4 =>
 bif t4 then
 some true
 else
 letk (decide (n0 > (4000:Int))) fun t7 =>
 some t7
theorem Sec.size_1_ok {n0:Int} {r:Bool} (h0:Sec.size_1 n0 = some r):Gives Tryz.prog 185 [J n0] (.lit (.bool r)):=by
 unfold Sec.size_1 at h0
 refine W' [] Tryz.func185 ?_
 refine C' h0 (fun h2=>?_) fun h2=>?_
 refine N' h2 fun _ h3=>?_
 exact R' (E:=E1') h3
 exact R' (E:=E1') h2
noncomputable def Sec.size.s0 (extents0:List Int) (t14 n3 t15:Int):Option ((Int × Int) ⊕ Int) :=
 letk (decide (t15 < t14)) fun t16 =>
 bif t16 then
 chk (0 ≤ t15) <|
 Option.bind (extents0[t15.toNat]?) fun t17 =>
 letk (IntKind.i64.wrap (n3 * t17)) fun t21 =>
 letk (IntKind.i64.wrap (t15 + (1:Int))) fun t22 =>
 some (.inl (t21,t22))
 else
 ((
 letk (decide (n3 > (4000:Int))) fun t24 =>
 bif t24 then
 some (-1)
 else
 some n3)).map .inr
noncomputable def Sec.size.l0 (extents0:List Int) (t14 n3 t15:Int):Option Int:=loopO (fun v:Int × Int=>Sec.size.s0 extents0 t14 v.1 v.2) (n3,t15)
noncomputable def Sec.size.j0 (extents0:List Int):Option Int :=
 letk ((extents0.length:Int)) fun t14 =>
 Sec.size.l0 extents0 t14 1 0
noncomputable def Sec.size (extents0:List Int):Option Int :=
 letk ((extents0.length:Int)) fun t7 =>
 letk (decide (t7 > (3:Int))) fun t8 =>
 bif t8 then
 some (-1)
 else
 Option.bind (Slcs.ContainsFunc___int_int_ extents0 Sec.size_1) fun t11 =>
 bif t11 then
 some (-1)
 else
 Sec.size.j0 extents0
theorem Sec.size_ok {extents0:List Int} {r:Int} (h0:Sec.size extents0 = some r):Gives Tryz.prog 138 [VI' extents0] (J r):=by
 unfold Sec.size at h0
 refine W' [(0,3)] Tryz.func138 ?_
 refine CutN.of (fun s=>Sec.size.j0 extents0 = some r ∧ s = ⟨26,[(0,VI' extents0)],[]⟩) ?_ ?_
 obtain ⟨t7,et7,h1⟩:=letk_elim h0
 refine Nm.mk ⟨t7,by rw [et7,List.length_map],?_⟩
 refine C' h1 (fun h3=>?_) fun h3=>?_
 obtain ⟨t11,et11,h4⟩:=bind_elim h3
 refine Gate.go ?_
 refine CallN.by (v:=.lit (.bool t11)) (Slcs.ContainsFunc___int_int__ok (show List.all [] pureQ.pureQ0 = true from rfl) (fun _ _ h=>Sec.size_1_ok h) et11) rfl rfl ?_
 rcases t11 with _ | _
 have h5:=bif_f h4
 exact B' [] ⟨h5,rfl⟩
 have h5:=bif_t h4
 exact R' (E:=E2') h5
 exact R' (E:=E2') h3
 rintro s ⟨hj0,rfl⟩
 unfold Sec.size.j0 at hj0
 obtain ⟨t14,et14,hj1⟩:=letk_elim hj0
 refine Nm.mk ⟨t14,by rw [et14,List.length_map],?_⟩
 unfold Sec.size.l0 at hj1
 refine LoopB.of (σ:=Int × Int) (ρ:=Int) (fun v:Int × Int=>Sec.size.s0 extents0 t14 v.1 v.2) (fun v=>(⟨26,[(3,J v.1),(13,VI' extents0),(14,J t14),(15,J v.2)],[]⟩:St)) (1,0) hj1 (B' [] rfl) ?_
 rintro _ ⟨n3,t15⟩ x1 hs0_0 hl1 hr1
 replace hs0_0:Sec.size.s0 extents0 t14 n3 t15 = some x1:=hs0_0
 unfold Sec.size.s0 at hs0_0
 refine C' hs0_0 (fun hs0_2=>?_) fun hs0_2=>?_
 obtain ⟨_,hs0_2u,ehs0_2_0⟩:=map_elim hs0_2
 have ehs0_2_0:=(hr1 _ ehs0_2_0.symm).symm
 subst ehs0_2_0
 refine C' hs0_2u (fun hs0_2u1=>?_) fun hs0_2u1=>?_
 exact R' (E:=E2') hs0_2u1
 exact R' (E:=E2') hs0_2u1
 obtain ⟨chs0_3,hs0_3⟩:=chk_elim hs0_2
 obtain ⟨_,et17,hs0_4⟩:=bind_elim hs0_3
 refine Side.mk chs0_3 ?_
 refine At.by et17 ?_
 refine N' hs0_4 fun _ hs0_5=>?_
 refine N' hs0_5 fun _ hs0_6=>?_
 exact B' [] ⟨_,hl1 _ (Option.some.inj hs0_6).symm,rfl⟩
noncomputable def Sec.Whole.s0 (extents0:List Int) (t16 t2_0:Int) (t2_1 t2_2:List Int) (d4_0:Int) (d4_1 d4_2:List Int) (s5 t17:Int):Option ((Int × (List Int) × (List Int) × Int × (List Int) × (List Int) × Int × Int) ⊕ (api.Desc × Int)) :=
 letk (decide (t17 < t16)) fun t18 =>
 bif t18 then
 chk (0 ≤ t17) <|
 Option.bind (extents0[t17.toNat]?) fun t19 =>
 chk ((d4_2.length + ([s5]).length) * 8 ≤ 140737488355328) <|
 letk (d4_2 ++ ([s5])) fun t25 =>
 letk (IntKind.i64.wrap (s5 * t19)) fun t29 =>
 letk (IntKind.i64.wrap (t17 + (1:Int))) fun t30 =>
 some (.inl (t2_0,t2_1,t2_2,d4_0,d4_1,t25,t29,t30))
 else
 some (.inr ((⟨d4_0,d4_1,d4_2⟩:api.Desc),0))
noncomputable def Sec.Whole.l0 (extents0:List Int) (t16 t2_0:Int) (t2_1 t2_2:List Int) (d4_0:Int) (d4_1 d4_2:List Int) (s5 t17:Int):Option (api.Desc × Int):=loopO (fun v:Int × (List Int) × (List Int) × Int × (List Int) × (List Int) × Int × Int=>Sec.Whole.s0 extents0 t16 v.1 v.2.1 v.2.2.1 v.2.2.2.1 v.2.2.2.2.1 v.2.2.2.2.2.1 v.2.2.2.2.2.2.1 v.2.2.2.2.2.2.2) (t2_0,t2_1,t2_2,d4_0,d4_1,d4_2,s5,t17)
noncomputable def Sec.Whole (extents0:List Int):Option (api.Desc × Int) :=
 Option.bind (Sec.size extents0) fun t9 =>
 letk (decide (t9 < (0:Int))) fun t10 =>
 bif t10 then
 some ((⟨0,[],[]⟩:api.Desc),2)
 else
 Option.bind (Slcs.Clone___int_int_ extents0) fun t13 =>
 letk ((extents0.length:Int)) fun t16 =>
 Sec.Whole.l0 extents0 t16 0 ([]) ([]) 0 t13 ([]) 1 0
theorem Sec.Whole_ok {extents0:List Int} {r:api.Desc × Int} (h0:Sec.Whole extents0 = some r):Gives Tryz.prog 105 [VI' extents0] (.tup [api.Desc.enc r.1,J r.2]):=by
 unfold Sec.Whole at h0
 refine W' [] Tryz.func105 ?_
 refine V' ?_
 refine Gate.go (A' h0 Sec.size_ok fun _ h1=>?_)
 refine C' h1 (fun h3=>?_) fun h3=>?_
 obtain ⟨t13,et13,h4⟩:=bind_elim h3
 refine Gate.go ?_
 refine CallN.fresh (s:=1) (es:=t13.map (eI .i64)) (Slcs.Clone___int_int__ok et13) rfl ?_
 refine Gate.weak (Sees.of (Weak.objs (k:=32) (keep:=[0]) (frz:=[1]) (m:=0) (ts:=[(0,VI' extents0),(2,.ptr 0 0),(13,VI' t13)]) (hs:=[.box [J 0,.nils,.nils]]) rfl (by decide) rfl rfl ⟨⟨_,rfl,WO.refl rfl⟩,⟨rfl,fun _ h=>by cases h⟩⟩ ⟨.s,(.ptr _ _ 0 rfl),(WV.all (k:=1) (by decide) rfl),trivial⟩)) ?_
 refine V' ?_
 refine V' ?_
 refine V' ?_
 obtain ⟨t16,et16,h5⟩:=letk_elim h4
 refine Nm.mk ⟨t16,by rw [et16,List.length_map],?_⟩
 unfold Sec.Whole.l0 at h5
 refine LoopB.of (σ:=Int × (List Int) × (List Int) × Int × (List Int) × (List Int) × Int × Int) (ρ:=api.Desc × Int) (fun v:Int × (List Int) × (List Int) × Int × (List Int) × (List Int) × Int × Int=>Sec.Whole.s0 extents0 t16 v.1 v.2.1 v.2.2.1 v.2.2.2.1 v.2.2.2.2.1 v.2.2.2.2.2.1 v.2.2.2.2.2.2.1 v.2.2.2.2.2.2.2) (fun v=>(⟨32,[(2,.ptr 0 0),(4,.ptr 1 0),(5,J v.2.2.2.2.2.2.1),(15,VI' extents0),(16,J t16),(17,J v.2.2.2.2.2.2.2)],[.box [J v.1,VI' v.2.1,VI' v.2.2.1],.box [J v.2.2.2.1,VI' v.2.2.2.2.1,.ref 2 0 ((v.2.2.2.2.2.1.map (eI .i64)).length)],.arr 1 (v.2.2.2.2.2.1.map (eI .i64))]⟩:St)) (0,[],[],0,t13,[],1,0) h5 (BackS.by rfl (Sees.of (Weak.objs (keep:=[0,1]) (frz:=[]) (m:=1) rfl (by decide) rfl rfl ⟨⟨_,rfl,WO.boxs ⟨.s,(.nilsVs _),(.nilsVs _),trivial⟩⟩,⟨⟨_,rfl,WO.boxs ⟨.s,.s,(.nilsRef 2 (by decide) (by decide)),trivial⟩⟩,⟨rfl,fun _ ho=>by simp only [List.mem_cons,List.not_mem_nil,or_false] at ho; exact ⟨_,ho⟩⟩⟩⟩ ⟨(.ptr _ _ 0 rfl),(.ptr _ _ 1 rfl),.s,.s,.s,.s,trivial⟩))) ?_
 rintro _ ⟨t2_0,t2_1,t2_2,d4_0,d4_1,d4_2,s5,t17⟩ x1 hs0_0 hl1 hr1
 replace hs0_0:Sec.Whole.s0 extents0 t16 t2_0 t2_1 t2_2 d4_0 d4_1 d4_2 s5 t17 = some x1:=hs0_0
 unfold Sec.Whole.s0 at hs0_0
 refine C' hs0_0 (fun hs0_2=>?_) fun hs0_2=>?_
 have ehs0_2u_0:=hr1 _ (Option.some.inj hs0_2).symm
 have hs0_2u:=congrArg some ehs0_2u_0
 refine V' ?_
 have ehs0_2u_0:=Option.some.inj hs0_2u
 subst ehs0_2u_0
 exact Returns.frozen (r:=.tup [api.Desc.enc ((⟨d4_0,d4_1,d4_2⟩:api.Desc)),J 0]) [2] rfl rfl (WV.tups ⟨(WV.aggs ⟨.s,.s,(WV.all (k:=2) (by decide) rfl),trivial⟩),.s,trivial⟩) ⟨rfl,rfl⟩
 obtain ⟨chs0_3,hs0_3⟩:=chk_elim hs0_2
 obtain ⟨_,et19,hs0_4⟩:=bind_elim hs0_3
 refine Side.mk chs0_3 ?_
 refine At.by et19 ?_
 refine Gate.go ?_
 refine Nm.mk ⟨([s5]).map (eI .i64),rfl,?_⟩
 obtain ⟨chs0_5,hs0_5⟩:=chk_elim hs0_4
 obtain ⟨t25,et25,hs0_6⟩:=letk_elim hs0_5
 refine Gate.go ?_
 refine Side.mk (full_le _) ?_
 refine Side.mk ⟨full_le _,one_map (fun _ _ hc=>by simp only [AV.cells,List.mem_singleton] at hc; subst hc; rfl)⟩ ?_
 refine Side.mk (side_rr (by decide) chs0_5) ?_
 refine Nm.mk ⟨t25.map (eI .i64),by rw [et25]; exact app_rr (m:=[s5]),?_⟩
 refine V' ?_
 refine N' hs0_6 fun _ hs0_7=>?_
 refine N' hs0_7 fun _ hs0_8=>?_
 exact B' [0,1,4] ⟨_,hl1 _ (Option.some.inj hs0_8).symm,rfl⟩
 refine Gate.go ?_
 refine V' ?_
 refine V' ?_
 have eh3_0:=Option.some.inj h3
 subst eh3_0
 exact Returns.frozen (r:=.tup [api.Desc.enc ((⟨0,[],[]⟩:api.Desc)),J 2]) [] rfl rfl (WV.tups ⟨(WV.aggs ⟨.s,(.nilsVs _),(.nilsVs _),trivial⟩),.s,trivial⟩) ⟨rfl,rfl⟩
noncomputable def Sec.isNumber (n0:Int):Option Bool :=
 letk (decide (n0 ≥ ((-2147483648):Int))) fun t4 =>
 bif t4 then
 letk (decide (n0 ≤ (2147483648:Int))) fun t7 =>
 some t7
 else
 some false
theorem Sec.isNumber_ok {n0:Int} {r:Bool} (h0:Sec.isNumber n0 = some r):Gives Tryz.prog 187 [J n0] (.lit (.bool r)):=by
 unfold Sec.isNumber at h0
 refine W' [] Tryz.func187 ?_
 refine C' h0 (fun h2=>?_) fun h2=>?_
 exact R' (E:=E1') h2
 refine N' h2 fun _ h3=>?_
 exact R' (E:=E1') h3
noncomputable def Sec.Valid_1 (s0:Int):Option Bool :=
 Option.bind (Sec.isNumber s0) fun t4 =>
 letk (!t4) fun t5 =>
 some t5
theorem Sec.Valid_1_ok {s0:Int} {r:Bool} (h0:Sec.Valid_1 s0 = some r):Gives Tryz.prog 186 [J s0] (.lit (.bool r)):=by
 unfold Sec.Valid_1 at h0
 refine W' [] Tryz.func186 ?_
 refine Gate.go (A' h0 Sec.isNumber_ok fun _ h1=>?_)
 refine N' h1 fun _ h2=>?_
 exact R' (E:=E1') h2
noncomputable def Sec.ends.s0 (d0:api.Desc) (t13 d1_0:Int) (d1_1 d1_2:List Int) (least2 greatest3 t14:Int):Option ((Int × (List Int) × (List Int) × Int × Int × Int) ⊕ (Int × Int)) :=
 letk (decide (t14 < t13)) fun t15 =>
 bif t15 then
 chk (0 ≤ t14) <|
 Option.bind (d0.Strides[t14.toNat]?) fun t17 =>
 chk (0 ≤ t14) <|
 Option.bind (d1_1[t14.toNat]?) fun t23 =>
 letk (IntKind.i64.wrap (t23 - (1:Int))) fun t25 =>
 letk (IntKind.i64.wrap (t17 * t25)) fun t26 =>
 letk (if 0 < t26 then 0 else t26) fun t29 =>
 letk (IntKind.i64.wrap (least2 + t29)) fun t30 =>
 letk (if 0 > t26 then 0 else t26) fun t33 =>
 letk (IntKind.i64.wrap (greatest3 + t33)) fun t34 =>
 letk (IntKind.i64.wrap (t14 + (1:Int))) fun t35 =>
 some (.inl (d1_0,d1_1,d1_2,t30,t34,t35))
 else
 some (.inr (least2,greatest3))
noncomputable def Sec.ends.l0 (d0:api.Desc) (t13 d1_0:Int) (d1_1 d1_2:List Int) (least2 greatest3 t14:Int):Option (Int × Int):=loopO (fun v:Int × (List Int) × (List Int) × Int × Int × Int=>Sec.ends.s0 d0 t13 v.1 v.2.1 v.2.2.1 v.2.2.2.1 v.2.2.2.2.1 v.2.2.2.2.2) (d1_0,d1_1,d1_2,least2,greatest3,t14)
noncomputable def Sec.ends (d0:api.Desc):Option (Int × Int) :=
 letk ((d0.Strides.length:Int)) fun t13 =>
 Sec.ends.l0 d0 t13 d0.Base d0.Extents d0.Strides d0.Base d0.Base 0
abbrev E3':Int × Int → AV:=fun r=>(.tup [J r.1,J r.2])
theorem Sec.ends_ok {d0:api.Desc} {r:Int × Int} (h0:Sec.ends d0 = some r):Gives Tryz.prog 188 [api.Desc.enc d0] (.tup [J r.1,J r.2]):=by
 unfold Sec.ends at h0
 refine W' [] Tryz.func188 ?_
 refine V' ?_
 refine DrawB.ofG [none,none,none,none,none,none] Tryz_mixed (by kernel_rfl) (by kernel_rfl) ?_
 refine D' rfl (D' rfl (D' rfl (D' rfl (D' rfl (D' rfl ?_)))))
 obtain ⟨t13,et13,h1⟩:=letk_elim h0
 refine Nm.mk ⟨t13,by rw [et13,List.length_map],?_⟩
 unfold Sec.ends.l0 at h1
 refine LoopB.of (σ:=Int × (List Int) × (List Int) × Int × Int × Int) (ρ:=Int × Int) (fun v:Int × (List Int) × (List Int) × Int × Int × Int=>Sec.ends.s0 d0 t13 v.1 v.2.1 v.2.2.1 v.2.2.2.1 v.2.2.2.2.1 v.2.2.2.2.2) (fun v=>(⟨38,[(1,.ptr 0 0),(2,J v.2.2.2.1),(3,J v.2.2.2.2.1),(12,VI' d0.Strides),(13,J t13),(14,J v.2.2.2.2.2)],[.box [J v.1,VI' v.2.1,VI' v.2.2.1]]⟩:St)) (d0.Base,d0.Extents,d0.Strides,d0.Base,d0.Base,0) h1 (B' [0] rfl) ?_
 rintro _ ⟨d1_0,d1_1,d1_2,least2,greatest3,t14⟩ x1 hs0_0 hl1 hr1
 replace hs0_0:Sec.ends.s0 d0 t13 d1_0 d1_1 d1_2 least2 greatest3 t14 = some x1:=hs0_0
 unfold Sec.ends.s0 at hs0_0
 refine C' hs0_0 (fun hs0_2=>?_) fun hs0_2=>?_
 have ehs0_2u_0:=hr1 _ (Option.some.inj hs0_2).symm
 have hs0_2u:=congrArg some ehs0_2u_0
 exact R' (E:=E3') hs0_2u
 obtain ⟨chs0_3,hs0_3⟩:=chk_elim hs0_2
 obtain ⟨_,et17,hs0_4⟩:=bind_elim hs0_3
 refine Side.mk chs0_3 ?_
 refine At.by et17 ?_
 obtain ⟨chs0_5,hs0_5⟩:=chk_elim hs0_4
 obtain ⟨_,et23,hs0_6⟩:=bind_elim hs0_5
 refine Side.mk chs0_5 ?_
 refine At.by et23 ?_
 refine N' hs0_6 fun _ hs0_7=>?_
 refine N' hs0_7 fun _ hs0_8=>?_
 refine N' hs0_8 fun _ hs0_9=>?_
 refine N' hs0_9 fun _ hs0_10=>?_
 refine N' hs0_10 fun _ hs0_11=>?_
 refine N' hs0_11 fun _ hs0_12=>?_
 refine N' hs0_12 fun _ hs0_13=>?_
 exact B' [0] ⟨_,hl1 _ (Option.some.inj hs0_13).symm,rfl⟩
noncomputable def Sec.Valid.j0 (t8 d1_0:Int) (d1_1 d1_2:List Int):Option Bool :=
 letk (t8 == (0:Int)) fun t31 =>
 bif t31 then
 some true
 else
 letk (decide (d1_0 > (2147483648:Int))) fun t34 =>
 bif t34 then
 some false
 else
 Option.bind (Sec.ends (⟨d1_0,d1_1,d1_2⟩:api.Desc)) fun (t37_0,t37_1) =>
 letk (decide (t37_0 ≥ (0:Int))) fun t41 =>
 bif t41 then
 letk (decide (t37_1 ≤ (2147483648:Int))) fun t44 =>
 some t44
 else
 some false
noncomputable def Sec.Valid (d0:api.Desc):Option Bool :=
 Option.bind (Sec.size d0.Extents) fun t8 =>
 letk (decide (t8 < (0:Int))) fun t10 =>
 bif t10 then
 some false
 else
 letk ((d0.Strides.length:Int)) fun t14 =>
 letk ((d0.Extents.length:Int)) fun t17 =>
 letk (t14 != t17) fun t18 =>
 bif t18 then
 some false
 else
 letk (decide (d0.Base < (0:Int))) fun t23 =>
 bif t23 then
 some false
 else
 Option.bind (Slcs.ContainsFunc___int_int_ d0.Strides Sec.Valid_1) fun t28 =>
 bif t28 then
 some false
 else
 Sec.Valid.j0 t8 d0.Base d0.Extents d0.Strides
theorem Sec.Valid_ok {d0:api.Desc} {r:Bool} (h0:Sec.Valid d0 = some r):Gives Tryz.prog 139 [api.Desc.enc d0] (.lit (.bool r)):=by
 unfold Sec.Valid at h0
 refine W' [(0,4)] Tryz.func139 ?_
 refine V' ?_
 refine Gate.go (A' h0 Sec.size_ok fun t8 h1=>?_)
 refine CutN.of (fun s=>∃ d1_0 d1_1 d1_2,Sec.Valid.j0 t8 d1_0 d1_1 d1_2 = some r ∧ s = ⟨46,[(1,.ptr 0 0),(3,J t8)],[.box [J d1_0,VI' d1_1,VI' d1_2]]⟩) ?_ ?_
 refine C' h1 (fun h3=>?_) fun h3=>?_
 obtain ⟨t14,et14,h4⟩:=letk_elim h3
 refine Nm.mk ⟨t14,by rw [et14,List.length_map],?_⟩
 obtain ⟨t17,et17,h5⟩:=letk_elim h4
 refine Nm.mk ⟨t17,by rw [et17,List.length_map],?_⟩
 refine C' h5 (fun h7=>?_) fun h7=>?_
 refine C' h7 (fun h9=>?_) fun h9=>?_
 obtain ⟨t28,et28,h10⟩:=bind_elim h9
 refine Gate.go ?_
 refine CallN.by (v:=.lit (.bool t28)) (Slcs.ContainsFunc___int_int__ok (show List.all [] pureQ.pureQ0 = true from rfl) (fun _ _ h=>Sec.Valid_1_ok h) et28) rfl rfl ?_
 rcases t28 with _ | _
 have h11:=bif_f h10
 exact B' [0] ⟨_,_,_,h11,rfl⟩
 have h11:=bif_t h10
 exact R' (E:=E1') h11
 exact R' (E:=E1') h9
 exact R' (E:=E1') h7
 exact R' (E:=E1') h3
 rintro s ⟨_,_,_,hj0,rfl⟩
 unfold Sec.Valid.j0 at hj0
 refine C' hj0 (fun hj2=>?_) fun hj2=>?_
 refine C' hj2 (fun hj4=>?_) fun hj4=>?_
 obtain ⟨⟨_,_⟩,et37,hj5⟩:=bind_elim hj4
 refine Gate.go ?_
 refine Z' (Sec.ends_ok et37) ?_
 refine C' hj5 (fun hj7=>?_) fun hj7=>?_
 exact R' (E:=E1') hj7
 refine N' hj7 fun _ hj8=>?_
 exact R' (E:=E1') hj8
 exact R' (E:=E1') hj4
 exact R' (E:=E1') hj2
noncomputable def Sec.Size (d0:api.Desc):Option (Int × Int) :=
 Option.bind (Sec.Valid (⟨d0.Base,d0.Extents,d0.Strides⟩:api.Desc)) fun t5 =>
 letk (!t5) fun t6 =>
 bif t6 then
 some (0,2)
 else
 Option.bind (Sec.size d0.Extents) fun t9 =>
 some (t9,0)
theorem Sec.Size_ok {d0:api.Desc} {r:Int × Int} (h0:Sec.Size d0 = some r):Gives Tryz.prog 106 [api.Desc.enc d0] (.tup [J r.1,J r.2]):=by
 unfold Sec.Size at h0
 refine W' [] Tryz.func106 ?_
 refine V' ?_
 refine Gate.go (A' h0 Sec.Valid_ok fun _ h1=>?_)
 refine C' h1 (fun h3=>?_) fun h3=>?_
 refine Gate.go (A' h3 Sec.size_ok fun _ h4=>?_)
 exact R' (E:=E3') h4
 exact R' (E:=E3') h3
noncomputable def Arr.size (shape0:List Int):Option Int :=
 Option.bind (Sec.Whole shape0) fun (t9_0,t9_1) =>
 letk (t9_1 != (0:Int)) fun t13 =>
 bif t13 then
 some (-1)
 else
 Option.bind (Sec.Size (⟨t9_0.Base,t9_0.Extents,t9_0.Strides⟩:api.Desc)) fun (t16_0,_) =>
 some t16_0
theorem Arr.size_ok {shape0:List Int} {r:Int} (h0:Arr.size shape0 = some r):Gives Tryz.prog 51 [VI' shape0] (J r):=by
 unfold Arr.size at h0
 refine W' [] Tryz.func51 ?_
 obtain ⟨⟨_,_⟩,et9,h1⟩:=bind_elim h0
 refine Gate.go ?_
 refine Z' (Sec.Whole_ok et9) ?_
 refine V' ?_
 refine V' ?_
 refine C' h1 (fun h3=>?_) fun h3=>?_
 obtain ⟨⟨_,_⟩,et16,h4⟩:=bind_elim h3
 refine Gate.go ?_
 refine Z' (Sec.Size_ok et16) ?_
 exact R' (E:=E2') h4
 exact R' (E:=E2') h3
noncomputable def Arr.bytes (kind0:Int):Option Int :=
 letk (kind0 == (3:Int)) fun t5 =>
 bif t5 then
 some 4
 else
 letk (kind0 == (4:Int)) fun t7 =>
 bif t7 then
 some 8
 else
 some 0
theorem Arr.bytes_ok {kind0 r:Int} (h0:Arr.bytes kind0 = some r):Gives Tryz.prog 109 [J kind0] (J r):=by
 unfold Arr.bytes at h0
 refine W' [] Tryz.func109 ?_
 refine C' h0 (fun h2=>?_) fun h2=>?_
 refine C' h2 (fun h4=>?_) fun h4=>?_
 exact R' (E:=E2') h4
 exact R' (E:=E2') h4
 exact R' (E:=E2') h2
noncomputable def Flt.of (kind0:Int):Option (float.shape × Bool) :=
 letk (kind0 == (2:Int)) fun t6 =>
 bif t6 then
 some ((⟨11,5⟩:float.shape),true)
 else
 letk (kind0 == (4:Int)) fun t9 =>
 bif t9 then
 some ((⟨24,8⟩:float.shape),true)
 else
 letk (kind0 == (8:Int)) fun t12 =>
 bif t12 then
 some ((⟨53,11⟩:float.shape),true)
 else
 some ((⟨0,0⟩:float.shape),false)
abbrev E4':float.shape × Bool → AV:=fun r=>(.tup [float.shape.enc r.1,.lit (.bool r.2)])
theorem Flt.of_ok {kind0:Int} {r:float.shape × Bool} (h0:Flt.of kind0 = some r):Gives Tryz.prog 140 [J kind0] (.tup [float.shape.enc r.1,.lit (.bool r.2)]):=by
 unfold Flt.of at h0
 refine W' [] Tryz.func140 ?_
 refine V' ?_
 refine C' h0 (fun h2=>?_) fun h2=>?_
 refine C' h2 (fun h4=>?_) fun h4=>?_
 refine C' h4 (fun h6=>?_) fun h6=>?_
 refine Gate.go ?_
 refine V' ?_
 refine V' ?_
 exact R' (E:=E4') h6
 refine Gate.go ?_
 refine V' ?_
 refine V' ?_
 exact R' (E:=E4') h6
 refine Gate.go ?_
 refine V' ?_
 refine V' ?_
 exact R' (E:=E4') h4
 refine Gate.go ?_
 refine V' ?_
 refine V' ?_
 exact R' (E:=E4') h2
noncomputable def Flt.shape.top (s0:float.shape):Option Int :=
 chk (0 ≤ s0.w) <|
 letk (IntKind.u64.wrap ((1:Int) * 2 ^ (min s0.w.toNat (IntKind.u64).bits))) fun t5 =>
 letk (IntKind.u64.wrap (t5 - (1:Int))) fun t6 =>
 some t6
abbrev E5':Int → AV:=fun r=>(U r)
theorem Flt.shape.top_ok {s0:float.shape} {r:Int} (h0:Flt.shape.top s0 = some r):Gives Tryz.prog 189 [float.shape.enc s0] (U r):=by
 unfold Flt.shape.top at h0
 refine W' [] Tryz.func189 ?_
 refine V' ?_
 refine S' h0 fun h1=>?_
 refine N' h1 fun _ h2=>?_
 refine N' h2 fun _ h3=>?_
 exact R' (E:=E5') h3
noncomputable def Flt.shape.bias (s0:float.shape):Option Int :=
 letk (IntKind.i64.wrap (s0.w - (1:Int))) fun t5 =>
 chk (0 ≤ t5) <|
 letk (IntKind.i64.wrap ((1:Int) * 2 ^ (min t5.toNat (IntKind.i64).bits))) fun t6 =>
 letk (IntKind.i64.wrap (t6 - (1:Int))) fun t7 =>
 some t7
theorem Flt.shape.bias_ok {s0:float.shape} {r:Int} (h0:Flt.shape.bias s0 = some r):Gives Tryz.prog 191 [float.shape.enc s0] (J r):=by
 unfold Flt.shape.bias at h0
 refine W' [] Tryz.func191 ?_
 refine V' ?_
 refine N' h0 fun _ h1=>?_
 refine S' h1 fun h2=>?_
 refine N' h2 fun _ h3=>?_
 refine N' h3 fun _ h4=>?_
 exact R' (E:=E2') h4
noncomputable def Flt.shape.least (s0:float.shape):Option Int :=
 Option.bind (Flt.shape.bias (⟨s0.p,s0.w⟩:float.shape)) fun t4 =>
 letk (IntKind.i64.wrap ((2:Int) - t4)) fun t5 =>
 letk (IntKind.i64.wrap (t5 - s0.p)) fun t8 =>
 some t8
theorem Flt.shape.least_ok {s0:float.shape} {r:Int} (h0:Flt.shape.least s0 = some r):Gives Tryz.prog 190 [float.shape.enc s0] (J r):=by
 unfold Flt.shape.least at h0
 refine W' [] Tryz.func190 ?_
 refine V' ?_
 refine DrawB.ofG [none,none,none,none,none,none,none] Tryz_mixed (by kernel_rfl) (by kernel_rfl) ?_
 refine D' rfl ?_
 refine DC' h0 (fun e=>Z' (Flt.shape.bias_ok e) rfl) fun _ h1=>?_
 refine DN' h1 (fun e=>n' e rfl) fun _ h2=>?_
 refine D' rfl (D' rfl ?_)
 refine DN' h2 (fun e=>n' e rfl) fun _ h3=>?_
 refine D' rfl ?_
 exact R' (E:=E2') h3
noncomputable def Flt.shape.read.j2 (t41 t48 s2_0_1 s2_1_1 t4_0_1 t4_1_1 t4_2_1 t4_3_1 x8_0 x8_1 x8_2 x8_3:Int) (t83:Bool):Option (float.number × Bool) :=
 bif t83 then
 some ((⟨0,x8_1,x8_2,x8_3⟩:float.number),true)
 else
 letk (t41 == (0:Int)) fun t93 =>
 bif t93 then
 Option.bind (Flt.shape.least (⟨s2_0_1,s2_1_1⟩:float.shape)) fun t96 =>
 some ((⟨1,x8_1,t48,t96⟩:float.number),true)
 else
 letk (IntKind.i64.wrap (s2_0_1 - (1:Int))) fun t52 =>
 chk (0 ≤ t52) <|
 letk (IntKind.u64.wrap ((1:Int) * 2 ^ (min t52.toNat (IntKind.u64).bits))) fun t53 =>
 letk (IntKind.u64.wrap (BitVec.ofInt (IntKind.u64).bits t48 ||| BitVec.ofInt (IntKind.u64).bits t53).toNat) fun t54 =>
 letk (IntKind.i64.wrap t41) fun t56 =>
 Option.bind (Flt.shape.bias (⟨s2_0_1,s2_1_1⟩:float.shape)) fun t58 =>
 letk (IntKind.i64.wrap (t56 - t58)) fun t59 =>
 letk (IntKind.i64.wrap (t59 - s2_0_1)) fun t62 =>
 letk (IntKind.i64.wrap (t62 + (1:Int))) fun t63 =>
 some ((⟨1,x8_1,t54,t63⟩:float.number),true)
noncomputable def Flt.shape.read.j1 (t41 t48 s2_0_1 s2_1_1 t4_0_1 t4_1_1 t4_2_1 t4_3_1 x8_0 x8_1 x8_2 x8_3:Int) (t67:Bool):Option (float.number × Bool) :=
 bif t67 then
 some ((⟨2,x8_1,x8_2,x8_3⟩:float.number),true)
 else
 Option.bind (Flt.shape.top (⟨s2_0_1,s2_1_1⟩:float.shape)) fun t80 =>
 letk (t41 == t80) fun t81 =>
 bif t81 then
 some ((⟨3,x8_1,x8_2,x8_3⟩:float.number),true)
 else
 letk (t41 == (0:Int)) fun t85 =>
 bif t85 then
 letk (t48 == (0:Int)) fun t88 =>
 Flt.shape.read.j2 t41 t48 s2_0_1 s2_1_1 t4_0_1 t4_1_1 t4_2_1 t4_3_1 x8_0 x8_1 x8_2 x8_3 t88
 else
 Flt.shape.read.j2 t41 t48 s2_0_1 s2_1_1 t4_0_1 t4_1_1 t4_2_1 t4_3_1 x8_0 x8_1 x8_2 x8_3 false
noncomputable def Flt.shape.read.j0 (t12 t17 s2_0 s2_1 t4_0 t4_1 t4_2 t4_3:Int):Option (float.number × Bool) :=
 letk (IntKind.i64.wrap (t17 - (1:Int))) fun t29 =>
 chk (0 ≤ t29) <|
 letk ((IntKind.u64,t12.fdiv (2 ^ (min t29.toNat (IntKind.u64).bits))).2) fun t30 =>
 letk (IntKind.u64.wrap (BitVec.ofInt (IntKind.u64).bits t30 &&& BitVec.ofInt (IntKind.u64).bits (1:Int)).toNat) fun t31 =>
 letk (IntKind.i64.wrap t31) fun t32 =>
 letk (IntKind.i64.wrap (s2_0 - (1:Int))) fun t37 =>
 chk (0 ≤ t37) <|
 letk ((IntKind.u64,t12.fdiv (2 ^ (min t37.toNat (IntKind.u64).bits))).2) fun t38 =>
 Option.bind (Flt.shape.top (⟨s2_0,s2_1⟩:float.shape)) fun t40 =>
 letk (IntKind.u64.wrap (BitVec.ofInt (IntKind.u64).bits t38 &&& BitVec.ofInt (IntKind.u64).bits t40).toNat) fun t41 =>
 letk (IntKind.i64.wrap (s2_0 - (1:Int))) fun t45 =>
 chk (0 ≤ t45) <|
 letk (IntKind.u64.wrap ((1:Int) * 2 ^ (min t45.toNat (IntKind.u64).bits))) fun t46 =>
 letk (IntKind.u64.wrap (t46 - (1:Int))) fun t47 =>
 letk (IntKind.u64.wrap (BitVec.ofInt (IntKind.u64).bits t12 &&& BitVec.ofInt (IntKind.u64).bits t47).toNat) fun t48 =>
 Option.bind (Flt.shape.top (⟨s2_0,s2_1⟩:float.shape)) fun t70 =>
 letk (t41 == t70) fun t71 =>
 bif t71 then
 letk (t48 == (0:Int)) fun t74 =>
 Flt.shape.read.j1 t41 t48 s2_0 s2_1 t4_0 t4_1 t4_2 t4_3 0 t32 0 0 t74
 else
 Flt.shape.read.j1 t41 t48 s2_0 s2_1 t4_0 t4_1 t4_2 t4_3 0 t32 0 0 false
noncomputable def Flt.shape.read.j3 (s0:float.shape) (t12 t17:Int) (t25:Bool):Option (float.number × Bool) :=
 bif t25 then
 some ((⟨0,0,0,0⟩:float.number),false)
 else
 Flt.shape.read.j0 t12 t17 s0.p s0.w 0 0 0 0
noncomputable def Flt.shape.read (s0:float.shape) (a1:Int):Option (float.number × Bool) :=
 letk (IntKind.u64.wrap a1) fun t12 =>
 letk (IntKind.i64.wrap (s0.p + s0.w)) fun t17 =>
 letk (decide (t17 < (64:Int))) fun t19 =>
 bif t19 then
 chk (0 ≤ t17) <|
 letk ((IntKind.u64,t12.fdiv (2 ^ (min t17.toNat (IntKind.u64).bits))).2) fun t23 =>
 letk (t23 != (0:Int)) fun t24 =>
 Flt.shape.read.j3 s0 t12 t17 t24
 else
 Flt.shape.read.j3 s0 t12 t17 false
abbrev E6':float.number × Bool → AV:=fun r=>(.tup [float.number.enc r.1,.lit (.bool r.2)])
theorem Flt.shape.read_ok {s0:float.shape} {a1:Int} {r:float.number × Bool} (h0:Flt.shape.read s0 a1 = some r):Gives Tryz.prog 141 [float.shape.enc s0,J a1] (.tup [float.number.enc r.1,.lit (.bool r.2)]):=by
 unfold Flt.shape.read at h0
 refine W' [(0,5),(77,19),(93,27),(35,9)] Tryz.func141 ?_
 refine V' ?_
 refine V' ?_
 refine N' h0 fun t12 h1=>?_
 refine N' h1 fun t17 h2=>?_
 refine CutN.of (fun s=>∃ s2_0 s2_1 t4_0 t4_1 t4_2 t4_3,Flt.shape.read.j0 t12 t17 s2_0 s2_1 t4_0 t4_1 t4_2 t4_3 = some r ∧ s = ⟨101,[(2,.ptr 0 0),(4,.ptr 1 0),(6,U t12),(7,J t17)],[.box [J s2_0,J s2_1],.box [J t4_0,J t4_1,U t4_2,J t4_3]]⟩) ?_ ?_
 refine CutN.of (fun s=>∃ t25,Flt.shape.read.j3 s0 t12 t17 t25 = some r ∧ s = ⟨101,[(2,.ptr 0 0),(4,.ptr 1 0),(6,U t12),(7,J t17),(25,.lit (.bool t25))],[.box [J s0.p,J s0.w],.box [J 0,J 0,U 0,J 0]]⟩) ?_ ?_
 refine C' h2 (fun h4=>?_) fun h4=>?_
 exact B' [0,1] ⟨_,h4,rfl⟩
 refine S' h4 fun h5=>?_
 refine N' h5 fun _ h6=>?_
 refine N' h6 fun _ h7=>?_
 exact B' [0,1] ⟨_,h7,rfl⟩
 rintro s ⟨t25,hj0,rfl⟩
 unfold Flt.shape.read.j3 at hj0
 rcases t25 with _ | _
 have hj1:=bif_f hj0
 exact B' [0,1] ⟨_,_,_,_,_,_,hj1,rfl⟩
 have hj1:=bif_t hj0
 refine Gate.go ?_
 refine V' ?_
 refine V' ?_
 exact R' (E:=E6') hj1
 rintro s ⟨_,_,_,_,_,_,hj0,rfl⟩
 unfold Flt.shape.read.j0 at hj0
 refine N' hj0 fun _ hj1=>?_
 refine S' hj1 fun hj2=>?_
 refine N' hj2 fun _ hj3=>?_
 refine N' hj3 fun _ hj4=>?_
 refine N' hj4 fun _ hj5=>?_
 refine Gate.go ?_
 refine V' ?_
 refine V' ?_
 refine V' ?_
 refine L' [0,1,2] [2,4,6,8] ?_
 refine DrawB.ofG [none,none,none,none,none,none,none,none,none,none,none,none,none,none,none,none,none] Tryz_mixed (by kernel_rfl) (by kernel_rfl) ?_
 refine D' rfl (D' rfl (D' rfl ?_))
 refine DN' hj5 (fun e=>n' e rfl) fun _ hj6=>?_
 refine DS' hj6 (fun c e=>Side.mk c (n' e rfl)) fun _ hj8=>?_
 refine D' rfl ?_
 refine DC' hj8 (fun e=>Z' (Flt.shape.top_ok e) rfl) fun _ hj9=>?_
 refine DN' hj9 (fun e=>n' e rfl) fun t41 hj10=>?_
 refine D' rfl (D' rfl (D' rfl ?_))
 refine DN' hj10 (fun e=>n' e rfl) fun _ hj11=>?_
 refine DS' hj11 (fun c e=>Side.mk c (n' e rfl)) fun _ hj13=>?_
 refine DN' hj13 (fun e=>n' e rfl) fun _ hj14=>?_
 refine DN' hj14 (fun e=>n' e rfl) fun t48 hj15=>?_
 refine D' rfl (D' rfl ?_)
 refine CutN.of (fun s=>∃ s2_0_1 s2_1_1 t4_0_1 t4_1_1 t4_2_1 t4_3_1 x8_0 x8_1 x8_2 x8_3 t67,Flt.shape.read.j1 t41 t48 s2_0_1 s2_1_1 t4_0_1 t4_1_1 t4_2_1 t4_3_1 x8_0 x8_1 x8_2 x8_3 t67 = some r ∧ s = ⟨101,[(2,.ptr 0 0),(4,.ptr 1 0),(8,.ptr 2 0),(9,U t41),(10,U t48),(67,.lit (.bool t67))],[.box [J s2_0_1,J s2_1_1],.box [J t4_0_1,J t4_1_1,U t4_2_1,J t4_3_1],.box [J x8_0,J x8_1,U x8_2,J x8_3]]⟩) ?_ ?_
 refine Gate.go (A' hj15 Flt.shape.top_ok fun _ hj16=>?_)
 refine C' hj16 (fun hj18=>?_) fun hj18=>?_
 exact B' [0,1,2] ⟨_,_,_,_,_,_,_,_,_,_,_,hj18,rfl⟩
 refine N' hj18 fun _ hj19=>?_
 exact B' [0,1,2] ⟨_,_,_,_,_,_,_,_,_,_,_,hj19,rfl⟩
 rintro s ⟨s2_0_1,s2_1_1,t4_0_1,t4_1_1,t4_2_1,t4_3_1,x8_0,x8_1,x8_2,x8_3,t67,hj0,rfl⟩
 unfold Flt.shape.read.j1 at hj0
 rcases t67 with _ | _
 have hj1:=bif_f hj0
 refine Gate.go (A' hj1 Flt.shape.top_ok fun _ hj2=>?_)
 refine C' hj2 (fun hj4=>?_) fun hj4=>?_
 refine CutN.of (fun s=>∃ t83,Flt.shape.read.j2 t41 t48 s2_0_1 s2_1_1 t4_0_1 t4_1_1 t4_2_1 t4_3_1 x8_0 x8_1 x8_2 x8_3 t83 = some r ∧ s = ⟨101,[(2,.ptr 0 0),(4,.ptr 1 0),(8,.ptr 2 0),(9,U t41),(10,U t48),(83,.lit (.bool t83))],[.box [J s2_0_1,J s2_1_1],.box [J t4_0_1,J t4_1_1,U t4_2_1,J t4_3_1],.box [J x8_0,J x8_1,U x8_2,J x8_3]]⟩) ?_ ?_
 refine C' hj4 (fun hj6=>?_) fun hj6=>?_
 exact B' [0,1,2] ⟨_,hj6,rfl⟩
 refine N' hj6 fun _ hj7=>?_
 exact B' [0,1,2] ⟨_,hj7,rfl⟩
 rintro s ⟨t83,hj0,rfl⟩
 unfold Flt.shape.read.j2 at hj0
 rcases t83 with _ | _
 have hj1:=bif_f hj0
 refine C' hj1 (fun hj3=>?_) fun hj3=>?_
 refine L' [0,1,2] [2,4,8,9,10] ?_
 refine DrawB.ofFN 0 [.box [J s2_0_1,J s2_1_1],.box [J t4_0_1,J t4_1_1,U t4_2_1,J t4_3_1],.box [J x8_0,J x8_1,U x8_2,J x8_3]] 3 3 [[],[0],[0],[],[],[],[],[],[0],[],[],[0],[0],[],[],[2],[2],[2],[2],[2],[2]] [[],[],[],[],[],[],[],[],[],[],[],[],[],[],[],[],[2],[],[2],[],[2]] [none,none,none,none,none,none,none,none,none,none,none,none,none,none,none,none,none,none,none,none,none] Tryz_mixed (by kernel_rfl) rfl rfl rfl (by kernel_rfl) ?_
 refine FNode.no (W:=[]) (U t48) ?_ rfl ?_
 rfl
 refine FNode.rd (F:=[0]) (W:=[]) (.ptr 0 0) ?_ rfl rfl ?_
 rfl
 refine FNode.rd (F:=[0]) (W:=[]) (J s2_0_1) ?_ rfl rfl ?_
 rfl
 obtain ⟨t52,et52,hj4⟩:=letk_elim hj3
 refine FNode.no (W:=[]) (J t52) ?_ rfl ?_
 refine Nm.mk ⟨t52,et52,?_⟩
 rfl
 obtain ⟨chj5,hj5⟩:=chk_elim hj4
 obtain ⟨t53,et53,hj6⟩:=letk_elim hj5
 refine FNode.no (W:=[]) (U t53) ?_ rfl ?_
 refine Side.mk chj5 ?_
 refine Nm.mk ⟨t53,et53,?_⟩
 rfl
 obtain ⟨t54,et54,hj7⟩:=letk_elim hj6
 refine FNode.no (W:=[]) (U t54) ?_ rfl ?_
 refine Nm.mk ⟨t54,et54,?_⟩
 rfl
 refine FNode.no (W:=[]) (U t41) ?_ rfl ?_
 rfl
 obtain ⟨t56,et56,hj8⟩:=letk_elim hj7
 refine FNode.no (W:=[]) (J t56) ?_ rfl ?_
 refine Nm.mk ⟨t56,et56,?_⟩
 rfl
 refine FNode.rd (F:=[0]) (W:=[]) (.agg [J s2_0_1,J s2_1_1]) ?_ rfl rfl ?_
 rfl
 obtain ⟨t58,et58,hj9⟩:=bind_elim hj8
 refine FNode.no (W:=[]) (J t58) ?_ rfl ?_
 refine Z' (Flt.shape.bias_ok et58) ?_
 rfl
 obtain ⟨t59,et59,hj10⟩:=letk_elim hj9
 refine FNode.no (W:=[]) (J t59) ?_ rfl ?_
 refine Nm.mk ⟨t59,et59,?_⟩
 rfl
 refine FNode.rd (F:=[0]) (W:=[]) (.ptr 0 0) ?_ rfl rfl ?_
 rfl
 refine FNode.rd (F:=[0]) (W:=[]) (J s2_0_1) ?_ rfl rfl ?_
 rfl
 obtain ⟨t62,et62,hj11⟩:=letk_elim hj10
 refine FNode.no (W:=[]) (J t62) ?_ rfl ?_
 refine Nm.mk ⟨t62,et62,?_⟩
 rfl
 obtain ⟨t63,et63,hj12⟩:=letk_elim hj11
 refine FNode.no (W:=[]) (J t63) ?_ rfl ?_
 refine Nm.mk ⟨t63,et63,?_⟩
 rfl
 refine FNode.rd (F:=[2]) (W:=[]) (.ptr 2 0) ?_ rfl rfl ?_
 rfl
 refine FNode.pl (F:=[2]) (W:=[2]) (.undef) [.box [J s2_0_1,J s2_1_1],.box [J t4_0_1,J t4_1_1,U t4_2_1,J t4_3_1],.box [J 1,J x8_1,U x8_2,J x8_3]] ?_ rfl rfl rfl rfl ?_
 refine V' ?_
 rfl
 refine FNode.rd (F:=[2]) (W:=[]) (.ptr 2 2) ?_ rfl rfl ?_
 rfl
 refine FNode.pl (F:=[2]) (W:=[2]) (.undef) [.box [J s2_0_1,J s2_1_1],.box [J t4_0_1,J t4_1_1,U t4_2_1,J t4_3_1],.box [J 1,J x8_1,U t54,J x8_3]] ?_ rfl rfl rfl rfl ?_
 refine V' ?_
 rfl
 refine FNode.rd (F:=[2]) (W:=[]) (.ptr 2 3) ?_ rfl rfl ?_
 rfl
 refine FNode.pl (F:=[2]) (W:=[2]) (.undef) [.box [J s2_0_1,J s2_1_1],.box [J t4_0_1,J t4_1_1,U t4_2_1,J t4_3_1],.box [J 1,J x8_1,U t54,J t63]] ?_ rfl rfl rfl rfl ?_
 refine V' ?_
 rfl
 refine V' ?_
 exact R' (E:=E6') hj12
 refine Gate.go (A' hj3 Flt.shape.least_ok fun _ hj4=>?_)
 refine V' ?_
 refine V' ?_
 refine V' ?_
 refine V' ?_
 exact R' (E:=E6') hj4
 have hj1:=bif_t hj0
 refine V' ?_
 refine V' ?_
 exact R' (E:=E6') hj1
 refine V' ?_
 refine V' ?_
 exact R' (E:=E6') hj4
 have hj1:=bif_t hj0
 refine V' ?_
 refine V' ?_
 exact R' (E:=E6') hj1
noncomputable def Flt.Valid (kind0 a1:Int):Option Bool :=
 Option.bind (Flt.of kind0) fun (t9_0,t9_1) =>
 letk (!t9_1) fun t13 =>
 bif t13 then
 some false
 else
 Option.bind (Flt.shape.read (⟨t9_0.p,t9_0.w⟩:float.shape) a1) fun (_,t17_1) =>
 some t17_1
theorem Flt.Valid_ok {kind0 a1:Int} {r:Bool} (h0:Flt.Valid kind0 a1 = some r):Gives Tryz.prog 108 [J kind0,J a1] (.lit (.bool r)):=by
 unfold Flt.Valid at h0
 refine W' [] Tryz.func108 ?_
 obtain ⟨⟨_,_⟩,et9,h1⟩:=bind_elim h0
 refine Gate.go ?_
 refine Z' (Flt.of_ok et9) ?_
 refine V' ?_
 refine V' ?_
 refine C' h1 (fun h3=>?_) fun h3=>?_
 obtain ⟨⟨_,_⟩,et17,h4⟩:=bind_elim h3
 refine Gate.go ?_
 refine Z' (Flt.shape.read_ok et17) ?_
 exact R' (E:=E1') h4
 exact R' (E:=E1') h3
noncomputable def Arr.fits.j0 (kind0 n1:Int) (t22:Bool):Option Bool :=
 bif t22 then
 Option.bind (Arr.bytes kind0) fun t26 =>
 Option.bind (Flt.Valid t26 n1) fun t28 =>
 some t28
 else
 some false
noncomputable def Arr.fits (kind0 n1:Int):Option Bool :=
 letk (kind0 == (1:Int)) fun t7 =>
 bif t7 then
 letk (decide (n1 ≥ ((-2147483647):Int))) fun t9 =>
 bif t9 then
 letk (decide (n1 ≤ (2147483647:Int))) fun t12 =>
 some t12
 else
 some false
 else
 letk (kind0 == (2:Int)) fun t15 =>
 bif t15 then
 letk (n1 == (0:Int)) fun t17 =>
 bif t17 then
 some true
 else
 letk (n1 == (1:Int)) fun t20 =>
 some t20
 else
 letk (kind0 == (3:Int)) fun t23 =>
 bif t23 then
 Arr.fits.j0 kind0 n1 true
 else
 letk (kind0 == (4:Int)) fun t24 =>
 Arr.fits.j0 kind0 n1 t24
theorem Arr.fits_ok {kind0 n1:Int} {r:Bool} (h0:Arr.fits kind0 n1 = some r):Gives Tryz.prog 54 [J kind0,J n1] (.lit (.bool r)):=by
 unfold Arr.fits at h0
 refine W' [(32,17)] Tryz.func54 ?_
 refine C' h0 (fun h2=>?_) fun h2=>?_
 refine C' h2 (fun h4=>?_) fun h4=>?_
 refine CutN.of (fun s=>∃ t22,Arr.fits.j0 kind0 n1 t22 = some r ∧ s = ⟨29,[(0,J kind0),(1,J n1),(22,.lit (.bool t22))],[]⟩) ?_ ?_
 refine C' h4 (fun h6=>?_) fun h6=>?_
 refine N' h6 fun _ h7=>?_
 exact B' [] ⟨_,h7,rfl⟩
 exact B' [] ⟨_,h6,rfl⟩
 rintro s ⟨t22,hj0,rfl⟩
 unfold Arr.fits.j0 at hj0
 rcases t22 with _ | _
 have hj1:=bif_f hj0
 exact R' (E:=E1') hj1
 have hj1:=bif_t hj0
 refine Gate.go (A' hj1 Arr.bytes_ok fun _ hj2=>?_)
 refine Gate.go (A' hj2 Flt.Valid_ok fun _ hj3=>?_)
 exact R' (E:=E1') hj3
 refine C' h4 (fun h6=>?_) fun h6=>?_
 refine N' h6 fun _ h7=>?_
 exact R' (E:=E1') h7
 exact R' (E:=E1') h6
 refine C' h2 (fun h4=>?_) fun h4=>?_
 exact R' (E:=E1') h4
 refine N' h4 fun _ h5=>?_
 exact R' (E:=E1') h5
noncomputable def Arr.Valid_1 (n0:Int) (t1:api.Array):Option Bool :=
 Option.bind (Arr.fits t1.Kind n0) fun t7 =>
 letk (!t7) fun t8 =>
 some t8
theorem Arr.Valid_1_ok {n0:Int} {t1:api.Array} {r:Bool} (h0:Arr.Valid_1 n0 t1 = some r):Gives Tryz.prog 53 [J n0,.iptr (api.Array.enc t1)] (.lit (.bool r)):=by
 unfold Arr.Valid_1 at h0
 refine W' [] Tryz.func53 ?_
 refine Gate.go (A' h0 Arr.fits_ok fun _ h1=>?_)
 refine N' h1 fun _ h2=>?_
 exact R' (E:=E1') h2
noncomputable def Arr.Valid (a0:api.Array):Option Bool :=
 letk (decide (a0.Kind ≥ (1:Int))) fun t5 =>
 bif t5 then
 letk (decide (a0.Kind ≤ (4:Int))) fun t9 =>
 bif t9 then
 Option.bind (Arr.size a0.Shape) fun t14 =>
 letk ((a0.Elems.length:Int)) fun t17 =>
 letk (t14 == t17) fun t18 =>
 bif t18 then
 Option.bind (Slcs.ContainsFunc___int_int_ a0.Elems (fun z0_=>Arr.Valid_1 z0_ (⟨a0.Kind,a0.Shape,a0.Elems⟩:api.Array))) fun t24 =>
 letk (!t24) fun t25 =>
 some t25
 else
 some false
 else
 some false
 else
 some false
theorem Arr.Valid_ok {a0:api.Array} {r:Bool} (h0:Arr.Valid a0 = some r):Gives Tryz.prog 20 [api.Array.enc a0] (.lit (.bool r)):=by
 unfold Arr.Valid at h0
 refine W' [] Tryz.func20 ?_
 refine V' ?_
 refine DrawB.sees (Sees.of (Weak.objs (k:=27) (keep:=[]) (frz:=[0]) (m:=0) (ts:=[(1,.iptr (.agg [J a0.Kind,VI' a0.Shape,VI' a0.Elems]))]) (hs:=[]) rfl (by decide) rfl rfl ⟨rfl,fun _ h=>by cases h⟩ ⟨(.ptrFrz 0 _ (by decide) rfl rfl),trivial⟩)) ?_
 refine DrawB.ofG [none,none,none,none,some 6,some 6,some 6,none,none,some 11,some 11,some 11,some 11,some 11,some 11,some 11,none,none,some 20,some 20,some 20,some 20,some 20,none,none] Tryz_mixed (by kernel_rfl) (by kernel_rfl) ?_
 refine D' rfl (D' rfl ?_)
 refine DN' h0 (fun e=>n' e rfl) fun t5 h1=>?_
 refine D' rfl ?_
 rcases t5 with _ | _
 have h2:=bif_f h1
 refine D' rfl (D' rfl (D' rfl (D' rfl (D' rfl (D' rfl ?_)))))
 exact R' (E:=E1') h2
 have h2:=bif_t h1
 refine D' rfl (D' rfl ?_)
 refine DN' h2 (fun e=>n' e rfl) fun t9 h3=>?_
 refine D' rfl (D' rfl ?_)
 rcases t9 with _ | _
 have h4:=bif_f h3
 refine D' rfl (D' rfl (D' rfl (D' rfl ?_)))
 exact R' (E:=E1') h4
 have h4:=bif_t h3
 refine D' rfl (D' rfl ?_)
 refine DC' h4 (fun e=>Z' (Arr.size_ok e) rfl) fun _ h5=>?_
 refine D' rfl (D' rfl ?_)
 obtain ⟨t17,et17,h6⟩:=letk_elim h5
 refine DNodeB.of (J t17) ?_ ?_
 refine Nm.mk ⟨t17,by rw [et17,List.length_map],?_⟩
 rfl
 refine DN' h6 (fun e=>n' e rfl) fun t18 h7=>?_
 refine D' rfl (D' rfl ?_)
 rcases t18 with _ | _
 have h8:=bif_f h7
 refine D' rfl (D' rfl ?_)
 exact R' (E:=E1') h8
 have h8:=bif_t h7
 refine D' rfl (D' rfl (D' rfl ?_))
 obtain ⟨t24,et24,h9⟩:=bind_elim h8
 refine DNodeB.of (.lit (.bool t24)) ?_ ?_
 refine CallN.by (v:=.lit (.bool t24)) (Slcs.ContainsFunc___int_int__ok (show List.all [.iptr (.agg [J a0.Kind,VI' a0.Shape,VI' a0.Elems])] pureQ.pureQ0 = true from rfl) (fun _ _ h=>Arr.Valid_1_ok h) et24) rfl rfl ?_
 rfl
 refine DN' h9 (fun e=>n' e rfl) fun _ h10=>?_
 refine D' rfl (D' rfl ?_)
 exact R' (E:=E1') h10
noncomputable def Arr.Names :Option ((List ByteArray)) :=
 some ([⟨#[97,98,115]⟩,⟨#[97,108,108]⟩,⟨#[97,110,121]⟩,⟨#[99,111,117,110,116]⟩,⟨#[99,115,104,105,102,116]⟩,⟨#[100,98,108,101]⟩,⟨#[105,110,116]⟩,⟨#[109,97,116,109,117,108]⟩,⟨#[109,97,120]⟩,⟨#[109,97,120,108,111,99]⟩,⟨#[109,97,120,118,97,108]⟩,⟨#[109,101,114,103,101]⟩,⟨#[109,105,110]⟩,⟨#[109,105,110,108,111,99]⟩,⟨#[109,105,110,118,97,108]⟩,⟨#[109,111,100]⟩,⟨#[112,97,99,107]⟩,⟨#[112,114,111,100,117,99,116]⟩,⟨#[114,101,97,108]⟩,⟨#[114,101,115,104,97,112,101]⟩,⟨#[115,104,97,112,101]⟩,⟨#[115,105,122,101]⟩,⟨#[115,112,114,101,97,100]⟩,⟨#[115,113,114,116]⟩,⟨#[115,117,109]⟩,⟨#[116,114,97,110,115,112,111,115,101]⟩])
theorem Arr.Names_ok {r:(List ByteArray)} (h0:Arr.Names = some r):Gives Tryz.prog 16 [] (.vs 1 (r.map (eS))):=by
 unfold Arr.Names at h0
 refine W' [] Tryz.func16 ?_
 refine Gate.go ?_
 refine Nm.mk ⟨([⟨#[97,98,115]⟩,⟨#[97,108,108]⟩,⟨#[97,110,121]⟩,⟨#[99,111,117,110,116]⟩,⟨#[99,115,104,105,102,116]⟩,⟨#[100,98,108,101]⟩,⟨#[105,110,116]⟩,⟨#[109,97,116,109,117,108]⟩,⟨#[109,97,120]⟩,⟨#[109,97,120,108,111,99]⟩,⟨#[109,97,120,118,97,108]⟩,⟨#[109,101,114,103,101]⟩,⟨#[109,105,110]⟩,⟨#[109,105,110,108,111,99]⟩,⟨#[109,105,110,118,97,108]⟩,⟨#[109,111,100]⟩,⟨#[112,97,99,107]⟩,⟨#[112,114,111,100,117,99,116]⟩,⟨#[114,101,97,108]⟩,⟨#[114,101,115,104,97,112,101]⟩,⟨#[115,104,97,112,101]⟩,⟨#[115,105,122,101]⟩,⟨#[115,112,114,101,97,100]⟩,⟨#[115,113,114,116]⟩,⟨#[115,117,109]⟩,⟨#[116,114,97,110,115,112,111,115,101]⟩]).map (eS),rfl,?_⟩
 have eh0_0:=Option.some.inj h0
 subst eh0_0
 exact Returns.frozen (r:=.vs 1 (([⟨#[97,98,115]⟩,⟨#[97,108,108]⟩,⟨#[97,110,121]⟩,⟨#[99,111,117,110,116]⟩,⟨#[99,115,104,105,102,116]⟩,⟨#[100,98,108,101]⟩,⟨#[105,110,116]⟩,⟨#[109,97,116,109,117,108]⟩,⟨#[109,97,120]⟩,⟨#[109,97,120,108,111,99]⟩,⟨#[109,97,120,118,97,108]⟩,⟨#[109,101,114,103,101]⟩,⟨#[109,105,110]⟩,⟨#[109,105,110,108,111,99]⟩,⟨#[109,105,110,118,97,108]⟩,⟨#[109,111,100]⟩,⟨#[112,97,99,107]⟩,⟨#[112,114,111,100,117,99,116]⟩,⟨#[114,101,97,108]⟩,⟨#[114,101,115,104,97,112,101]⟩,⟨#[115,104,97,112,101]⟩,⟨#[115,105,122,101]⟩,⟨#[115,112,114,101,97,100]⟩,⟨#[115,113,114,116]⟩,⟨#[115,117,109]⟩,⟨#[116,114,97,110,115,112,111,115,101]⟩]).map (eS))) [0] rfl rfl (WV.all (k:=0) (by decide) rfl) ⟨rfl,rfl⟩
noncomputable def Slcs.Index___string_string_.s0 (s0:List ByteArray) (v1:ByteArray) (t7 t8:Int):Option (Int ⊕ Int) :=
 letk (decide (t8 < t7)) fun t9 =>
 bif t9 then
 chk (0 ≤ t8) <|
 Option.bind (s0[t8.toNat]?) fun t14 =>
 letk (v1.toList == t14.toList) fun t16 =>
 bif t16 then
 some (.inr t8)
 else
 letk (IntKind.i64.wrap (t8 + (1:Int))) fun t18 =>
 some (.inl t18)
 else
 some (.inr (-1))
noncomputable def Slcs.Index___string_string_.l0 (s0:List ByteArray) (v1:ByteArray) (t7 t8:Int):Option Int:=loopO (fun v:Int=>Slcs.Index___string_string_.s0 s0 v1 t7 v) t8
noncomputable def Slcs.Index___string_string_ (s0:List ByteArray) (v1:ByteArray):Option Int :=
 letk ((s0.length:Int)) fun t7 =>
 Slcs.Index___string_string_.l0 s0 v1 t7 0
theorem Slcs.Index___string_string__ok {s0:List ByteArray} {v1:ByteArray} {r:Int} (h0:Slcs.Index___string_string_ s0 v1 = some r):Gives Tryz.prog 104 [.vs 1 (s0.map (eS)),.lit (.string v1)] (J r):=by
 unfold Slcs.Index___string_string_ at h0
 refine W' [] Tryz.func104 ?_
 obtain ⟨t7,et7,h1⟩:=letk_elim h0
 refine Nm.mk ⟨t7,by rw [et7,List.length_map],?_⟩
 unfold Slcs.Index___string_string_.l0 at h1
 refine LoopB.of (σ:=Int) (ρ:=Int) (fun v:Int=>Slcs.Index___string_string_.s0 s0 v1 t7 v) (fun v=>(⟨19,[(0,.vs 1 (s0.map (eS))),(1,.lit (.string v1)),(7,J t7),(8,J v)],[]⟩:St)) 0 h1 (B' [] rfl) ?_
 rintro K1 t8 x1 hs0_0 hl1 hr1
 replace hs0_0:Slcs.Index___string_string_.s0 s0 v1 t7 t8 = some x1:=hs0_0
 unfold Slcs.Index___string_string_.s0 at hs0_0
 refine C' hs0_0 (fun hs0_2=>?_) fun hs0_2=>?_
 have ehs0_2u_0:=hr1 _ (Option.some.inj hs0_2).symm
 have hs0_2u:=congrArg some ehs0_2u_0
 exact R' (E:=E2') hs0_2u
 obtain ⟨chs0_3,hs0_3⟩:=chk_elim hs0_2
 obtain ⟨_,et14,hs0_4⟩:=bind_elim hs0_3
 refine Side.mk chs0_3 ?_
 refine At.by et14 ?_
 refine C' hs0_4 (fun hs0_6=>?_) fun hs0_6=>?_
 refine N' hs0_6 fun _ hs0_7=>?_
 exact B' [] ⟨_,hl1 _ (Option.some.inj hs0_7).symm,rfl⟩
 have ehs0_6_0:=hr1 _ (Option.some.inj hs0_6).symm
 subst ehs0_6_0
 exact Returns.pure (r:=J t8) rfl rfl rfl rfl ⟨rfl,rfl⟩
noncomputable def Slcs.Contains___string_string_ (s0:List ByteArray) (v1:ByteArray):Option Bool :=
 Option.bind (Slcs.Index___string_string_ s0 v1) fun t7 =>
 letk (decide (t7 ≥ (0:Int))) fun t8 =>
 some t8
theorem Slcs.Contains___string_string__ok {s0:List ByteArray} {v1:ByteArray} {r:Bool} (h0:Slcs.Contains___string_string_ s0 v1 = some r):Gives Tryz.prog 50 [.vs 1 (s0.map (eS)),.lit (.string v1)] (.lit (.bool r)):=by
 unfold Slcs.Contains___string_string_ at h0
 refine W' [] Tryz.func50 ?_
 refine Gate.go (A' h0 Slcs.Index___string_string__ok fun _ h1=>?_)
 refine N' h1 fun _ h2=>?_
 exact R' (E:=E1') h2
noncomputable def Arr.Arity.j0 (name0:ByteArray):Option (Int × Int) :=
 Option.bind (Arr.Names) fun t16 =>
 Option.bind (Slcs.Contains___string_string_ t16 name0) fun t18 =>
 bif t18 then
 some (1,1)
 else
 some (0,0)
noncomputable def Arr.Arity.j1 (name0:ByteArray) (t5:Bool):Option (Int × Int) :=
 bif t5 then
 some (2,2)
 else
 letk (name0.toList == (⟨#[109,101,114,103,101]⟩:ByteArray).toList) fun t15 =>
 bif t15 then
 some (3,3)
 else
 Arr.Arity.j0 name0
noncomputable def Arr.Arity (name0:ByteArray):Option (Int × Int) :=
 letk (name0.toList == (⟨#[109,97,120]⟩:ByteArray).toList) fun t6 =>
 bif t6 then
 Arr.Arity.j1 name0 true
 else
 letk (name0.toList == (⟨#[109,105,110]⟩:ByteArray).toList) fun t7 =>
 bif t7 then
 Arr.Arity.j1 name0 true
 else
 letk (name0.toList == (⟨#[109,111,100]⟩:ByteArray).toList) fun t8 =>
 bif t8 then
 Arr.Arity.j1 name0 true
 else
 letk (name0.toList == (⟨#[99,115,104,105,102,116]⟩:ByteArray).toList) fun t9 =>
 bif t9 then
 Arr.Arity.j1 name0 true
 else
 letk (name0.toList == (⟨#[109,97,116,109,117,108]⟩:ByteArray).toList) fun t10 =>
 bif t10 then
 Arr.Arity.j1 name0 true
 else
 letk (name0.toList == (⟨#[112,97,99,107]⟩:ByteArray).toList) fun t11 =>
 bif t11 then
 Arr.Arity.j1 name0 true
 else
 letk (name0.toList == (⟨#[114,101,115,104,97,112,101]⟩:ByteArray).toList) fun t12 =>
 bif t12 then
 Arr.Arity.j1 name0 true
 else
 letk (name0.toList == (⟨#[115,112,114,101,97,100]⟩:ByteArray).toList) fun t13 =>
 Arr.Arity.j1 name0 t13
theorem Arr.Arity_ok {name0:ByteArray} {r:Int × Int} (h0:Arr.Arity name0 = some r):Gives Tryz.prog 18 [.lit (.string name0)] (.tup [J r.1,J r.2]):=by
 unfold Arr.Arity at h0
 refine W' [(0,13),(15,21)] Tryz.func18 ?_
 refine CutN.of (fun s=>Arr.Arity.j0 name0 = some r ∧ s = ⟨19,[(0,.lit (.string name0))],[]⟩) ?_ ?_
 refine CutN.of (fun s=>∃ t5,Arr.Arity.j1 name0 t5 = some r ∧ s = ⟨19,[(0,.lit (.string name0)),(4,.lit (.string name0)),(5,.lit (.bool t5))],[]⟩) ?_ ?_
 refine C' h0 (fun h2=>?_) fun h2=>?_
 refine C' h2 (fun h4=>?_) fun h4=>?_
 refine C' h4 (fun h6=>?_) fun h6=>?_
 refine C' h6 (fun h8=>?_) fun h8=>?_
 refine C' h8 (fun h10=>?_) fun h10=>?_
 refine C' h10 (fun h12=>?_) fun h12=>?_
 refine C' h12 (fun h14=>?_) fun h14=>?_
 refine N' h14 fun _ h15=>?_
 exact B' [] ⟨_,h15,rfl⟩
 exact B' [] ⟨_,h14,rfl⟩
 exact B' [] ⟨_,h12,rfl⟩
 exact B' [] ⟨_,h10,rfl⟩
 exact B' [] ⟨_,h8,rfl⟩
 exact B' [] ⟨_,h6,rfl⟩
 exact B' [] ⟨_,h4,rfl⟩
 exact B' [] ⟨_,h2,rfl⟩
 rintro s ⟨t5,hj0,rfl⟩
 unfold Arr.Arity.j1 at hj0
 rcases t5 with _ | _
 have hj1:=bif_f hj0
 refine C' hj1 (fun hj3=>?_) fun hj3=>?_
 exact B' [] ⟨hj3,rfl⟩
 exact R' (E:=E3') hj3
 have hj1:=bif_t hj0
 exact R' (E:=E3') hj1
 rintro s ⟨hj0,rfl⟩
 unfold Arr.Arity.j0 at hj0
 refine Gate.go (A' hj0 Arr.Names_ok fun _ hj1=>?_)
 refine Gate.go (A' hj1 Slcs.Contains___string_string__ok fun t18 hj2=>?_)
 rcases t18 with _ | _
 have hj3:=bif_f hj2
 exact R' (E:=E3') hj3
 have hj3:=bif_t hj2
 exact R' (E:=E3') hj3
noncomputable def Slcs.IndexFunc___quadrat_api.Array_quadrat_api.Array_.s0 (s0:List api.Array) (t7:Int) (f1:api.Array → Option Bool) (t8:Int):Option (Int ⊕ Int) :=
 letk (decide (t8 < t7)) fun t9 =>
 bif t9 then
 chk (0 ≤ t8) <|
 Option.bind (s0[t8.toNat]?) fun t14 =>
 Option.bind (f1 t14) fun t16 =>
 bif t16 then
 some (.inr t8)
 else
 letk (IntKind.i64.wrap (t8 + (1:Int))) fun t18 =>
 some (.inl t18)
 else
 some (.inr (-1))
noncomputable def Slcs.IndexFunc___quadrat_api.Array_quadrat_api.Array_.l0 (s0:List api.Array) (t7:Int) (f1:api.Array → Option Bool) (t8:Int):Option Int:=loopO (fun v:Int=>Slcs.IndexFunc___quadrat_api.Array_quadrat_api.Array_.s0 s0 t7 f1 v) t8
noncomputable def Slcs.IndexFunc___quadrat_api.Array_quadrat_api.Array_ (s0:List api.Array) (f1:api.Array → Option Bool):Option Int :=
 letk ((s0.length:Int)) fun t7 =>
 Slcs.IndexFunc___quadrat_api.Array_quadrat_api.Array_.l0 s0 t7 f1 0
theorem Slcs.IndexFunc___quadrat_api.Array_quadrat_api.Array__ok {s0:List api.Array} {f1:api.Array → Option Bool} {r:Int} {f1g:Nat} {f1gc:List AV} (hf1gc:f1gc.all pureQ.pureQ0 = true) (hf1:∀ a0 r,f1 a0 = some r → Gives Tryz.prog f1g ([api.Array.enc a0] ++ f1gc) (.lit (.bool r))) (h0:Slcs.IndexFunc___quadrat_api.Array_quadrat_api.Array_ s0 f1 = some r):Gives Tryz.prog 78 [.vs 3 (s0.map (api.Array.enc)),.fn (.func f1g) [] f1gc] (J r):=by
 unfold Slcs.IndexFunc___quadrat_api.Array_quadrat_api.Array_ at h0
 refine W' [] Tryz.func78 ?_
 obtain ⟨t7,et7,h1⟩:=letk_elim h0
 refine Nm.mk ⟨t7,by rw [et7,List.length_map],?_⟩
 unfold Slcs.IndexFunc___quadrat_api.Array_quadrat_api.Array_.l0 at h1
 refine LoopB.of (σ:=Int) (ρ:=Int) (fun v:Int=>Slcs.IndexFunc___quadrat_api.Array_quadrat_api.Array_.s0 s0 t7 f1 v) (fun v=>(⟨19,[(0,.vs 3 (s0.map (api.Array.enc))),(1,.fn (.func f1g) [] f1gc),(7,J t7),(8,J v)],[]⟩:St)) 0 h1 (BackS.by rfl (Sees.e ⟨.s,(.same _ (fnq hf1gc)),.s,.s,trivial⟩)) ?_
 rintro K1 t8 x1 hs0_0 hl1 hr1
 replace hs0_0:Slcs.IndexFunc___quadrat_api.Array_quadrat_api.Array_.s0 s0 t7 f1 t8 = some x1:=hs0_0
 unfold Slcs.IndexFunc___quadrat_api.Array_quadrat_api.Array_.s0 at hs0_0
 refine C' hs0_0 (fun hs0_2=>?_) fun hs0_2=>?_
 have ehs0_2u_0:=hr1 _ (Option.some.inj hs0_2).symm
 have hs0_2u:=congrArg some ehs0_2u_0
 exact R' (E:=E2') hs0_2u
 obtain ⟨chs0_3,hs0_3⟩:=chk_elim hs0_2
 obtain ⟨_,et14,hs0_4⟩:=bind_elim hs0_3
 refine Side.mk chs0_3 ?_
 refine At.by et14 ?_
 obtain ⟨t16,et16,hs0_5⟩:=bind_elim hs0_4
 refine Gate.go ?_
 refine CallN.by (v:=.lit (.bool t16)) (hf1 _ _ et16) (allq_app rfl hf1gc) rfl ?_
 rcases t16 with _ | _
 have hs0_6:=bif_f hs0_5
 refine N' hs0_6 fun _ hs0_7=>?_
 exact BackS.by ⟨_,hl1 _ (Option.some.inj hs0_7).symm,rfl⟩ (Sees.e ⟨.s,(.same _ (fnq hf1gc)),.s,.s,trivial⟩)
 have hs0_6:=bif_t hs0_5
 have ehs0_6_0:=hr1 _ (Option.some.inj hs0_6).symm
 subst ehs0_6_0
 exact Returns.pure (r:=J t8) rfl rfl rfl rfl ⟨rfl,rfl⟩
noncomputable def Slcs.ContainsFunc___quadrat_api.Array_quadrat_api.Array_ (s0:List api.Array) (f1:api.Array → Option Bool):Option Bool :=
 Option.bind (Slcs.IndexFunc___quadrat_api.Array_quadrat_api.Array_ s0 f1) fun t7 =>
 letk (decide (t7 ≥ (0:Int))) fun t8 =>
 some t8
theorem Slcs.ContainsFunc___quadrat_api.Array_quadrat_api.Array__ok {s0:List api.Array} {f1:api.Array → Option Bool} {r:Bool} {f1g:Nat} {f1gc:List AV} (hf1gc:f1gc.all pureQ.pureQ0 = true) (hf1:∀ a0 r,f1 a0 = some r → Gives Tryz.prog f1g ([api.Array.enc a0] ++ f1gc) (.lit (.bool r))) (h0:Slcs.ContainsFunc___quadrat_api.Array_quadrat_api.Array_ s0 f1 = some r):Gives Tryz.prog 37 [.vs 3 (s0.map (api.Array.enc)),.fn (.func f1g) [] f1gc] (.lit (.bool r)):=by
 unfold Slcs.ContainsFunc___quadrat_api.Array_quadrat_api.Array_ at h0
 refine W' [] Tryz.func37 ?_
 obtain ⟨t7,et7,h1⟩:=bind_elim h0
 refine Gate.go ?_
 refine CallN.by (v:=J t7) (Slcs.IndexFunc___quadrat_api.Array_quadrat_api.Array__ok hf1gc (fun _ r h=>hf1 _ r h) et7) (allq_cons rfl (allq_cons (fnq hf1gc) rfl)) rfl ?_
 refine N' h1 fun _ h2=>?_
 exact R' (E:=E1') h2
noncomputable def Arr.Call_1 (a0:api.Array):Option Bool :=
 Option.bind (Arr.Valid (⟨a0.Kind,a0.Shape,a0.Elems⟩:api.Array)) fun t4 =>
 letk (!t4) fun t5 =>
 some t5
theorem Arr.Call_1_ok {a0:api.Array} {r:Bool} (h0:Arr.Call_1 a0 = some r):Gives Tryz.prog 38 [api.Array.enc a0] (.lit (.bool r)):=by
 unfold Arr.Call_1 at h0
 refine W' [] Tryz.func38 ?_
 refine V' ?_
 refine Gate.go (A' h0 Arr.Valid_ok fun _ h1=>?_)
 refine N' h1 fun _ h2=>?_
 exact R' (E:=E1') h2
noncomputable def Arr.isNumber (kind0:Int):Option Bool :=
 letk (kind0 == (1:Int)) fun t4 =>
 bif t4 then
 some true
 else
 Option.bind (Arr.bytes kind0) fun t7 =>
 letk (decide (t7 > (0:Int))) fun t8 =>
 some t8
theorem Arr.isNumber_ok {kind0:Int} {r:Bool} (h0:Arr.isNumber kind0 = some r):Gives Tryz.prog 67 [J kind0] (.lit (.bool r)):=by
 unfold Arr.isNumber at h0
 refine W' [] Tryz.func67 ?_
 refine C' h0 (fun h2=>?_) fun h2=>?_
 refine Gate.go (A' h2 Arr.bytes_ok fun _ h3=>?_)
 refine N' h3 fun _ h4=>?_
 exact R' (E:=E1') h4
 exact R' (E:=E1') h2
noncomputable def Arr.isScalar (a0:api.Array):Option Bool :=
 letk ((a0.Shape.length:Int)) fun t5 =>
 letk (t5 == (0:Int)) fun t6 =>
 some t6
theorem Arr.isScalar_ok {a0:api.Array} {r:Bool} (h0:Arr.isScalar a0 = some r):Gives Tryz.prog 82 [api.Array.enc a0] (.lit (.bool r)):=by
 unfold Arr.isScalar at h0
 refine W' [] Tryz.func82 ?_
 refine V' ?_
 obtain ⟨t5,et5,h1⟩:=letk_elim h0
 refine Nm.mk ⟨t5,by rw [et5,List.length_map],?_⟩
 refine N' h1 fun _ h2=>?_
 exact R' (E:=E1') h2
noncomputable def Arr.scalar (v0:api.Value):Option api.Array :=
 some (⟨v0.Kind,[],[v0.N]⟩:api.Array)
theorem Arr.scalar_ok {v0:api.Value} {r:api.Array} (h0:Arr.scalar v0 = some r):Gives Tryz.prog 83 [api.Value.enc v0] (api.Array.enc r):=by
 unfold Arr.scalar at h0
 refine W' [] Tryz.func83 ?_
 refine V' ?_
 refine V' ?_
 refine Gate.go ?_
 refine Nm.mk ⟨([v0.N]).map (eI .i64),rfl,?_⟩
 refine Gate.weak (Sees.of (Weak.objs (k:=9) (keep:=[1]) (frz:=[2]) (m:=0) (ts:=[(2,.ptr 0 0),(4,J v0.Kind),(7,.vs 1 (([v0.N]).map (eI .i64)))]) (hs:=[.box [J 0,.nils,.nils]]) rfl (by decide) rfl rfl ⟨⟨_,rfl,WO.refl rfl⟩,⟨rfl,fun _ h=>by cases h⟩⟩ ⟨(.ptr _ _ 0 rfl),.s,(WV.all (k:=2) (by decide) rfl),trivial⟩)) ?_
 refine V' ?_
 refine V' ?_
 have eh0_0:=Option.some.inj h0
 subst eh0_0
 exact Returns.frozen (r:=api.Array.enc ((⟨v0.Kind,[],[v0.N]⟩:api.Array))) [] rfl rfl (WV.aggs ⟨.s,(.nilsVs _),.s,trivial⟩) ⟨rfl,rfl⟩
noncomputable def Arr.logical (is0:Bool):Option api.Value :=
 bif is0 then
 some (⟨2,1⟩:api.Value)
 else
 some (⟨2,0⟩:api.Value)
abbrev E7':api.Value → AV:=fun r=>(api.Value.enc r)
theorem Arr.logical_ok {is0:Bool} {r:api.Value} (h0:Arr.logical is0 = some r):Gives Tryz.prog 86 [.lit (.bool is0)] (api.Value.enc r):=by
 unfold Arr.logical at h0
 refine W' [] Tryz.func86 ?_
 refine V' ?_
 rcases is0 with _ | _
 have h1:=bif_f h0
 refine Gate.go ?_
 refine V' ?_
 refine V' ?_
 exact R' (E:=E7') h1
 have h1:=bif_t h0
 refine Gate.go ?_
 refine V' ?_
 refine V' ?_
 exact R' (E:=E7') h1
end Go.Q
