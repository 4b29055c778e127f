import Derived.Test.YtemmhailjfdfdaaGreatAG3
import Derived.Test.YtemmhailjfdfdaaGreatFX
import Derived.Test.YtemmhailjfdfdaaGreatFY
import Derived.Test.YtemmhailjfdfdaaGreatProg
namespace Go.Q
open Go Go.Proofs
set_option maxRecDepth 10000
set_option maxHeartbeats 2000000
noncomputable def Arr.one.j0 (op0:ByteArray) (a4_0 a4_1 b5_0 b5_1 t6_0 t6_1:Int):Option (api.Value × Int) :=
 letk (a4_0 == (2:Int)) fun t44 =>
 bif t44 then
 letk (a4_1 == b5_1) fun t49 =>
 letk (op0.toList == (⟨#[61,61]⟩:ByteArray).toList) fun t51 =>
 letk (t49 == t51) fun t52 =>
 Option.bind (Arr.logical t52) fun t53 =>
 some ((⟨t53.Kind,t53.N⟩:api.Value),0)
 else
 Option.bind (Arr.compared (⟨a4_0,a4_1⟩:api.Value) (⟨b5_0,b5_1⟩:api.Value)) fun t57 =>
 Option.bind (Arr.holds op0 t57) fun t58 =>
 Option.bind (Arr.logical t58) fun t59 =>
 some ((⟨t59.Kind,t59.N⟩:api.Value),0)
noncomputable def Arr.one.j1 (op0:ByteArray) (a1 b2:api.Value) (t31:Bool):Option (api.Value × Int) :=
 bif t31 then
 Option.bind (Arr.reckon op0 (⟨a1.Kind,a1.N⟩:api.Value) (⟨b2.Kind,b2.N⟩:api.Value)) fun (t39_0,t39_1) =>
 some ((⟨t39_0.Kind,t39_0.N⟩:api.Value),t39_1)
 else
 Arr.one.j0 op0 a1.Kind a1.N b2.Kind b2.N 0 0
noncomputable def Arr.one (op0:ByteArray) (a1 b2:api.Value):Option (api.Value × Int) :=
 letk (op0.toList == (⟨#[46,97,110,100,46]⟩:ByteArray).toList) fun t10 =>
 bif t10 then
 letk (a1.N == (1:Int)) fun t13 =>
 bif t13 then
 letk (b2.N == (1:Int)) fun t17 =>
 Option.bind (Arr.logical t17) fun t19_1 =>
 some ((⟨t19_1.Kind,t19_1.N⟩:api.Value),0)
 else
 Option.bind (Arr.logical false) fun t19 =>
 some ((⟨t19.Kind,t19.N⟩:api.Value),0)
 else
 letk (op0.toList == (⟨#[46,111,114,46]⟩:ByteArray).toList) fun t21 =>
 bif t21 then
 letk (a1.N == (1:Int)) fun t24 =>
 bif t24 then
 Option.bind (Arr.logical true) fun t30_1 =>
 some ((⟨t30_1.Kind,t30_1.N⟩:api.Value),0)
 else
 letk (b2.N == (1:Int)) fun t28 =>
 Option.bind (Arr.logical t28) fun t30 =>
 some ((⟨t30.Kind,t30.N⟩:api.Value),0)
 else
 letk (op0.toList == (⟨#[43]⟩:ByteArray).toList) fun t32 =>
 bif t32 then
 Arr.one.j1 op0 a1 b2 true
 else
 letk (op0.toList == (⟨#[45]⟩:ByteArray).toList) fun t33 =>
 bif t33 then
 Arr.one.j1 op0 a1 b2 true
 else
 letk (op0.toList == (⟨#[42]⟩:ByteArray).toList) fun t34 =>
 bif t34 then
 Arr.one.j1 op0 a1 b2 true
 else
 letk (op0.toList == (⟨#[47]⟩:ByteArray).toList) fun t35 =>
 Arr.one.j1 op0 a1 b2 t35
theorem Arr.one_ok {op0:ByteArray} {a1 b2:api.Value} {r:api.Value × Int} (h0:Arr.one op0 a1 b2 = some r):Gives Tryz.prog 60 [.lit (.string op0),api.Value.enc a1,api.Value.enc b2] (.tup [api.Value.enc r.1,J r.2]):=by
 unfold Arr.one at h0
 refine W' [(0,11),(41,21)] Tryz.func60 ?_
 refine V' ?_
 refine V' ?_
 refine V' ?_
 refine CutN.of (fun s=>∃ a4_0 a4_1 b5_0 b5_1 t6_0 t6_1,Arr.one.j0 op0 a4_0 a4_1 b5_0 b5_1 t6_0 t6_1 = some r ∧ s = ⟨60,[(0,.lit (.string op0)),(4,.ptr 0 0),(5,.ptr 1 0),(6,.ptr 2 0)],[.box [J a4_0,J a4_1],.box [J b5_0,J b5_1],.box [J t6_0,J t6_1]]⟩) ?_ ?_
 refine C' h0 (fun h2=>?_) fun h2=>?_
 refine C' h2 (fun h4=>?_) fun h4=>?_
 refine CutN.of (fun s=>∃ t31,Arr.one.j1 op0 a1 b2 t31 = some r ∧ s = ⟨60,[(0,.lit (.string op0)),(4,.ptr 0 0),(5,.ptr 1 0),(6,.ptr 2 0),(31,.lit (.bool t31))],[.box [J a1.Kind,J a1.N],.box [J b2.Kind,J b2.N],.box [J 0,J 0]]⟩) ?_ ?_
 refine C' h4 (fun h6=>?_) fun h6=>?_
 refine C' h6 (fun h8=>?_) fun h8=>?_
 refine C' h8 (fun h10=>?_) fun h10=>?_
 refine N' h10 fun _ h11=>?_
 exact B' [0,1,2] ⟨_,h11,rfl⟩
 exact B' [0,1,2] ⟨_,h10,rfl⟩
 exact B' [0,1,2] ⟨_,h8,rfl⟩
 exact B' [0,1,2] ⟨_,h6,rfl⟩
 rintro s ⟨t31,hj0,rfl⟩
 unfold Arr.one.j1 at hj0
 rcases t31 with _ | _
 have hj1:=bif_f hj0
 exact B' [0,1,2] ⟨_,_,_,_,_,_,hj1,rfl⟩
 have hj1:=bif_t hj0
 obtain ⟨⟨_,_⟩,et39,hj2⟩:=bind_elim hj1
 refine Gate.go ?_
 refine Z' (Arr.reckon_ok et39) ?_
 refine V' ?_
 exact R' (E:=E10') hj2
 refine C' h4 (fun h6=>?_) fun h6=>?_
 refine N' h6 fun _ h7=>?_
 refine Gate.go (A' h7 Arr.logical_ok fun _ h8=>?_)
 refine V' ?_
 exact R' (E:=E10') h8
 refine Gate.go (A' h6 Arr.logical_ok fun _ h7=>?_)
 refine V' ?_
 exact R' (E:=E10') h7
 refine C' h2 (fun h4=>?_) fun h4=>?_
 refine Gate.go (A' h4 Arr.logical_ok fun _ h5=>?_)
 refine V' ?_
 exact R' (E:=E10') h5
 refine N' h4 fun _ h5=>?_
 refine Gate.go (A' h5 Arr.logical_ok fun _ h6=>?_)
 refine V' ?_
 exact R' (E:=E10') h6
 rintro s ⟨_,_,_,_,_,_,hj0,rfl⟩
 unfold Arr.one.j0 at hj0
 refine C' hj0 (fun hj2=>?_) fun hj2=>?_
 refine Gate.go (A' hj2 Arr.compared_ok fun _ hj3=>?_)
 refine Gate.go (A' hj3 Arr.holds_ok fun _ hj4=>?_)
 refine Gate.go (A' hj4 Arr.logical_ok fun _ hj5=>?_)
 refine V' ?_
 exact R' (E:=E10') hj5
 refine N' hj2 fun _ hj3=>?_
 refine N' hj3 fun _ hj4=>?_
 refine N' hj4 fun _ hj5=>?_
 refine Gate.go (A' hj5 Arr.logical_ok fun _ hj6=>?_)
 refine V' ?_
 exact R' (E:=E10') hj6
noncomputable def Arr.matmul_1.j0 (t1 t3:Int) (t4 t5:api.Array) (t17 t20 t24 t7_0_1 t7_1_1 sum11_0_1 sum11_1_1 e14:Int):Option ((Int × Int × Int × Int × Int) ⊕ (api.Value × Int)) :=
 letk (e14 != (0:Int)) fun t54 =>
 bif t54 then
 some (.inr ((⟨0,0⟩:api.Value),e14))
 else
 letk (IntKind.i64.wrap (t24 + (1:Int))) fun t57 =>
 some (.inl (t7_0_1,t7_1_1,sum11_0_1,sum11_1_1,t57))
noncomputable def Arr.matmul_1.s0 (t1 t3:Int) (t4 t5:api.Array) (t17 t20 t7_0 t7_1 sum11_0 sum11_1 t24:Int):Option ((Int × Int × Int × Int × Int) ⊕ (api.Value × Int)) :=
 letk (decide (t24 < t3)) fun t25 =>
 bif t25 then
 letk (IntKind.i64.wrap (t24 * t1)) fun t32 =>
 letk (IntKind.i64.wrap (t17 + t32)) fun t33 =>
 Option.bind (Arr.at_ t4 t33) fun t34 =>
 letk (IntKind.i64.wrap (t20 * t3)) fun t39 =>
 letk (IntKind.i64.wrap (t24 + t39)) fun t40 =>
 Option.bind (Arr.at_ t5 t40) fun t41 =>
 Option.bind (Arr.one ⟨#[42]⟩ t34 t41) fun (t42_0,t42_1) =>
 letk (t42_1 == (0:Int)) fun t46 =>
 bif t46 then
 Option.bind (Arr.one ⟨#[43]⟩ (⟨sum11_0,sum11_1⟩:api.Value) (⟨t42_0.Kind,t42_0.N⟩:api.Value)) fun (t50_0,t50_1) =>
 Arr.matmul_1.j0 t1 t3 t4 t5 t17 t20 t24 t7_0 t7_1 t50_0.Kind t50_0.N t50_1
 else
 Arr.matmul_1.j0 t1 t3 t4 t5 t17 t20 t24 t7_0 t7_1 sum11_0 sum11_1 t42_1
 else
 some (.inr ((⟨sum11_0,sum11_1⟩:api.Value),0))
noncomputable def Arr.matmul_1.l0 (t1 t3:Int) (t4 t5:api.Array) (t17 t20 t7_0 t7_1 sum11_0 sum11_1 t24:Int):Option (api.Value × Int):=loopO (fun v:Int × Int × Int × Int × Int=>Arr.matmul_1.s0 t1 t3 t4 t5 t17 t20 v.1 v.2.1 v.2.2.1 v.2.2.2.1 v.2.2.2.2) (t7_0,t7_1,sum11_0,sum11_1,t24)
noncomputable def Arr.matmul_1 (n0 t1 t2 t3:Int) (t4 t5:api.Array):Option (api.Value × Int) :=
 chk (t1 ≠ 0) <|
 letk (n0.tmod t1) fun t17 =>
 chk (t1 ≠ 0) <|
 letk (IntKind.i64.wrap (n0.tdiv t1)) fun t20 =>
 Option.bind (Arr.number t2 0) fun t22 =>
 Arr.matmul_1.l0 t1 t3 t4 t5 t17 t20 0 0 t22.Kind t22.N 0
theorem Arr.matmul_1_ok {n0 t1 t2 t3:Int} {t4 t5:api.Array} {r:api.Value × Int} (h0:Arr.matmul_1 n0 t1 t2 t3 t4 t5 = some r):Gives Tryz.prog 132 [J n0,.iptr (J t1),.iptr (J t2),.iptr (J t3),.iptr (api.Array.enc t4),.iptr (api.Array.enc t5)] (.tup [api.Value.enc r.1,J r.2]):=by
 unfold Arr.matmul_1 at h0
 refine W' [(0,9)] Tryz.func132 ?_
 refine V' ?_
 refine DrawB.ofG [none,none,none,none,none,none,none,none] Tryz_mixed (by kernel_rfl) (by kernel_rfl) ?_
 refine D' rfl (D' rfl ?_)
 refine DS' h0 (fun c e=>Side.mk c (n' e rfl)) fun t17 h2=>?_
 refine D' rfl (D' rfl ?_)
 refine DS' h2 (fun c e=>Side.mk c (n' e rfl)) fun t20 h4=>?_
 refine D' rfl (D' rfl ?_)
 refine Gate.go (A' h4 Arr.number_ok fun t22 h5=>?_)
 refine V' ?_
 refine V' ?_
 unfold Arr.matmul_1.l0 at h5
 refine LoopB.of (σ:=Int × Int × Int × Int × Int) (ρ:=api.Value × Int) (fun v:Int × Int × Int × Int × Int=>Arr.matmul_1.s0 t1 t3 t4 t5 t17 t20 v.1 v.2.1 v.2.2.1 v.2.2.2.1 v.2.2.2.2) (fun v=>(⟨59,[(1,.iptr (J t1)),(3,.iptr (J t3)),(4,.iptr (api.Array.enc t4)),(5,.iptr (api.Array.enc t5)),(7,.ptr 0 0),(9,J t17),(10,J t20),(11,.ptr 1 0),(23,J t3),(24,J v.2.2.2.2)],[.box [J v.1,J v.2.1],.box [J v.2.2.1,J v.2.2.2.1]]⟩:St)) (0,0,t22.Kind,t22.N,0) h5 (B' [0,1] rfl) ?_
 rintro _ ⟨t7_0,t7_1,sum11_0,sum11_1,t24⟩ x1 hs0_0 hl1 hr1
 replace hs0_0:Arr.matmul_1.s0 t1 t3 t4 t5 t17 t20 t7_0 t7_1 sum11_0 sum11_1 t24 = some x1:=hs0_0
 unfold Arr.matmul_1.s0 at hs0_0
 refine C' hs0_0 (fun hs0_2=>?_) fun hs0_2=>?_
 have ehs0_2u_0:=hr1 _ (Option.some.inj hs0_2).symm
 have hs0_2u:=congrArg some ehs0_2u_0
 refine V' ?_
 exact R' (E:=E10') hs0_2u
 refine L' [0,1] [1,3,4,5,7,9,10,11,12,23,24] ?_
 refine DrawB.ofFN 1 [.box [J t7_0,J t7_1],.box [J sum11_0,J sum11_1],.arr 1 []] 2 3 [[],[],[],[],[],[],[],[],[],[],[],[],[],[],[],[],[],[],[2],[2],[]] [[],[],[],[],[],[],[],[],[],[],[],[],[],[],[],[],[],[],[2],[2],[]] [none,none,none,none,none,none,none,none,none,none,none,none,none,none,none,none,none,none,some 2,none,none] Tryz_mixed (by kernel_rfl) rfl rfl rfl (by kernel_rfl) ?_
 refine FNode.no (W:=[]) (api.Array.enc t4) ?_ rfl ?_
 rfl
 refine FNode.no (W:=[]) (J t17) ?_ rfl ?_
 rfl
 refine FNode.no (W:=[]) (J t24) ?_ rfl ?_
 rfl
 refine FNode.no (W:=[]) (J t1) ?_ rfl ?_
 rfl
 obtain ⟨t32,et32,hs0_3⟩:=letk_elim hs0_2
 refine FNode.no (W:=[]) (J t32) ?_ rfl ?_
 refine Nm.mk ⟨t32,et32,?_⟩
 rfl
 obtain ⟨t33,et33,hs0_4⟩:=letk_elim hs0_3
 refine FNode.no (W:=[]) (J t33) ?_ rfl ?_
 refine Nm.mk ⟨t33,et33,?_⟩
 rfl
 obtain ⟨t34,et34,hs0_5⟩:=bind_elim hs0_4
 refine FNode.no (W:=[]) (api.Value.enc t34) ?_ rfl ?_
 refine Z' (Arr.at__ok et34) ?_
 rfl
 refine FNode.no (W:=[]) (api.Array.enc t5) ?_ rfl ?_
 rfl
 refine FNode.no (W:=[]) (J t24) ?_ rfl ?_
 rfl
 refine FNode.no (W:=[]) (J t20) ?_ rfl ?_
 rfl
 refine FNode.no (W:=[]) (J t3) ?_ rfl ?_
 rfl
 obtain ⟨t39,et39,hs0_6⟩:=letk_elim hs0_5
 refine FNode.no (W:=[]) (J t39) ?_ rfl ?_
 refine Nm.mk ⟨t39,et39,?_⟩
 rfl
 obtain ⟨t40,et40,hs0_7⟩:=letk_elim hs0_6
 refine FNode.no (W:=[]) (J t40) ?_ rfl ?_
 refine Nm.mk ⟨t40,et40,?_⟩
 rfl
 obtain ⟨t41,et41,hs0_8⟩:=bind_elim hs0_7
 refine FNode.no (W:=[]) (api.Value.enc t41) ?_ rfl ?_
 refine Z' (Arr.at__ok et41) ?_
 rfl
 obtain ⟨⟨t42_0,t42_1⟩,et42,hs0_9⟩:=bind_elim hs0_8
 refine FNode.no (W:=[]) (.tup [api.Value.enc t42_0,J t42_1]) ?_ rfl ?_
 refine Z' (Arr.one_ok et42) ?_
 rfl
 refine FNode.no (W:=[]) (.tup [api.Value.enc t42_0,J t42_1]) ?_ rfl ?_
 rfl
 refine FNode.no (W:=[]) (api.Value.enc t42_0) ?_ rfl ?_
 rfl
 refine FNode.no (W:=[]) (J t42_1) ?_ rfl ?_
 rfl
 refine FNode.nw (F:=[2]) (W:=[2]) (.ptr 3 0) (.ptr 2 0) [.box [J t7_0,J t7_1],.box [J sum11_0,J sum11_1],.box [J 0,J 0]] [.dead,.dead,.arr 1 []] (.box [J 0,J 0]) ?_ rfl rfl rfl rfl ⟨_,rfl⟩ (.inl ⟨0,rfl,rfl⟩) rfl rfl ?_
 refine V' ?_
 rfl
 refine FNode.pl (F:=[2]) (W:=[2]) (.undef) [.box [J t7_0,J t7_1],.box [J sum11_0,J sum11_1],.box [J t42_0.Kind,J t42_0.N]] ?_ rfl rfl rfl rfl ?_
 refine V' ?_
 rfl
 refine FNode.no (W:=[]) (J t42_1) ?_ rfl ?_
 rfl
 refine CutN.of (fun s=>∃ t7_0_1 t7_1_1 sum11_0_1 sum11_1_1 e14,Arr.matmul_1.j0 t1 t3 t4 t5 t17 t20 t24 t7_0_1 t7_1_1 sum11_0_1 sum11_1_1 e14 = some x1 ∧ s = ⟨59,[(1,.iptr (J t1)),(3,.iptr (J t3)),(4,.iptr (api.Array.enc t4)),(5,.iptr (api.Array.enc t5)),(7,.ptr 0 0),(9,J t17),(10,J t20),(11,.ptr 1 0),(14,J e14),(23,J t3),(24,J t24)],[.box [J t7_0_1,J t7_1_1],.box [J sum11_0_1,J sum11_1_1]]⟩) ?_ ?_
 refine C' hs0_9 (fun hs0_11=>?_) fun hs0_11=>?_
 exact B' [0,1] ⟨_,_,_,_,_,hs0_11,rfl⟩
 obtain ⟨⟨_,_⟩,et50,hs0_12⟩:=bind_elim hs0_11
 refine Gate.go ?_
 refine Z' (Arr.one_ok et50) ?_
 refine V' ?_
 exact B' [0,1] ⟨_,_,_,_,_,hs0_12,rfl⟩
 rintro s ⟨_,_,_,_,e14,hj0,rfl⟩
 unfold Arr.matmul_1.j0 at hj0
 refine C' hj0 (fun hj2=>?_) fun hj2=>?_
 refine N' hj2 fun _ hj3=>?_
 exact B' [0,1] ⟨_,hl1 _ (Option.some.inj hj3).symm,rfl⟩
 refine Gate.go ?_
 refine V' ?_
 refine V' ?_
 have ehj2_0:=hr1 _ (Option.some.inj hj2).symm
 subst ehj2_0
 exact Returns.pure (r:=.tup [api.Value.enc ((⟨0,0⟩:api.Value)),J e14]) rfl rfl rfl rfl ⟨rfl,rfl⟩
noncomputable def Arr.each.s0 (t16:Int) (f2:Int → Option (api.Value × Int)) (t6_0:Int) (t6_1 t6_2:List Int) (out8_0:Int) (out8_1 out8_2:List Int) (t17:Int):Option ((Int × (List Int) × (List Int) × Int × (List Int) × (List Int) × Int) ⊕ (api.Array × Int)) :=
 letk (decide (t17 < t16)) fun t18 =>
 bif t18 then
 Option.bind (f2 t17) fun (t23_0,t23_1) =>
 letk (t23_1 != (0:Int)) fun t27 =>
 bif t27 then
 some (.inr ((⟨0,[],[]⟩:api.Array),t23_1))
 else
 chk ((out8_2.length + ([t23_0.N]).length) * 8 ≤ 140737488355328) <|
 letk (out8_2 ++ ([t23_0.N])) fun t35 =>
 letk (IntKind.i64.wrap (t17 + (1:Int))) fun t37 =>
 some (.inl (t6_0,t6_1,t6_2,out8_0,out8_1,t35,t37))
 else
 some (.inr ((⟨out8_0,out8_1,out8_2⟩:api.Array),0))
noncomputable def Arr.each.l0 (t16:Int) (f2:Int → Option (api.Value × Int)) (t6_0:Int) (t6_1 t6_2:List Int) (out8_0:Int) (out8_1 out8_2:List Int) (t17:Int):Option (api.Array × Int):=loopO (fun v:Int × (List Int) × (List Int) × Int × (List Int) × (List Int) × Int=>Arr.each.s0 t16 f2 v.1 v.2.1 v.2.2.1 v.2.2.2.1 v.2.2.2.2.1 v.2.2.2.2.2.1 v.2.2.2.2.2.2) (t6_0,t6_1,t6_2,out8_0,out8_1,out8_2,t17)
noncomputable def Arr.each (kind0:Int) (shape1:List Int) (f2:Int → Option (api.Value × Int)):Option (api.Array × Int) :=
 Option.bind (Arr.size shape1) fun t16 =>
 Arr.each.l0 t16 f2 0 ([]) ([]) kind0 shape1 ([]) 0
theorem Arr.each_ok {kind0:Int} {shape1:List Int} {f2:Int → Option (api.Value × Int)} {r:api.Array × Int} {f2g:Nat} {f2gc:List AV} (hf2gc:f2gc.all pureQ.pureQ0 = true) (hf2:∀ a0 r,f2 a0 = some r → Gives Tryz.prog f2g ([J a0] ++ f2gc) (.tup [api.Value.enc r.1,J r.2])) (h0:Arr.each kind0 shape1 f2 = some r):Gives Tryz.prog 58 [J kind0,VI' shape1,.fn (.func f2g) [] f2gc] (.tup [api.Array.enc r.1,J r.2]):=by
 unfold Arr.each at h0
 refine W' [] Tryz.func58 ?_
 refine V' ?_
 refine Gate.go ?_
 refine V' ?_
 refine V' ?_
 refine V' ?_
 refine Gate.go (A' h0 Arr.size_ok fun t16 h1=>?_)
 unfold Arr.each.l0 at h1
 refine LoopB.of (σ:=Int × (List Int) × (List Int) × Int × (List Int) × (List Int) × Int) (ρ:=api.Array × Int) (fun v:Int × (List Int) × (List Int) × Int × (List Int) × (List Int) × Int=>Arr.each.s0 t16 f2 v.1 v.2.1 v.2.2.1 v.2.2.2.1 v.2.2.2.2.1 v.2.2.2.2.2.1 v.2.2.2.2.2.2) (fun v=>(⟨39,[(2,.fn (.func f2g) [] f2gc),(6,.ptr 0 0),(8,.ptr 1 0),(16,J t16),(17,J v.2.2.2.2.2.2)],[.box [J v.1,VI' v.2.1,VI' v.2.2.1],.box [J v.2.2.2.1,VI' v.2.2.2.2.1,.ref 2 0 ((v.2.2.2.2.2.1.map (eI .i64)).length)],.arr 1 (v.2.2.2.2.2.1.map (eI .i64))]⟩:St)) (0,[],[],kind0,shape1,[],0) h1 (BackS.by rfl (Sees.of (Weak.objs (keep:=[0,1]) (frz:=[]) (m:=1) rfl (by decide) rfl rfl ⟨⟨_,rfl,WO.boxs ⟨.s,(.nilsVs _),(.nilsVs _),trivial⟩⟩,⟨⟨_,rfl,WO.boxs ⟨.s,.s,(.nilsRef 2 (by decide) (by decide)),trivial⟩⟩,⟨rfl,fun _ ho=>by simp only [List.mem_cons,List.not_mem_nil,or_false] at ho; exact ⟨_,ho⟩⟩⟩⟩ ⟨(.same _ (fnq hf2gc)),(.ptr _ _ 0 rfl),(.ptr _ _ 1 rfl),.s,.s,trivial⟩))) ?_
 rintro _ ⟨t6_0,t6_1,t6_2,out8_0,out8_1,out8_2,t17⟩ x1 hs0_0 hl1 hr1
 replace hs0_0:Arr.each.s0 t16 f2 t6_0 t6_1 t6_2 out8_0 out8_1 out8_2 t17 = some x1:=hs0_0
 unfold Arr.each.s0 at hs0_0
 refine C' hs0_0 (fun hs0_2=>?_) fun hs0_2=>?_
 have ehs0_2u_0:=hr1 _ (Option.some.inj hs0_2).symm
 have hs0_2u:=congrArg some ehs0_2u_0
 refine V' ?_
 have ehs0_2u_0:=Option.some.inj hs0_2u
 subst ehs0_2u_0
 exact Returns.frozen (r:=.tup [api.Array.enc ((⟨out8_0,out8_1,out8_2⟩:api.Array)),J 0]) [2] rfl rfl (WV.tups ⟨(WV.aggs ⟨.s,.s,(WV.all (k:=2) (by decide) rfl),trivial⟩),.s,trivial⟩) ⟨rfl,rfl⟩
 obtain ⟨⟨t23_0,t23_1⟩,et23,hs0_3⟩:=bind_elim hs0_2
 refine Gate.go ?_
 refine CallN.by (v:=.tup [api.Value.enc t23_0,J t23_1]) (hf2 _ _ et23) (allq_app rfl hf2gc) rfl ?_
 refine V' ?_
 refine V' ?_
 refine C' hs0_3 (fun hs0_5=>?_) fun hs0_5=>?_
 refine Gate.go ?_
 refine Nm.mk ⟨([t23_0.N]).map (eI .i64),rfl,?_⟩
 obtain ⟨chs0_6,hs0_6⟩:=chk_elim hs0_5
 obtain ⟨t35,et35,hs0_7⟩:=letk_elim hs0_6
 refine Gate.go ?_
 refine Side.mk (full_le _) ?_
 refine Side.mk ⟨full_le _,one_map (fun _ _ hc=>by simp only [AV.cells,List.mem_singleton] at hc; subst hc; rfl)⟩ ?_
 refine Side.mk (side_rr (by decide) chs0_6) ?_
 refine Nm.mk ⟨t35.map (eI .i64),by rw [et35]; exact app_rr (m:=[t23_0.N]),?_⟩
 refine V' ?_
 refine N' hs0_7 fun _ hs0_8=>?_
 exact BackS.by ⟨_,hl1 _ (Option.some.inj hs0_8).symm,rfl⟩ (Sees.of (Weak.objs (keep:=[0,1,5]) (frz:=[]) (m:=0) rfl (by decide) rfl rfl ⟨⟨_,rfl,WO.boxs ⟨.s,.s,.s,trivial⟩⟩,⟨⟨_,rfl,WO.boxs ⟨.s,.s,(.ref _ _ _ 2 rfl),trivial⟩⟩,⟨⟨_,rfl,.arr _ _⟩,⟨rfl,fun _ h=>by cases h⟩⟩⟩⟩ ⟨(.same _ (fnq hf2gc)),(.ptr _ _ 0 rfl),(.ptr _ _ 1 rfl),.s,.s,trivial⟩))
 refine Gate.go ?_
 refine V' ?_
 refine V' ?_
 have ehs0_5_0:=hr1 _ (Option.some.inj hs0_5).symm
 subst ehs0_5_0
 exact Returns.frozen (r:=.tup [api.Array.enc ((⟨0,[],[]⟩:api.Array)),J t23_1]) [] rfl rfl (WV.tups ⟨(WV.aggs ⟨.s,(.nilsVs _),(.nilsVs _),trivial⟩),.s,trivial⟩) ⟨rfl,rfl⟩
noncomputable def Arr.matmul.j2 (x2_0_2:Int) (x2_1_2 x2_2_2:List Int) (y3_0_2:Int) (y3_1_2 y3_2_2:List Int) (t4_0_2:Int) (t4_1_2 t4_2_2:List Int) (kind6_2 rows9_1 many11_1:Int) (shape12_1:List Int):Option (api.Array × Int) :=
 Option.bind (Arr.size shape12_1) fun t88 =>
 letk (decide (t88 < (0:Int))) fun t89 =>
 bif t89 then
 some ((⟨0,[],[]⟩:api.Array),30)
 else
 Option.bind (Arr.each kind6_2 shape12_1 (fun z0_=>Arr.matmul_1 z0_ rows9_1 kind6_2 many11_1 (⟨x2_0_2,x2_1_2,x2_2_2⟩:api.Array) (⟨y3_0_2,y3_1_2,y3_2_2⟩:api.Array))) fun (t94_0,t94_1) =>
 some ((⟨t94_0.Kind,t94_0.Shape,t94_0.Elems⟩:api.Array),t94_1)
noncomputable def Arr.matmul.j1 (t23 x2_0_1:Int) (x2_1_1 x2_2_1:List Int) (y3_0_1:Int) (y3_1_1 y3_2_1:List Int) (t4_0_1:Int) (t4_1_1 t4_2_1:List Int) (kind6_1 rows9 many11:Int) (shape12:List Int):Option (api.Array × Int) :=
 letk (t23 == (2:Int)) fun t78 =>
 bif t78 then
 chk (0 ≤ (1:Int)) <|
 Option.bind (y3_1_1[(1:Int).toNat]?) fun t81 =>
 chk ((shape12.length + ([t81]).length) * 8 ≤ 140737488355328) <|
 letk (shape12 ++ ([t81])) fun t86 =>
 Arr.matmul.j2 x2_0_1 x2_1_1 x2_2_1 y3_0_1 y3_1_1 y3_2_1 t4_0_1 t4_1_1 t4_2_1 kind6_1 rows9 many11 t86
 else
 Arr.matmul.j2 x2_0_1 x2_1_1 x2_2_1 y3_0_1 y3_1_1 y3_2_1 t4_0_1 t4_1_1 t4_2_1 kind6_1 rows9 many11 shape12
noncomputable def Arr.matmul.j0 (t20 t23 x2_0:Int) (x2_1 x2_2:List Int) (y3_0:Int) (y3_1 y3_2:List Int) (t4_0:Int) (t4_1 t4_2:List Int) (kind6:Int):Option (api.Array × Int) :=
 chk (0 ≤ (0:Int)) <|
 Option.bind (y3_1[(0:Int).toNat]?) fun t65 =>
 letk (t20 == (2:Int)) fun t68 =>
 bif t68 then
 chk (0 ≤ (0:Int)) <|
 Option.bind (x2_1[(0:Int).toNat]?) fun t71 =>
 chk (([t71]).length * 8 ≤ 140737488355328) <|
 letk (([t71])) fun t76 =>
 Arr.matmul.j1 t23 x2_0 x2_1 x2_2 y3_0 y3_1 y3_2 t4_0 t4_1 t4_2 kind6 t71 t65 t76
 else
 Arr.matmul.j1 t23 x2_0 x2_1 x2_2 y3_0 y3_1 y3_2 t4_0 t4_1 t4_2 kind6 1 t65 ([])
noncomputable def Arr.matmul.j3 (x0 y1:api.Array) (t17 t20 t23:Int) (t4_1_3 t4_2_3:List Int) (t28:Bool):Option (api.Array × Int) :=
 bif t28 then
 some ((⟨0,[],[]⟩:api.Array),71)
 else
 letk (IntKind.i64.wrap (t20 - (1:Int))) fun t54 =>
 chk (0 ≤ t54) <|
 Option.bind (x0.Shape[t54.toNat]?) fun t55 =>
 chk (0 ≤ (0:Int)) <|
 Option.bind (y1.Shape[(0:Int).toNat]?) fun t59 =>
 letk (t55 != t59) fun t61 =>
 bif t61 then
 some ((⟨0,[],[]⟩:api.Array),30)
 else
 Arr.matmul.j0 t20 t23 x0.Kind x0.Shape x0.Elems y1.Kind y1.Shape y1.Elems 0 t4_1_3 t4_2_3 t17
noncomputable def Arr.matmul (x0 y1:api.Array):Option (api.Array × Int) :=
 Option.bind (Arr.Kind ⟨#[42]⟩ x0.Kind y1.Kind) fun t17 =>
 letk ((x0.Shape.length:Int)) fun t20 =>
 letk ((y1.Shape.length:Int)) fun t23 =>
 letk (t17 == (0:Int)) fun t26 =>
 bif t26 then
 some ((⟨0,[],[]⟩:api.Array),70)
 else
 letk (decide (t20 < (1:Int))) fun t30 =>
 bif t30 then
 Arr.matmul.j3 x0 y1 t17 t20 t23 ([]) ([]) true
 else
 letk (decide (t20 > (2:Int))) fun t33 =>
 bif t33 then
 Arr.matmul.j3 x0 y1 t17 t20 t23 ([]) ([]) true
 else
 letk (decide (t23 < (1:Int))) fun t37 =>
 bif t37 then
 Arr.matmul.j3 x0 y1 t17 t20 t23 ([]) ([]) true
 else
 letk (decide (t23 > (2:Int))) fun t41 =>
 bif t41 then
 Arr.matmul.j3 x0 y1 t17 t20 t23 ([]) ([]) true
 else
 letk (IntKind.i64.wrap (t20 + t23)) fun t46 =>
 letk (decide (t46 < (3:Int))) fun t47 =>
 Arr.matmul.j3 x0 y1 t17 t20 t23 ([]) ([]) t47
abbrev E14':api.Array × Int → AV:=fun r=>(.tup [api.Array.enc r.1,J r.2])
theorem Arr.matmul_ok {x0 y1:api.Array} {r:api.Array × Int} (h0:Arr.matmul x0 y1 = some r):Gives Tryz.prog 89 [api.Array.enc x0,api.Array.enc y1] (.tup [api.Array.enc r.1,J r.2]):=by
 unfold Arr.matmul at h0
 refine W' [(0,9),(0,14),(0,17),(38,13)] Tryz.func89 ?_
 refine V' ?_
 refine V' ?_
 refine V' ?_
 refine Gate.go (A' h0 Arr.Kind_ok fun t17 h1=>?_)
 refine V' ?_
 refine V' ?_
 refine DrawB.ofG [none,none,none,none,none,none,none,none] Tryz_mixed (by kernel_rfl) (by kernel_rfl) ?_
 refine D' rfl (D' rfl ?_)
 obtain ⟨t20,et20,h2⟩:=letk_elim h1
 refine DNodeB.of (J t20) ?_ ?_
 refine Nm.mk ⟨t20,by rw [et20,List.length_map],?_⟩
 rfl
 refine D' rfl (D' rfl ?_)
 obtain ⟨t23,et23,h3⟩:=letk_elim h2
 refine DNodeB.of (J t23) ?_ ?_
 refine Nm.mk ⟨t23,by rw [et23,List.length_map],?_⟩
 rfl
 refine D' rfl (D' rfl ?_)
 refine CutN.of (fun s=>∃ x2_0 x2_1 x2_2 y3_0 y3_1 y3_2 t4_0 t4_1 t4_2 kind6,Arr.matmul.j0 t20 t23 x2_0 x2_1 x2_2 y3_0 y3_1 y3_2 t4_0 t4_1 t4_2 kind6 = some r ∧ s = ⟨97,[(2,.ptr 0 0),(3,.ptr 1 0),(4,.ptr 2 0),(6,.ptr 3 0),(7,J t20),(8,J t23)],[.box [J x2_0,VI' x2_1,VI' x2_2],.box [J y3_0,VI' y3_1,VI' y3_2],.box [J t4_0,VI' t4_1,VI' t4_2],.box [J kind6]]⟩) ?_ ?_
 refine C' h3 (fun h5=>?_) fun h5=>?_
 refine CutN.of (fun s=>∃ t4_1_3 t4_2_3 t28,Arr.matmul.j3 x0 y1 t17 t20 t23 t4_1_3 t4_2_3 t28 = some r ∧ s = ⟨97,[(2,.ptr 0 0),(3,.ptr 1 0),(4,.ptr 2 0),(6,.ptr 3 0),(7,J t20),(8,J t23),(28,.lit (.bool t28))],[.box [J x0.Kind,VI' x0.Shape,VI' x0.Elems],.box [J y1.Kind,VI' y1.Shape,VI' y1.Elems],.box [J 0,VI' t4_1_3,VI' t4_2_3],.box [J t17]]⟩) ?_ ?_
 refine C' h5 (fun h7=>?_) fun h7=>?_
 refine C' h7 (fun h9=>?_) fun h9=>?_
 refine C' h9 (fun h11=>?_) fun h11=>?_
 refine C' h11 (fun h13=>?_) fun h13=>?_
 refine N' h13 fun _ h14=>?_
 refine N' h14 fun _ h15=>?_
 exact B' [0,1,2,3] ⟨_,_,_,h15,rfl⟩
 exact B' [0,1,2,3] ⟨_,_,_,h13,rfl⟩
 exact B' [0,1,2,3] ⟨_,_,_,h11,rfl⟩
 exact B' [0,1,2,3] ⟨_,_,_,h9,rfl⟩
 exact B' [0,1,2,3] ⟨_,_,_,h7,rfl⟩
 rintro s ⟨_,_,t28,hj0,rfl⟩
 unfold Arr.matmul.j3 at hj0
 rcases t28 with _ | _
 have hj1:=bif_f hj0
 refine L' [0,1,2,3] [2,3,4,6,7,8] ?_
 refine DrawB.ofG [none,none,none,none,none,none,none,none,none,none,none,none] Tryz_mixed (by kernel_rfl) (by kernel_rfl) ?_
 refine D' rfl (D' rfl (D' rfl ?_))
 refine DN' hj1 (fun e=>n' e rfl) fun _ hj2=>?_
 obtain ⟨chj3,hj3⟩:=chk_elim hj2
 obtain ⟨t55,et55,hj4⟩:=bind_elim hj3
 refine DNodeB.of (.iptr (J t55)) ?_ ?_
 refine Side.mk chj3 ?_
 refine At.by et55 ?_
 rfl
 refine D' rfl (D' rfl (D' rfl ?_))
 obtain ⟨chj5,hj5⟩:=chk_elim hj4
 obtain ⟨t59,et59,hj6⟩:=bind_elim hj5
 refine DNodeB.of (.iptr (J t59)) ?_ ?_
 refine Side.mk chj5 ?_
 refine At.by et59 ?_
 rfl
 refine D' rfl ?_
 refine DN' hj6 (fun e=>n' e rfl) fun t61 hj7=>?_
 refine D' rfl ?_
 rcases t61 with _ | _
 have hj8:=bif_f hj7
 exact B' [0,1,2,3] ⟨_,_,_,_,_,_,_,_,_,_,hj8,rfl⟩
 have hj8:=bif_t hj7
 refine Gate.go ?_
 refine V' ?_
 refine V' ?_
 have ehj8_0:=Option.some.inj hj8
 subst ehj8_0
 exact Returns.frozen (r:=.tup [api.Array.enc ((⟨0,[],[]⟩:api.Array)),J 30]) [] rfl rfl (WV.tups ⟨(WV.aggs ⟨.s,(.nilsVs _),(.nilsVs _),trivial⟩),.s,trivial⟩) ⟨rfl,rfl⟩
 have hj1:=bif_t hj0
 refine Gate.go ?_
 refine V' ?_
 refine V' ?_
 have ehj1_0:=Option.some.inj hj1
 subst ehj1_0
 exact Returns.frozen (r:=.tup [api.Array.enc ((⟨0,[],[]⟩:api.Array)),J 71]) [] rfl rfl (WV.tups ⟨(WV.aggs ⟨.s,(.nilsVs _),(.nilsVs _),trivial⟩),.s,trivial⟩) ⟨rfl,rfl⟩
 refine Gate.go ?_
 refine V' ?_
 refine V' ?_
 have eh5_0:=Option.some.inj h5
 subst eh5_0
 exact Returns.frozen (r:=.tup [api.Array.enc ((⟨0,[],[]⟩:api.Array)),J 70]) [] rfl rfl (WV.tups ⟨(WV.aggs ⟨.s,(.nilsVs _),(.nilsVs _),trivial⟩),.s,trivial⟩) ⟨rfl,rfl⟩
 rintro s ⟨x2_0,x2_1,x2_2,y3_0,y3_1,y3_2,t4_0,t4_1,t4_2,kind6,hj0,rfl⟩
 unfold Arr.matmul.j0 at hj0
 refine DrawB.ofFN 2 [.box [J x2_0,VI' x2_1,VI' x2_2],.box [J y3_0,VI' y3_1,VI' y3_2],.box [J t4_0,VI' t4_1,VI' t4_2],.box [J kind6],.arr 1 [],.arr 1 []] 4 6 [[1],[1],[],[],[4],[5],[4],[],[5]] [[],[],[],[],[4],[5],[4],[],[5]] [none,none,none,none,some 4,some 5,none,none,none] Tryz_mixed (by kernel_rfl) rfl rfl rfl (by kernel_rfl) ?_
 refine FNode.rd (F:=[1]) (W:=[]) (.ptr 1 1) ?_ rfl rfl ?_
 rfl
 refine FNode.rd (F:=[1]) (W:=[]) (VI' y3_1) ?_ rfl rfl ?_
 rfl
 obtain ⟨chj1,hj1⟩:=chk_elim hj0
 obtain ⟨t65,et65,hj2⟩:=bind_elim hj1
 refine FNode.no (W:=[]) (.iptr (J t65)) ?_ rfl ?_
 refine Side.mk chj1 ?_
 refine At.by et65 ?_
 rfl
 refine FNode.no (W:=[]) (J t65) ?_ rfl ?_
 rfl
 refine FNode.nw (F:=[4]) (W:=[4]) (.ptr 6 0) (.ptr 4 0) [.box [J x2_0,VI' x2_1,VI' x2_2],.box [J y3_0,VI' y3_1,VI' y3_2],.box [J t4_0,VI' t4_1,VI' t4_2],.box [J kind6],.box [J 0],.arr 1 []] [.dead,.dead,.dead,.dead,.arr 1 [],.dead] (.box [J 0]) ?_ rfl rfl rfl rfl ⟨_,rfl⟩ (.inl ⟨0,rfl,rfl⟩) rfl rfl ?_
 refine V' ?_
 rfl
 refine FNode.nw (F:=[5]) (W:=[5]) (.ptr 6 0) (.ptr 5 0) [.box [J x2_0,VI' x2_1,VI' x2_2],.box [J y3_0,VI' y3_1,VI' y3_2],.box [J t4_0,VI' t4_1,VI' t4_2],.box [J kind6],.box [J 0],.box [J 0]] [.dead,.dead,.dead,.dead,.dead,.arr 1 []] (.box [J 0]) ?_ rfl rfl rfl rfl ⟨_,rfl⟩ (.inl ⟨0,rfl,rfl⟩) rfl rfl ?_
 refine V' ?_
 rfl
 refine FNode.pl (F:=[4]) (W:=[4]) (.undef) [.box [J x2_0,VI' x2_1,VI' x2_2],.box [J y3_0,VI' y3_1,VI' y3_2],.box [J t4_0,VI' t4_1,VI' t4_2],.box [J kind6],.box [J 1],.box [J 0]] ?_ rfl rfl rfl rfl ?_
 refine V' ?_
 rfl
 refine FNode.no (W:=[]) (J 1) ?_ rfl ?_
 rfl
 refine FNode.pl (F:=[5]) (W:=[5]) (.undef) [.box [J x2_0,VI' x2_1,VI' x2_2],.box [J y3_0,VI' y3_1,VI' y3_2],.box [J t4_0,VI' t4_1,VI' t4_2],.box [J kind6],.box [J 1],.box [J t65]] ?_ rfl rfl rfl rfl ?_
 refine V' ?_
 rfl
 refine CutN.of (fun s=>∃ x2_0_1 x2_1_1 x2_2_1 y3_0_1 y3_1_1 y3_2_1 t4_0_1 t4_1_1 t4_2_1 kind6_1 rows9 many11 shape12,Arr.matmul.j1 t23 x2_0_1 x2_1_1 x2_2_1 y3_0_1 y3_1_1 y3_2_1 t4_0_1 t4_1_1 t4_2_1 kind6_1 rows9 many11 shape12 = some r ∧ s = ⟨97,[(2,.ptr 0 0),(3,.ptr 1 0),(4,.ptr 2 0),(6,.ptr 3 0),(8,J t23),(9,.ptr 4 0),(11,.ptr 5 0),(12,.ref 6 0 ((shape12.map (eI .i64)).length))],[.box [J x2_0_1,VI' x2_1_1,VI' x2_2_1],.box [J y3_0_1,VI' y3_1_1,VI' y3_2_1],.box [J t4_0_1,VI' t4_1_1,VI' t4_2_1],.box [J kind6_1],.box [J rows9],.box [J many11],.arr 1 (shape12.map (eI .i64))]⟩) ?_ ?_
 refine C' hj2 (fun hj4=>?_) fun hj4=>?_
 exact BackS.by ⟨_,_,_,_,_,_,_,_,_,_,_,_,_,hj4,rfl⟩ (Sees.of (Weak.objs (keep:=[0,1,2,3,4,5]) (frz:=[]) (m:=1) rfl (by decide) rfl rfl ⟨⟨_,rfl,WO.boxs ⟨.s,.s,.s,trivial⟩⟩,⟨⟨_,rfl,WO.boxs ⟨.s,.s,.s,trivial⟩⟩,⟨⟨_,rfl,WO.boxs ⟨.s,.s,.s,trivial⟩⟩,⟨⟨_,rfl,WO.boxs ⟨.s,trivial⟩⟩,⟨⟨_,rfl,WO.boxs ⟨.s,trivial⟩⟩,⟨⟨_,rfl,WO.boxs ⟨.s,trivial⟩⟩,⟨rfl,fun _ ho=>by simp only [List.mem_cons,List.not_mem_nil,or_false] at ho; exact ⟨_,ho⟩⟩⟩⟩⟩⟩⟩⟩ ⟨(.ptr _ _ 0 rfl),(.ptr _ _ 1 rfl),(.ptr _ _ 2 rfl),(.ptr _ _ 3 rfl),.s,(.ptr _ _ 4 rfl),(.ptr _ _ 5 rfl),(.nilsRef 6 (by decide) (by decide)),trivial⟩))
 obtain ⟨chj5,hj5⟩:=chk_elim hj4
 obtain ⟨t71,et71,hj6⟩:=bind_elim hj5
 refine Side.mk chj5 ?_
 refine At.by et71 ?_
 refine V' ?_
 refine Gate.go ?_
 refine Nm.mk ⟨([t71]).map (eI .i64),rfl,?_⟩
 obtain ⟨chj7,hj7⟩:=chk_elim hj6
 obtain ⟨t76,et76,hj8⟩:=letk_elim hj7
 refine Gate.go ?_
 refine Side.mk ⟨full_le _,one_map (fun _ _ hc=>by simp only [AV.cells,List.mem_singleton] at hc; subst hc; rfl)⟩ ?_
 refine Side.mk (side_nr (by decide) chj7) ?_
 refine Nm.mk ⟨t76.map (eI .i64),by rw [et76]; exact app_nr (m:=[t71]),?_⟩
 exact B' [0,1,2,3,4,5,7] ⟨_,_,_,_,_,_,_,_,_,_,_,_,_,hj8,rfl⟩
 rintro s ⟨_,_,_,_,_,_,_,_,_,_,_,_,_,hj0,rfl⟩
 unfold Arr.matmul.j1 at hj0
 refine CutN.of (fun s=>∃ x2_0_2 x2_1_2 x2_2_2 y3_0_2 y3_1_2 y3_2_2 t4_0_2 t4_1_2 t4_2_2 kind6_2 rows9_1 many11_1 shape12_1,Arr.matmul.j2 x2_0_2 x2_1_2 x2_2_2 y3_0_2 y3_1_2 y3_2_2 t4_0_2 t4_1_2 t4_2_2 kind6_2 rows9_1 many11_1 shape12_1 = some r ∧ s = ⟨97,[(2,.ptr 0 0),(3,.ptr 1 0),(4,.ptr 2 0),(6,.ptr 3 0),(9,.ptr 4 0),(11,.ptr 5 0),(12,.ref 6 0 ((shape12_1.map (eI .i64)).length))],[.box [J x2_0_2,VI' x2_1_2,VI' x2_2_2],.box [J y3_0_2,VI' y3_1_2,VI' y3_2_2],.box [J t4_0_2,VI' t4_1_2,VI' t4_2_2],.box [J kind6_2],.box [J rows9_1],.box [J many11_1],.arr 1 (shape12_1.map (eI .i64))]⟩) ?_ ?_
 refine C' hj0 (fun hj2=>?_) fun hj2=>?_
 exact B' [0,1,2,3,4,5,6] ⟨_,_,_,_,_,_,_,_,_,_,_,_,_,hj2,rfl⟩
 obtain ⟨chj3,hj3⟩:=chk_elim hj2
 obtain ⟨t81,et81,hj4⟩:=bind_elim hj3
 refine Side.mk chj3 ?_
 refine At.by et81 ?_
 refine Gate.go ?_
 refine Nm.mk ⟨([t81]).map (eI .i64),rfl,?_⟩
 obtain ⟨chj5,hj5⟩:=chk_elim hj4
 obtain ⟨t86,et86,hj6⟩:=letk_elim hj5
 refine Gate.go ?_
 refine Side.mk (full_le _) ?_
 refine Side.mk ⟨full_le _,one_map (fun _ _ hc=>by simp only [AV.cells,List.mem_singleton] at hc; subst hc; rfl)⟩ ?_
 refine Side.mk (side_rr (by decide) chj5) ?_
 refine Nm.mk ⟨t86.map (eI .i64),by rw [et86]; exact app_rr (m:=[t81]),?_⟩
 exact B' [0,1,2,3,4,5,8] ⟨_,_,_,_,_,_,_,_,_,_,_,_,_,hj6,rfl⟩
 rintro s ⟨x2_0_2,x2_1_2,x2_2_2,y3_0_2,y3_1_2,y3_2_2,t4_0_2,t4_1_2,t4_2_2,kind6_2,rows9_1,many11_1,shape12_1,hj0,rfl⟩
 unfold Arr.matmul.j2 at hj0
 obtain ⟨t88,et88,hj1⟩:=bind_elim hj0
 refine Gate.go ?_
 refine CallN.lendBy (v:=J t88) (Arr.size_ok et88) ⟨lend_all rfl,trivial⟩ rfl ?_
 refine C' hj1 (fun hj3=>?_) fun hj3=>?_
 refine Gate.weak (Sees.of (Weak.objs (k:=97) (keep:=[2,6]) (frz:=[0,1,3,4,5]) (m:=0) (ts:=[(2,.iptr (.agg [J x2_0_2,VI' x2_1_2,VI' x2_2_2])),(3,.iptr (.agg [J y3_0_2,VI' y3_1_2,VI' y3_2_2])),(4,.ptr 0 0),(6,.iptr (J kind6_2)),(9,.iptr (J rows9_1)),(11,.iptr (J many11_1)),(91,J kind6_2),(92,.ref 1 0 ((shape12_1.map (eI .i64)).length))]) (hs:=[.box [J t4_0_2,VI' t4_1_2,VI' t4_2_2],.arr 1 (shape12_1.map (eI .i64))]) rfl (by decide) rfl rfl ⟨⟨_,rfl,WO.refl rfl⟩,⟨⟨_,rfl,.arr _ _⟩,⟨rfl,fun _ h=>by cases h⟩⟩⟩ ⟨(.ptrFrz 0 _ (by decide) rfl rfl),(.ptrFrz 1 _ (by decide) rfl rfl),(.ptr _ _ 0 rfl),(.ptrFrz 3 _ (by decide) rfl rfl),(.ptrFrz 4 _ (by decide) rfl rfl),(.ptrFrz 5 _ (by decide) rfl rfl),.s,(.ref _ _ _ 1 rfl),trivial⟩)) ?_
 obtain ⟨⟨t94_0,t94_1⟩,et94,hj4⟩:=bind_elim hj3
 refine Gate.weak (Sees.of (Weak.objs (k:=97) (keep:=[0]) (frz:=[1]) (m:=0) (ts:=[(4,.ptr 0 0),(91,J kind6_2),(92,VI' shape12_1),(93,.fn (.func 132) [] [.iptr (J rows9_1),.iptr (J kind6_2),.iptr (J many11_1),.iptr (.agg [J x2_0_2,VI' x2_1_2,VI' x2_2_2]),.iptr (.agg [J y3_0_2,VI' y3_1_2,VI' y3_2_2])])]) (hs:=[.box [J t4_0_2,VI' t4_1_2,VI' t4_2_2]]) rfl (by decide) rfl rfl ⟨⟨_,rfl,WO.refl rfl⟩,⟨rfl,fun _ h=>by cases h⟩⟩ ⟨(.ptr _ _ 0 rfl),.s,(WV.all (k:=1) (by decide) rfl),(.same _ (fnq rfl)),trivial⟩)) ?_
 refine CallN.by (v:=.tup [api.Array.enc t94_0,J t94_1]) (Arr.each_ok (show List.all [.iptr (J rows9_1),.iptr (J kind6_2),.iptr (J many11_1),.iptr (.agg [J x2_0_2,VI' x2_1_2,VI' x2_2_2]),.iptr (.agg [J y3_0_2,VI' y3_1_2,VI' y3_2_2])] pureQ.pureQ0 = true from rfl) (fun _ r h=>Arr.matmul_1_ok h) et94) rfl rfl ?_
 refine V' ?_
 exact R' (E:=E14') hj4
 refine Gate.go ?_
 refine V' ?_
 refine V' ?_
 have ehj3_0:=Option.some.inj hj3
 subst ehj3_0
 exact Returns.frozen (r:=.tup [api.Array.enc ((⟨0,[],[]⟩:api.Array)),J 30]) [] rfl rfl (WV.tups ⟨(WV.aggs ⟨.s,(.nilsVs _),(.nilsVs _),trivial⟩),.s,trivial⟩) ⟨rfl,rfl⟩
noncomputable def Arr.reshapes.s1 (t44 t46 t51 t4_0_1:Int) (t4_1_1 t4_2_1:List Int) (x6_0_1:Int) (x6_1_1 x6_2_1:List Int) (out7_0_1:Int) (out7_1_1 out7_2_1:List Int) (t53:Int):Option ((Int × (List Int) × (List Int) × Int × (List Int) × (List Int) × Int × (List Int) × (List Int) × Int) ⊕ ((Int × (List Int) × (List Int) × Int × (List Int) × (List Int) × Int × (List Int) × (List Int) × Int) ⊕ (api.Array × Int))) :=
 letk (decide (t53 < t51)) fun t54 =>
 bif t54 then
 chk (0 ≤ (0:Int)) <|
 Option.bind (x6_1_1[(0:Int).toNat]?) fun t64 =>
 letk (IntKind.i64.wrap (t53 * t64)) fun t66 =>
 letk (IntKind.i64.wrap (t46 + t66)) fun t67 =>
 chk (0 ≤ t67) <|
 Option.bind (x6_2_1[t67.toNat]?) fun t68 =>
 chk ((out7_2_1.length + ([t68]).length) * 8 ≤ 140737488355328) <|
 letk (out7_2_1 ++ ([t68])) fun t71 =>
 letk (IntKind.i64.wrap (t53 + (1:Int))) fun t73 =>
 some (.inl (t4_0_1,t4_1_1,t4_2_1,x6_0_1,x6_1_1,x6_2_1,out7_0_1,out7_1_1,t71,t73))
 else
 ((
 letk (IntKind.i64.wrap (t46 + (1:Int))) fun t74 =>
 some (.inl (t4_0_1,t4_1_1,t4_2_1,x6_0_1,x6_1_1,x6_2_1,out7_0_1,out7_1_1,out7_2_1,t74)))).map .inr
noncomputable def Arr.reshapes.l1 (t44 t46 t51 t4_0_1:Int) (t4_1_1 t4_2_1:List Int) (x6_0_1:Int) (x6_1_1 x6_2_1:List Int) (out7_0_1:Int) (out7_1_1 out7_2_1:List Int) (t53:Int):Option ((Int × (List Int) × (List Int) × Int × (List Int) × (List Int) × Int × (List Int) × (List Int) × Int) ⊕ (api.Array × Int)):=loopO (fun v:Int × (List Int) × (List Int) × Int × (List Int) × (List Int) × Int × (List Int) × (List Int) × Int=>Arr.reshapes.s1 t44 t46 t51 v.1 v.2.1 v.2.2.1 v.2.2.2.1 v.2.2.2.2.1 v.2.2.2.2.2.1 v.2.2.2.2.2.2.1 v.2.2.2.2.2.2.2.1 v.2.2.2.2.2.2.2.2.1 v.2.2.2.2.2.2.2.2.2) (t4_0_1,t4_1_1,t4_2_1,x6_0_1,x6_1_1,x6_2_1,out7_0_1,out7_1_1,out7_2_1,t53)
noncomputable def Arr.reshapes.s0 (t44 t4_0:Int) (t4_1 t4_2:List Int) (x6_0:Int) (x6_1 x6_2:List Int) (out7_0:Int) (out7_1 out7_2:List Int) (t46:Int):Option ((Int × (List Int) × (List Int) × Int × (List Int) × (List Int) × Int × (List Int) × (List Int) × Int) ⊕ (api.Array × Int)) :=
 letk (decide (t46 < t44)) fun t47 =>
 bif t47 then
 chk (0 ≤ (1:Int)) <|
 Option.bind (x6_1[(1:Int).toNat]?) fun t51 =>
 Arr.reshapes.l1 t44 t46 t51 t4_0 t4_1 t4_2 x6_0 x6_1 x6_2 out7_0 out7_1 out7_2 0
 else
 some (.inr ((⟨out7_0,out7_1,out7_2⟩:api.Array),0))
noncomputable def Arr.reshapes.l0 (t44 t4_0:Int) (t4_1 t4_2:List Int) (x6_0:Int) (x6_1 x6_2:List Int) (out7_0:Int) (out7_1 out7_2:List Int) (t46:Int):Option (api.Array × Int):=loopO (fun v:Int × (List Int) × (List Int) × Int × (List Int) × (List Int) × Int × (List Int) × (List Int) × Int=>Arr.reshapes.s0 t44 v.1 v.2.1 v.2.2.1 v.2.2.2.1 v.2.2.2.2.1 v.2.2.2.2.2.1 v.2.2.2.2.2.2.1 v.2.2.2.2.2.2.2.1 v.2.2.2.2.2.2.2.2.1 v.2.2.2.2.2.2.2.2.2) (t4_0,t4_1,t4_2,x6_0,x6_1,x6_2,out7_0,out7_1,out7_2,t46)
noncomputable def Arr.reshapes (name0:ByteArray) (args1:List api.Array):Option (api.Array × Int) :=
 chk (0 ≤ (0:Int)) <|
 Option.bind (args1[(0:Int).toNat]?) fun t11 =>
 letk (name0.toList == (⟨#[114,101,115,104,97,112,101]⟩:ByteArray).toList) fun t15 =>
 bif t15 then
 chk (0 ≤ (1:Int)) <|
 Option.bind (args1[(1:Int).toNat]?) fun _ =>
 none
 else
 letk (name0.toList == (⟨#[116,114,97,110,115,112,111,115,101]⟩:ByteArray).toList) fun t24 =>
 bif t24 then
 letk ((t11.Shape.length:Int)) fun t27 =>
 letk (t27 != (2:Int)) fun t28 =>
 bif t28 then
 some ((⟨0,[],[]⟩:api.Array),71)
 else
 chk (0 ≤ (1:Int)) <|
 Option.bind (t11.Shape[(1:Int).toNat]?) fun t34 =>
 chk (0 ≤ (0:Int)) <|
 Option.bind (t11.Shape[(0:Int).toNat]?) fun t38 =>
 chk (0 ≤ (0:Int)) <|
 Option.bind (t11.Shape[(0:Int).toNat]?) fun t44 =>
 Arr.reshapes.l0 t44 0 ([]) ([]) t11.Kind t11.Shape t11.Elems t11.Kind ([t34,t38]) ([]) 0
 else
 letk (name0.toList == (⟨#[109,97,116,109,117,108]⟩:ByteArray).toList) fun t77 =>
 bif t77 then
 chk (0 ≤ (1:Int)) <|
 Option.bind (args1[(1:Int).toNat]?) fun t80 =>
 Option.bind (Arr.matmul (⟨t11.Kind,t11.Shape,t11.Elems⟩:api.Array) t80) fun (t82_0,t82_1) =>
 some ((⟨t82_0.Kind,t82_0.Shape,t82_0.Elems⟩:api.Array),t82_1)
 else
 letk (name0.toList == (⟨#[99,115,104,105,102,116]⟩:ByteArray).toList) fun t86 =>
 bif t86 then
 chk (0 ≤ (1:Int)) <|
 Option.bind (args1[(1:Int).toNat]?) fun _ =>
 none
 else
 letk (name0.toList == (⟨#[115,112,114,101,97,100]⟩:ByteArray).toList) fun t95 =>
 bif t95 then
 chk (0 ≤ (1:Int)) <|
 Option.bind (args1[(1:Int).toNat]?) fun _ =>
 none
 else
 chk (0 ≤ (1:Int)) <|
 Option.bind (args1[(1:Int).toNat]?) fun _ =>
 none
theorem Arr.reshapes_ok {name0:ByteArray} {args1:List api.Array} {r:api.Array × Int} (h0:Arr.reshapes name0 args1 = some r):Gives Tryz.prog 42 [.lit (.string name0),.vs 3 (args1.map (api.Array.enc))] (.tup [api.Array.enc r.1,J r.2]):=by
 unfold Arr.reshapes at h0
 refine W' [] Tryz.func42 ?_
 refine V' ?_
 obtain ⟨ch1,h1⟩:=chk_elim h0
 obtain ⟨t11,et11,h2⟩:=bind_elim h1
 refine Side.mk ch1 ?_
 refine At.by et11 ?_
 refine V' ?_
 refine V' ?_
 refine C' h2 (fun h4=>?_) fun h4=>?_
 refine C' h4 (fun h6=>?_) fun h6=>?_
 refine C' h6 (fun h8=>?_) fun h8=>?_
 refine C' h8 (fun h10=>?_) fun h10=>?_
 refine C' h10 (fun h12=>?_) fun h12=>?_
 refine DrawB.ofFN 0 [.box [J 0,.nils,.nils],.box [J t11.Kind,VI' t11.Shape,VI' t11.Elems]] 2 2 [[1],[],[],[],[],[],[],[],[]] [[],[],[],[],[],[],[],[],[]] [none,none,none,none,none,none,none,none,none] Tryz_mixed (by kernel_rfl) rfl rfl rfl (by kernel_rfl) ?_
 refine FNode.rd (F:=[1]) (W:=[]) (.agg [J t11.Kind,VI' t11.Shape,VI' t11.Elems]) ?_ rfl rfl ?_
 rfl
 refine FNode.no (W:=[]) (.vs 3 (args1.map (api.Array.enc))) ?_ rfl ?_
 rfl
 obtain ⟨ch13,h13⟩:=chk_elim h12
 obtain ⟨t105,et105,h14⟩:=bind_elim h13
 refine FNode.no (W:=[]) (.iptr (api.Array.enc t105)) ?_ rfl ?_
 refine Side.mk ch13 ?_
 refine At.by et105 ?_
 rfl
 refine FNode.no (W:=[]) (api.Array.enc t105) ?_ rfl ?_
 rfl
 cases h14
 refine DrawB.ofFN 0 [.box [J 0,.nils,.nils],.box [J t11.Kind,VI' t11.Shape,VI' t11.Elems]] 2 2 [[1],[],[],[],[],[],[],[],[]] [[],[],[],[],[],[],[],[],[]] [none,none,none,none,none,none,none,none,none] Tryz_mixed (by kernel_rfl) rfl rfl rfl (by kernel_rfl) ?_
 refine FNode.rd (F:=[1]) (W:=[]) (.agg [J t11.Kind,VI' t11.Shape,VI' t11.Elems]) ?_ rfl rfl ?_
 rfl
 refine FNode.no (W:=[]) (.vs 3 (args1.map (api.Array.enc))) ?_ rfl ?_
 rfl
 obtain ⟨ch13,h13⟩:=chk_elim h12
 obtain ⟨t98,et98,h14⟩:=bind_elim h13
 refine FNode.no (W:=[]) (.iptr (api.Array.enc t98)) ?_ rfl ?_
 refine Side.mk ch13 ?_
 refine At.by et98 ?_
 rfl
 refine FNode.no (W:=[]) (api.Array.enc t98) ?_ rfl ?_
 rfl
 cases h14
 refine DrawB.ofFN 0 [.box [J 0,.nils,.nils],.box [J t11.Kind,VI' t11.Shape,VI' t11.Elems]] 2 2 [[1],[],[],[],[],[],[],[],[]] [[],[],[],[],[],[],[],[],[]] [none,none,none,none,none,none,none,none,none] Tryz_mixed (by kernel_rfl) rfl rfl rfl (by kernel_rfl) ?_
 refine FNode.rd (F:=[1]) (W:=[]) (.agg [J t11.Kind,VI' t11.Shape,VI' t11.Elems]) ?_ rfl rfl ?_
 rfl
 refine FNode.no (W:=[]) (.vs 3 (args1.map (api.Array.enc))) ?_ rfl ?_
 rfl
 obtain ⟨ch11,h11⟩:=chk_elim h10
 obtain ⟨t89,et89,h12⟩:=bind_elim h11
 refine FNode.no (W:=[]) (.iptr (api.Array.enc t89)) ?_ rfl ?_
 refine Side.mk ch11 ?_
 refine At.by et89 ?_
 rfl
 refine FNode.no (W:=[]) (api.Array.enc t89) ?_ rfl ?_
 rfl
 cases h12
 refine DrawB.ofFN 0 [.box [J 0,.nils,.nils],.box [J t11.Kind,VI' t11.Shape,VI' t11.Elems]] 2 2 [[1],[],[],[],[],[],[],[0],[]] [[],[],[],[],[],[],[],[0],[]] [none,none,none,none,none,none,none,none,none] Tryz_mixed (by kernel_rfl) rfl rfl rfl (by kernel_rfl) ?_
 refine FNode.rd (F:=[1]) (W:=[]) (.agg [J t11.Kind,VI' t11.Shape,VI' t11.Elems]) ?_ rfl rfl ?_
 rfl
 refine FNode.no (W:=[]) (.vs 3 (args1.map (api.Array.enc))) ?_ rfl ?_
 rfl
 obtain ⟨ch9,h9⟩:=chk_elim h8
 obtain ⟨t80,et80,h10⟩:=bind_elim h9
 refine FNode.no (W:=[]) (.iptr (api.Array.enc t80)) ?_ rfl ?_
 refine Side.mk ch9 ?_
 refine At.by et80 ?_
 rfl
 refine FNode.no (W:=[]) (api.Array.enc t80) ?_ rfl ?_
 rfl
 obtain ⟨⟨t82_0,t82_1⟩,et82,h11⟩:=bind_elim h10
 refine FNode.no (W:=[]) (.tup [api.Array.enc t82_0,J t82_1]) ?_ rfl ?_
 refine Z' (Arr.matmul_ok et82) ?_
 rfl
 refine FNode.no (W:=[]) (api.Array.enc t82_0) ?_ rfl ?_
 rfl
 refine FNode.no (W:=[]) (J t82_1) ?_ rfl ?_
 rfl
 refine FNode.pl (F:=[0]) (W:=[0]) (.undef) [.box [J t82_0.Kind,VI' t82_0.Shape,VI' t82_0.Elems],.box [J t11.Kind,VI' t11.Shape,VI' t11.Elems]] ?_ rfl rfl rfl rfl ?_
 refine V' ?_
 rfl
 refine FNode.no (W:=[]) (J t82_1) ?_ rfl ?_
 rfl
 exact R' (E:=E14') h11
 obtain ⟨t27,et27,h7⟩:=letk_elim h6
 refine Nm.mk ⟨t27,by rw [et27,List.length_map],?_⟩
 refine C' h7 (fun h9=>?_) fun h9=>?_
 refine L' [0,1] [4,6] ?_
 refine DrawB.ofFN 2 [.box [J 0,.nils,.nils],.box [J t11.Kind,VI' t11.Shape,VI' t11.Elems],.arr 1 [],.arr 1 []] 2 4 [[1],[1],[1],[1],[],[],[1],[1],[],[],[2],[2],[3],[2,3]] [[],[],[],[],[],[],[],[],[],[],[2],[],[3],[3]] [none,none,none,none,none,none,none,none,none,none,some 2,none,some 3,none] Tryz_mixed (by kernel_rfl) rfl rfl rfl (by kernel_rfl) ?_
 refine FNode.rd (F:=[1]) (W:=[]) (.ptr 1 0) ?_ rfl rfl ?_
 rfl
 refine FNode.rd (F:=[1]) (W:=[]) (J t11.Kind) ?_ rfl rfl ?_
 rfl
 refine FNode.rd (F:=[1]) (W:=[]) (.ptr 1 1) ?_ rfl rfl ?_
 rfl
 refine FNode.rd (F:=[1]) (W:=[]) (VI' t11.Shape) ?_ rfl rfl ?_
 rfl
 obtain ⟨ch10,h10⟩:=chk_elim h9
 obtain ⟨t34,et34,h11⟩:=bind_elim h10
 refine FNode.no (W:=[]) (.iptr (J t34)) ?_ rfl ?_
 refine Side.mk ch10 ?_
 refine At.by et34 ?_
 rfl
 refine FNode.no (W:=[]) (J t34) ?_ rfl ?_
 rfl
 refine FNode.rd (F:=[1]) (W:=[]) (.ptr 1 1) ?_ rfl rfl ?_
 rfl
 refine FNode.rd (F:=[1]) (W:=[]) (VI' t11.Shape) ?_ rfl rfl ?_
 rfl
 obtain ⟨ch12,h12⟩:=chk_elim h11
 obtain ⟨t38,et38,h13⟩:=bind_elim h12
 refine FNode.no (W:=[]) (.iptr (J t38)) ?_ rfl ?_
 refine Side.mk ch12 ?_
 refine At.by et38 ?_
 rfl
 refine FNode.no (W:=[]) (J t38) ?_ rfl ?_
 rfl
 refine FNode.nw (F:=[2]) (W:=[2]) (.ref 4 0 ((([t34,t38]).map (eI .i64)).length)) (.ref 2 0 ((([t34,t38]).map (eI .i64)).length)) [.box [J 0,.nils,.nils],.box [J t11.Kind,VI' t11.Shape,VI' t11.Elems],.arr 1 (([t34,t38]).map (eI .i64)),.arr 1 []] [.dead,.dead,.arr 1 [],.dead] (.arr 1 (([t34,t38]).map (eI .i64))) ?_ rfl rfl rfl rfl ⟨_,rfl⟩ (.inr ⟨0,(([t34,t38]).map (eI .i64)).length,rfl,rfl⟩) rfl rfl ?_
 refine Nm.mk ⟨([t34,t38]).map (eI .i64),rfl,?_⟩
 rfl
 refine FNode.rd (F:=[2]) (W:=[]) (.agg [J t11.Kind,.ref 2 0 ((([t34,t38]).map (eI .i64)).length),.nils]) ?_ rfl rfl ?_
 refine V' ?_
 rfl
 refine FNode.nw (F:=[3]) (W:=[3]) (.ptr 4 0) (.ptr 3 0) [.box [J 0,.nils,.nils],.box [J t11.Kind,VI' t11.Shape,VI' t11.Elems],.arr 1 (([t34,t38]).map (eI .i64)),.box [J 0,.nils,.nils]] [.dead,.dead,.dead,.arr 1 []] (.box [J 0,.nils,.nils]) ?_ rfl rfl rfl rfl ⟨_,rfl⟩ (.inl ⟨0,rfl,rfl⟩) rfl rfl ?_
 refine V' ?_
 rfl
 refine FNode.pl (F:=[2,3]) (W:=[3]) (.undef) [.box [J 0,.nils,.nils],.box [J t11.Kind,VI' t11.Shape,VI' t11.Elems],.arr 1 (([t34,t38]).map (eI .i64)),.box [J t11.Kind,.ref 2 0 ((([t34,t38]).map (eI .i64)).length),.nils]] ?_ rfl rfl rfl rfl ?_
 refine V' ?_
 rfl
 obtain ⟨ch14,h14⟩:=chk_elim h13
 obtain ⟨t44,et44,h15⟩:=bind_elim h14
 refine Side.mk ch14 ?_
 refine At.by et44 ?_
 unfold Arr.reshapes.l0 at h15
 refine LoopB.of (σ:=Int × (List Int) × (List Int) × Int × (List Int) × (List Int) × Int × (List Int) × (List Int) × Int) (ρ:=api.Array × Int) (fun v:Int × (List Int) × (List Int) × Int × (List Int) × (List Int) × Int × (List Int) × (List Int) × Int=>Arr.reshapes.s0 t44 v.1 v.2.1 v.2.2.1 v.2.2.2.1 v.2.2.2.2.1 v.2.2.2.2.2.1 v.2.2.2.2.2.2.1 v.2.2.2.2.2.2.2.1 v.2.2.2.2.2.2.2.2.1 v.2.2.2.2.2.2.2.2.2) (fun v=>(⟨110,[(4,.ptr 0 0),(6,.ptr 1 0),(7,.ptr 2 0),(45,J t44),(46,J v.2.2.2.2.2.2.2.2.2)],[.box [J v.1,VI' v.2.1,VI' v.2.2.1],.box [J v.2.2.2.1,VI' v.2.2.2.2.1,VI' v.2.2.2.2.2.1],.box [J v.2.2.2.2.2.2.1,VI' v.2.2.2.2.2.2.2.1,.ref 3 0 ((v.2.2.2.2.2.2.2.2.1.map (eI .i64)).length)],.arr 1 (v.2.2.2.2.2.2.2.2.1.map (eI .i64))]⟩:St)) (0,[],[],t11.Kind,t11.Shape,t11.Elems,t11.Kind,[t34,t38],[],0) h15 (BackS.by rfl (Sees.of (Weak.objs (keep:=[0,1,3]) (frz:=[2]) (m:=1) rfl (by decide) rfl rfl ⟨⟨_,rfl,WO.boxs ⟨.s,(.nilsVs _),(.nilsVs _),trivial⟩⟩,⟨⟨_,rfl,WO.boxs ⟨.s,.s,.s,trivial⟩⟩,⟨⟨_,rfl,WO.boxs ⟨.s,(WV.all (k:=2) (by decide) rfl),(.nilsRef 3 (by decide) (by decide)),trivial⟩⟩,⟨rfl,fun _ ho=>by simp only [List.mem_cons,List.not_mem_nil,or_false] at ho; exact ⟨_,ho⟩⟩⟩⟩⟩ ⟨(.ptr _ _ 0 rfl),(.ptr _ _ 1 rfl),(.ptr _ _ 2 rfl),.s,.s,trivial⟩))) ?_
 rintro _ ⟨t4_0,t4_1,t4_2,x6_0,x6_1,x6_2,out7_0,out7_1,out7_2,t46⟩ x1 hs0_0 hl1 hr1
 replace hs0_0:Arr.reshapes.s0 t44 t4_0 t4_1 t4_2 x6_0 x6_1 x6_2 out7_0 out7_1 out7_2 t46 = some x1:=hs0_0
 unfold Arr.reshapes.s0 at hs0_0
 refine C' hs0_0 (fun hs0_2=>?_) fun hs0_2=>?_
 have ehs0_2u_0:=hr1 _ (Option.some.inj hs0_2).symm
 have hs0_2u:=congrArg some ehs0_2u_0
 refine V' ?_
 have ehs0_2u_0:=Option.some.inj hs0_2u
 subst ehs0_2u_0
 exact Returns.frozen (r:=.tup [api.Array.enc ((⟨out7_0,out7_1,out7_2⟩:api.Array)),J 0]) [3] rfl rfl (WV.tups ⟨(WV.aggs ⟨.s,.s,(WV.all (k:=3) (by decide) rfl),trivial⟩),.s,trivial⟩) ⟨rfl,rfl⟩
 obtain ⟨chs0_3,hs0_3⟩:=chk_elim hs0_2
 obtain ⟨t51,et51,hs0_4⟩:=bind_elim hs0_3
 refine Side.mk chs0_3 ?_
 refine At.by et51 ?_
 unfold Arr.reshapes.l1 at hs0_4
 refine LoopB.of (σ:=Int × (List Int) × (List Int) × Int × (List Int) × (List Int) × Int × (List Int) × (List Int) × Int) (ρ:=(Int × (List Int) × (List Int) × Int × (List Int) × (List Int) × Int × (List Int) × (List Int) × Int) ⊕ (api.Array × Int)) (fun v:Int × (List Int) × (List Int) × Int × (List Int) × (List Int) × Int × (List Int) × (List Int) × Int=>Arr.reshapes.s1 t44 t46 t51 v.1 v.2.1 v.2.2.1 v.2.2.2.1 v.2.2.2.2.1 v.2.2.2.2.2.1 v.2.2.2.2.2.2.1 v.2.2.2.2.2.2.2.1 v.2.2.2.2.2.2.2.2.1 v.2.2.2.2.2.2.2.2.2) (fun v=>(⟨110,[(4,.ptr 0 0),(6,.ptr 1 0),(7,.ptr 2 0),(8,J t46),(45,J t44),(46,J t46),(52,J t51),(53,J v.2.2.2.2.2.2.2.2.2)],[.box [J v.1,VI' v.2.1,VI' v.2.2.1],.box [J v.2.2.2.1,VI' v.2.2.2.2.1,VI' v.2.2.2.2.2.1],.box [J v.2.2.2.2.2.2.1,VI' v.2.2.2.2.2.2.2.1,.ref 3 0 ((v.2.2.2.2.2.2.2.2.1.map (eI .i64)).length)],.arr 1 (v.2.2.2.2.2.2.2.2.1.map (eI .i64))]⟩:St)) (t4_0,t4_1,t4_2,x6_0,x6_1,x6_2,out7_0,out7_1,out7_2,0) hs0_4 (B' [0,1,2,3] rfl) ?_
 rintro _ ⟨t4_0_1,t4_1_1,t4_2_1,x6_0_1,x6_1_1,x6_2_1,out7_0_1,out7_1_1,out7_2_1,t53⟩ x2 hs1_0 hl2 hr2
 replace hs1_0:Arr.reshapes.s1 t44 t46 t51 t4_0_1 t4_1_1 t4_2_1 x6_0_1 x6_1_1 x6_2_1 out7_0_1 out7_1_1 out7_2_1 t53 = some x2:=hs1_0
 unfold Arr.reshapes.s1 at hs1_0
 refine C' hs1_0 (fun hs1_2=>?_) fun hs1_2=>?_
 obtain ⟨_,hs1_2u,ehs1_2_0⟩:=map_elim hs1_2
 have ehs1_2_0:=(hr2 _ ehs1_2_0.symm).symm
 subst ehs1_2_0
 refine N' hs1_2u fun _ hs1_2u0=>?_
 exact B' [0,1,2,3] ⟨_,hl1 _ (Option.some.inj hs1_2u0).symm,rfl⟩
 refine L' [0,1,2,3] [4,6,7,8,9,45,46,52,53] ?_
 refine DrawB.ofFN 2 [.box [J t4_0_1,VI' t4_1_1,VI' t4_2_1],.box [J x6_0_1,VI' x6_1_1,VI' x6_2_1],.box [J out7_0_1,VI' out7_1_1,.ref 3 0 ((out7_2_1.map (eI .i64)).length)],.arr 1 (out7_2_1.map (eI .i64)),.arr 1 [],.arr 1 []] 4 6 [[2,3],[2,3],[1],[1],[],[],[1],[1],[],[],[],[],[],[],[4],[3,4,5],[2,3],[2,3,5]] [[],[],[],[],[],[],[],[],[],[],[],[],[],[],[4],[3,5],[],[2]] [none,none,none,none,none,none,none,none,none,none,none,none,none,none,some 4,some 5,none,none] Tryz_mixed (by kernel_rfl) rfl rfl rfl (by kernel_rfl) ?_
 refine FNode.rd (F:=[2,3]) (W:=[]) (.ptr 2 2) ?_ rfl rfl ?_
 rfl
 refine FNode.rd (F:=[2,3]) (W:=[]) (.ref 3 0 ((out7_2_1.map (eI .i64)).length)) ?_ rfl rfl ?_
 rfl
 refine FNode.rd (F:=[1]) (W:=[]) (.ptr 1 2) ?_ rfl rfl ?_
 rfl
 refine FNode.rd (F:=[1]) (W:=[]) (VI' x6_2_1) ?_ rfl rfl ?_
 rfl
 refine FNode.no (W:=[]) (J t46) ?_ rfl ?_
 rfl
 refine FNode.no (W:=[]) (J t53) ?_ rfl ?_
 rfl
 refine FNode.rd (F:=[1]) (W:=[]) (.ptr 1 1) ?_ rfl rfl ?_
 rfl
 refine FNode.rd (F:=[1]) (W:=[]) (VI' x6_1_1) ?_ rfl rfl ?_
 rfl
 obtain ⟨chs1_3,hs1_3⟩:=chk_elim hs1_2
 obtain ⟨t64,et64,hs1_4⟩:=bind_elim hs1_3
 refine FNode.no (W:=[]) (.iptr (J t64)) ?_ rfl ?_
 refine Side.mk chs1_3 ?_
 refine At.by et64 ?_
 rfl
 refine FNode.no (W:=[]) (J t64) ?_ rfl ?_
 rfl
 obtain ⟨t66,et66,hs1_5⟩:=letk_elim hs1_4
 refine FNode.no (W:=[]) (J t66) ?_ rfl ?_
 refine Nm.mk ⟨t66,et66,?_⟩
 rfl
 obtain ⟨t67,et67,hs1_6⟩:=letk_elim hs1_5
 refine FNode.no (W:=[]) (J t67) ?_ rfl ?_
 refine Nm.mk ⟨t67,et67,?_⟩
 rfl
 obtain ⟨chs1_7,hs1_7⟩:=chk_elim hs1_6
 obtain ⟨t68,et68,hs1_8⟩:=bind_elim hs1_7
 refine FNode.no (W:=[]) (.iptr (J t68)) ?_ rfl ?_
 refine Side.mk chs1_7 ?_
 refine At.by et68 ?_
 rfl
 refine FNode.no (W:=[]) (J t68) ?_ rfl ?_
 rfl
 refine FNode.nw (F:=[4]) (W:=[4]) (.ref 6 0 ((([t68]).map (eI .i64)).length)) (.ref 4 0 ((([t68]).map (eI .i64)).length)) [.box [J t4_0_1,VI' t4_1_1,VI' t4_2_1],.box [J x6_0_1,VI' x6_1_1,VI' x6_2_1],.box [J out7_0_1,VI' out7_1_1,.ref 3 0 ((out7_2_1.map (eI .i64)).length)],.arr 1 (out7_2_1.map (eI .i64)),.arr 1 (([t68]).map (eI .i64)),.arr 1 []] [.dead,.dead,.dead,.dead,.arr 1 [],.dead] (.arr 1 (([t68]).map (eI .i64))) ?_ rfl rfl rfl rfl ⟨_,rfl⟩ (.inr ⟨0,(([t68]).map (eI .i64)).length,rfl,rfl⟩) rfl rfl ?_
 refine Nm.mk ⟨([t68]).map (eI .i64),rfl,?_⟩
 rfl
 obtain ⟨chs1_9,hs1_9⟩:=chk_elim hs1_8
 obtain ⟨t71,et71,hs1_10⟩:=letk_elim hs1_9
 refine FNode.nw (F:=[3,4,5]) (W:=[3,5]) (.ref 6 0 ((t71.map (eI .i64)).length)) (.ref 5 0 ((t71.map (eI .i64)).length)) [.box [J t4_0_1,VI' t4_1_1,VI' t4_2_1],.box [J x6_0_1,VI' x6_1_1,VI' x6_2_1],.box [J out7_0_1,VI' out7_1_1,.ref 3 0 ((out7_2_1.map (eI .i64)).length)],.dead,.arr 1 (([t68]).map (eI .i64)),.arr 1 (t71.map (eI .i64))] [.dead,.dead,.dead,.dead,.arr 1 (([t68]).map (eI .i64)),.arr 1 []] (.arr 1 (t71.map (eI .i64))) ?_ rfl rfl rfl rfl ⟨_,rfl⟩ (.inr ⟨0,(t71.map (eI .i64)).length,rfl,rfl⟩) rfl rfl ?_
 refine Side.mk (full_le _) ?_
 refine Side.mk ⟨full_le _,one_map (fun _ _ hc=>by simp only [AV.cells,List.mem_singleton] at hc; subst hc; rfl)⟩ ?_
 refine Side.mk (side_rr (by decide) chs1_9) ?_
 refine Nm.mk ⟨t71.map (eI .i64),by rw [et71]; exact app_rr (m:=[t68]),?_⟩
 rfl
 refine FNode.rd (F:=[2,3]) (W:=[]) (.ptr 2 2) ?_ rfl rfl ?_
 rfl
 refine FNode.pl (F:=[2,3,5]) (W:=[2]) (.undef) [.box [J t4_0_1,VI' t4_1_1,VI' t4_2_1],.box [J x6_0_1,VI' x6_1_1,VI' x6_2_1],.box [J out7_0_1,VI' out7_1_1,.ref 5 0 ((t71.map (eI .i64)).length)],.dead,.arr 1 (([t68]).map (eI .i64)),.arr 1 (t71.map (eI .i64))] ?_ rfl rfl rfl rfl ?_
 refine V' ?_
 rfl
 refine N' hs1_10 fun _ hs1_11=>?_
 exact B' [0,1,2,5] ⟨_,hl2 _ (Option.some.inj hs1_11).symm,rfl⟩
 refine Gate.go ?_
 refine V' ?_
 refine V' ?_
 have eh9_0:=Option.some.inj h9
 subst eh9_0
 exact Returns.frozen (r:=.tup [api.Array.enc ((⟨0,[],[]⟩:api.Array)),J 71]) [] rfl rfl (WV.tups ⟨(WV.aggs ⟨.s,(.nilsVs _),(.nilsVs _),trivial⟩),.s,trivial⟩) ⟨rfl,rfl⟩
 refine DrawB.ofFN 0 [.box [J 0,.nils,.nils],.box [J t11.Kind,VI' t11.Shape,VI' t11.Elems]] 2 2 [[1],[],[],[],[],[],[],[],[]] [[],[],[],[],[],[],[],[],[]] [none,none,none,none,none,none,none,none,none] Tryz_mixed (by kernel_rfl) rfl rfl rfl (by kernel_rfl) ?_
 refine FNode.rd (F:=[1]) (W:=[]) (.agg [J t11.Kind,VI' t11.Shape,VI' t11.Elems]) ?_ rfl rfl ?_
 rfl
 refine FNode.no (W:=[]) (.vs 3 (args1.map (api.Array.enc))) ?_ rfl ?_
 rfl
 obtain ⟨ch5,h5⟩:=chk_elim h4
 obtain ⟨t18,et18,h6⟩:=bind_elim h5
 refine FNode.no (W:=[]) (.iptr (api.Array.enc t18)) ?_ rfl ?_
 refine Side.mk ch5 ?_
 refine At.by et18 ?_
 rfl
 refine FNode.no (W:=[]) (api.Array.enc t18) ?_ rfl ?_
 rfl
 cases h6
noncomputable def Arr.Call.j3 (name0:ByteArray) (args1:List api.Array) (t4_0:Int) (t4_1 t4_2:List Int) (t65:Bool):Option (api.Array × Int) :=
 bif t65 then
 chk (0 ≤ (0:Int)) <|
 Option.bind (args1[(0:Int).toNat]?) fun _ =>
 none
 else
 Option.bind (Arr.reshapes name0 args1) fun (t77_0,t77_1) =>
 some ((⟨t77_0.Kind,t77_0.Shape,t77_0.Elems⟩:api.Array),t77_1)
noncomputable def Arr.Call.j2 (name0:ByteArray) (args1:List api.Array) (t4_0:Int) (t4_1 t4_2:List Int) (t48:Bool):Option (api.Array × Int) :=
 bif t48 then
 chk (0 ≤ (0:Int)) <|
 Option.bind (args1[(0:Int).toNat]?) fun _ =>
 none
 else
 letk (name0.toList == (⟨#[109,97,120,108,111,99]⟩:ByteArray).toList) fun t66 =>
 bif t66 then
 Arr.Call.j3 name0 args1 t4_0 t4_1 t4_2 true
 else
 letk (name0.toList == (⟨#[109,105,110,108,111,99]⟩:ByteArray).toList) fun t67 =>
 Arr.Call.j3 name0 args1 t4_0 t4_1 t4_2 t67
noncomputable def Arr.Call.j1 (name0:ByteArray) (args1:List api.Array) (t4_0:Int) (t4_1 t4_2:List Int) (t33:Bool):Option (api.Array × Int) :=
 bif t33 then
 none
 else
 letk (name0.toList == (⟨#[115,117,109]⟩:ByteArray).toList) fun t49 =>
 bif t49 then
 Arr.Call.j2 name0 args1 t4_0 t4_1 t4_2 true
 else
 letk (name0.toList == (⟨#[112,114,111,100,117,99,116]⟩:ByteArray).toList) fun t50 =>
 bif t50 then
 Arr.Call.j2 name0 args1 t4_0 t4_1 t4_2 true
 else
 letk (name0.toList == (⟨#[109,97,120,118,97,108]⟩:ByteArray).toList) fun t51 =>
 bif t51 then
 Arr.Call.j2 name0 args1 t4_0 t4_1 t4_2 true
 else
 letk (name0.toList == (⟨#[109,105,110,118,97,108]⟩:ByteArray).toList) fun t52 =>
 bif t52 then
 Arr.Call.j2 name0 args1 t4_0 t4_1 t4_2 true
 else
 letk (name0.toList == (⟨#[97,108,108]⟩:ByteArray).toList) fun t53 =>
 bif t53 then
 Arr.Call.j2 name0 args1 t4_0 t4_1 t4_2 true
 else
 letk (name0.toList == (⟨#[97,110,121]⟩:ByteArray).toList) fun t54 =>
 bif t54 then
 Arr.Call.j2 name0 args1 t4_0 t4_1 t4_2 true
 else
 letk (name0.toList == (⟨#[99,111,117,110,116]⟩:ByteArray).toList) fun t55 =>
 bif t55 then
 Arr.Call.j2 name0 args1 t4_0 t4_1 t4_2 true
 else
 letk (name0.toList == (⟨#[115,105,122,101]⟩:ByteArray).toList) fun t56 =>
 bif t56 then
 Arr.Call.j2 name0 args1 t4_0 t4_1 t4_2 true
 else
 letk (name0.toList == (⟨#[115,104,97,112,101]⟩:ByteArray).toList) fun t57 =>
 Arr.Call.j2 name0 args1 t4_0 t4_1 t4_2 t57
noncomputable def Arr.Call.j0 (name0:ByteArray) (args1:List api.Array) (t4_0:Int) (t4_1 t4_2:List Int):Option (api.Array × Int) :=
 letk (name0.toList == (⟨#[97,98,115]⟩:ByteArray).toList) fun t34 =>
 bif t34 then
 Arr.Call.j1 name0 args1 t4_0 t4_1 t4_2 true
 else
 letk (name0.toList == (⟨#[105,110,116]⟩:ByteArray).toList) fun t35 =>
 bif t35 then
 Arr.Call.j1 name0 args1 t4_0 t4_1 t4_2 true
 else
 letk (name0.toList == (⟨#[114,101,97,108]⟩:ByteArray).toList) fun t36 =>
 bif t36 then
 Arr.Call.j1 name0 args1 t4_0 t4_1 t4_2 true
 else
 letk (name0.toList == (⟨#[100,98,108,101]⟩:ByteArray).toList) fun t37 =>
 bif t37 then
 Arr.Call.j1 name0 args1 t4_0 t4_1 t4_2 true
 else
 letk (name0.toList == (⟨#[109,111,100]⟩:ByteArray).toList) fun t38 =>
 bif t38 then
 Arr.Call.j1 name0 args1 t4_0 t4_1 t4_2 true
 else
 letk (name0.toList == (⟨#[109,105,110]⟩:ByteArray).toList) fun t39 =>
 bif t39 then
 Arr.Call.j1 name0 args1 t4_0 t4_1 t4_2 true
 else
 letk (name0.toList == (⟨#[109,97,120]⟩:ByteArray).toList) fun t40 =>
 bif t40 then
 Arr.Call.j1 name0 args1 t4_0 t4_1 t4_2 true
 else
 letk (name0.toList == (⟨#[109,101,114,103,101]⟩:ByteArray).toList) fun t41 =>
 bif t41 then
 Arr.Call.j1 name0 args1 t4_0 t4_1 t4_2 true
 else
 letk (name0.toList == (⟨#[115,113,114,116]⟩:ByteArray).toList) fun t42 =>
 Arr.Call.j1 name0 args1 t4_0 t4_1 t4_2 t42
noncomputable def Arr.Call.j4 (name0:ByteArray) (args1:List api.Array) (t4_0_1:Int) (t4_1_1 t4_2_1:List Int) (t30:Bool):Option (api.Array × Int) :=
 bif t30 then
 some ((⟨0,[],[]⟩:api.Array),2)
 else
 Arr.Call.j0 name0 args1 t4_0_1 t4_1_1 t4_2_1
noncomputable def Arr.Call (name0:ByteArray) (args1:List api.Array):Option (api.Array × Int) :=
 Option.bind (Arr.Arity name0) fun (t10_0,t10_1) =>
 letk (t10_1 == (0:Int)) fun t14 =>
 bif t14 then
 Arr.Call.j4 name0 args1 0 ([]) ([]) true
 else
 letk ((args1.length:Int)) fun t17 =>
 letk (decide (t17 < t10_0)) fun t19 =>
 bif t19 then
 Arr.Call.j4 name0 args1 0 ([]) ([]) true
 else
 letk ((args1.length:Int)) fun t23 =>
 letk (decide (t23 > t10_1)) fun t25 =>
 bif t25 then
 Arr.Call.j4 name0 args1 0 ([]) ([]) true
 else
 Option.bind (Slcs.ContainsFunc___quadrat_api.Array_quadrat_api.Array_ args1 Arr.Call_1) fun t29 =>
 Arr.Call.j4 name0 args1 0 ([]) ([]) t29
theorem Arr.Call_ok {name0:ByteArray} {args1:List api.Array} {r:api.Array × Int} (h0:Arr.Call name0 args1 = some r):Gives Tryz.prog 13 [.lit (.string name0),.vs 3 (args1.map (api.Array.enc))] (.tup [api.Array.enc r.1,J r.2]):=by
 unfold Arr.Call at h0
 refine W' [(0,4),(43,29),(58,49),(75,55),(40,7)] Tryz.func13 ?_
 refine V' ?_
 obtain ⟨⟨_,_⟩,et10,h1⟩:=bind_elim h0
 refine Gate.go ?_
 refine Z' (Arr.Arity_ok et10) ?_
 refine CutN.of (fun s=>∃ t4_0 t4_1 t4_2,Arr.Call.j0 name0 args1 t4_0 t4_1 t4_2 = some r ∧ s = ⟨80,[(0,.lit (.string name0)),(1,.vs 3 (args1.map (api.Array.enc))),(4,.ptr 0 0)],[.box [J t4_0,VI' t4_1,VI' t4_2]]⟩) ?_ ?_
 refine CutN.of (fun s=>∃ t4_0_1 t4_1_1 t4_2_1 t30,Arr.Call.j4 name0 args1 t4_0_1 t4_1_1 t4_2_1 t30 = some r ∧ s = ⟨80,[(0,.lit (.string name0)),(1,.vs 3 (args1.map (api.Array.enc))),(4,.ptr 0 0),(30,.lit (.bool t30))],[.box [J t4_0_1,VI' t4_1_1,VI' t4_2_1]]⟩) ?_ ?_
 refine C' h1 (fun h3=>?_) fun h3=>?_
 obtain ⟨t17,et17,h4⟩:=letk_elim h3
 refine Nm.mk ⟨t17,by rw [et17,List.length_map],?_⟩
 refine C' h4 (fun h6=>?_) fun h6=>?_
 obtain ⟨t23,et23,h7⟩:=letk_elim h6
 refine Nm.mk ⟨t23,by rw [et23,List.length_map],?_⟩
 refine C' h7 (fun h9=>?_) fun h9=>?_
 obtain ⟨t29,et29,h10⟩:=bind_elim h9
 refine Gate.go ?_
 refine CallN.by (v:=.lit (.bool t29)) (Slcs.ContainsFunc___quadrat_api.Array_quadrat_api.Array__ok (show List.all [] pureQ.pureQ0 = true from rfl) (fun _ r h=>Arr.Call_1_ok h) et29) rfl rfl ?_
 exact B' [0] ⟨_,_,_,_,h10,rfl⟩
 exact B' [0] ⟨_,_,_,_,h9,rfl⟩
 exact B' [0] ⟨_,_,_,_,h6,rfl⟩
 exact B' [0] ⟨_,_,_,_,h3,rfl⟩
 rintro s ⟨_,_,_,t30,hj0,rfl⟩
 unfold Arr.Call.j4 at hj0
 rcases t30 with _ | _
 have hj1:=bif_f hj0
 exact B' [0] ⟨_,_,_,hj1,rfl⟩
 have hj1:=bif_t hj0
 refine Gate.go ?_
 refine V' ?_
 refine V' ?_
 have ehj1_0:=Option.some.inj hj1
 subst ehj1_0
 exact Returns.frozen (r:=.tup [api.Array.enc ((⟨0,[],[]⟩:api.Array)),J 2]) [] rfl rfl (WV.tups ⟨(WV.aggs ⟨.s,(.nilsVs _),(.nilsVs _),trivial⟩),.s,trivial⟩) ⟨rfl,rfl⟩
 rintro s ⟨t4_0,t4_1,t4_2,hj0,rfl⟩
 unfold Arr.Call.j0 at hj0
 refine CutN.of (fun s=>∃ t33,Arr.Call.j1 name0 args1 t4_0 t4_1 t4_2 t33 = some r ∧ s = ⟨80,[(0,.lit (.string name0)),(1,.vs 3 (args1.map (api.Array.enc))),(4,.ptr 0 0),(32,.lit (.string name0)),(33,.lit (.bool t33))],[.box [J t4_0,VI' t4_1,VI' t4_2]]⟩) ?_ ?_
 refine C' hj0 (fun hj2=>?_) fun hj2=>?_
 refine C' hj2 (fun hj4=>?_) fun hj4=>?_
 refine C' hj4 (fun hj6=>?_) fun hj6=>?_
 refine C' hj6 (fun hj8=>?_) fun hj8=>?_
 refine C' hj8 (fun hj10=>?_) fun hj10=>?_
 refine C' hj10 (fun hj12=>?_) fun hj12=>?_
 refine C' hj12 (fun hj14=>?_) fun hj14=>?_
 refine C' hj14 (fun hj16=>?_) fun hj16=>?_
 refine N' hj16 fun _ hj17=>?_
 exact B' [0] ⟨_,hj17,rfl⟩
 exact B' [0] ⟨_,hj16,rfl⟩
 exact B' [0] ⟨_,hj14,rfl⟩
 exact B' [0] ⟨_,hj12,rfl⟩
 exact B' [0] ⟨_,hj10,rfl⟩
 exact B' [0] ⟨_,hj8,rfl⟩
 exact B' [0] ⟨_,hj6,rfl⟩
 exact B' [0] ⟨_,hj4,rfl⟩
 exact B' [0] ⟨_,hj2,rfl⟩
 rintro s ⟨t33,hj0,rfl⟩
 unfold Arr.Call.j1 at hj0
 rcases t33 with _ | _
 have hj1:=bif_f hj0
 refine CutN.of (fun s=>∃ t48,Arr.Call.j2 name0 args1 t4_0 t4_1 t4_2 t48 = some r ∧ s = ⟨80,[(0,.lit (.string name0)),(1,.vs 3 (args1.map (api.Array.enc))),(4,.ptr 0 0),(32,.lit (.string name0)),(48,.lit (.bool t48))],[.box [J t4_0,VI' t4_1,VI' t4_2]]⟩) ?_ ?_
 refine C' hj1 (fun hj3=>?_) fun hj3=>?_
 refine C' hj3 (fun hj5=>?_) fun hj5=>?_
 refine C' hj5 (fun hj7=>?_) fun hj7=>?_
 refine C' hj7 (fun hj9=>?_) fun hj9=>?_
 refine C' hj9 (fun hj11=>?_) fun hj11=>?_
 refine C' hj11 (fun hj13=>?_) fun hj13=>?_
 refine C' hj13 (fun hj15=>?_) fun hj15=>?_
 refine C' hj15 (fun hj17=>?_) fun hj17=>?_
 refine N' hj17 fun _ hj18=>?_
 exact B' [0] ⟨_,hj18,rfl⟩
 exact B' [0] ⟨_,hj17,rfl⟩
 exact B' [0] ⟨_,hj15,rfl⟩
 exact B' [0] ⟨_,hj13,rfl⟩
 exact B' [0] ⟨_,hj11,rfl⟩
 exact B' [0] ⟨_,hj9,rfl⟩
 exact B' [0] ⟨_,hj7,rfl⟩
 exact B' [0] ⟨_,hj5,rfl⟩
 exact B' [0] ⟨_,hj3,rfl⟩
 rintro s ⟨t48,hj0,rfl⟩
 unfold Arr.Call.j2 at hj0
 rcases t48 with _ | _
 have hj1:=bif_f hj0
 refine CutN.of (fun s=>∃ t65,Arr.Call.j3 name0 args1 t4_0 t4_1 t4_2 t65 = some r ∧ s = ⟨80,[(0,.lit (.string name0)),(1,.vs 3 (args1.map (api.Array.enc))),(4,.ptr 0 0),(65,.lit (.bool t65))],[.box [J t4_0,VI' t4_1,VI' t4_2]]⟩) ?_ ?_
 refine C' hj1 (fun hj3=>?_) fun hj3=>?_
 refine N' hj3 fun _ hj4=>?_
 exact B' [0] ⟨_,hj4,rfl⟩
 exact B' [0] ⟨_,hj3,rfl⟩
 rintro s ⟨t65,hj0,rfl⟩
 unfold Arr.Call.j3 at hj0
 rcases t65 with _ | _
 have hj1:=bif_f hj0
 obtain ⟨⟨_,_⟩,et77,hj2⟩:=bind_elim hj1
 refine Gate.go ?_
 refine Z' (Arr.reshapes_ok et77) ?_
 refine V' ?_
 exact R' (E:=E14') hj2
 have hj1:=bif_t hj0
 obtain ⟨chj2,hj2⟩:=chk_elim hj1
 obtain ⟨_,et70,hj3⟩:=bind_elim hj2
 refine Side.mk chj2 ?_
 refine At.by et70 ?_
 cases hj3
 have hj1:=bif_t hj0
 obtain ⟨chj2,hj2⟩:=chk_elim hj1
 obtain ⟨_,et60,hj3⟩:=bind_elim hj2
 refine Side.mk chj2 ?_
 refine At.by et60 ?_
 cases hj3
 have hj1:=bif_t hj0
 cases hj1
noncomputable def Law7.Awake :Option Bool :=
 Option.bind (Arr.Call ⟨#[109,97,116,109,117,108]⟩ ([(⟨1,[2,2],[1,2,3,4]⟩:api.Array),(⟨1,[2],[5,6]⟩:api.Array)])) fun (t15_0,t15_1) =>
 letk (t15_1 == (0:Int)) fun t19 =>
 bif t19 then
 letk ((t15_0.Elems.length:Int)) fun t23 =>
 letk (t23 == (2:Int)) fun t24 =>
 bif t24 then
 chk (0 ≤ (0:Int)) <|
 Option.bind (t15_0.Elems[(0:Int).toNat]?) fun t29 =>
 letk (t29 == (23:Int)) fun t31 =>
 bif t31 then
 chk (0 ≤ (1:Int)) <|
 Option.bind (t15_0.Elems[(1:Int).toNat]?) fun t36 =>
 letk (t36 == (34:Int)) fun t38 =>
 some t38
 else
 some false
 else
 some false
 else
 some false
theorem Law7.Awake_ok {r:Bool} (h0:Law7.Awake = some r):Gives Tryz.prog 12 [] (.lit (.bool r)):=by
 unfold Law7.Awake at h0
 refine W' [] Tryz.func12 ?_
 refine Gate.go ?_
 refine Nm.mk ⟨([2,2]).map (eI .i64),rfl,?_⟩
 refine Gate.go ?_
 refine Nm.mk ⟨([1,2,3,4]).map (eI .i64),rfl,?_⟩
 refine Gate.weak (Sees.of (Weak.objs (k:=40) (keep:=[]) (frz:=[0,1]) (m:=0) (ts:=[(5,.vs 1 (([2,2]).map (eI .i64))),(6,.vs 1 (([1,2,3,4]).map (eI .i64)))]) (hs:=[]) rfl (by decide) rfl rfl ⟨rfl,fun _ h=>by cases h⟩ ⟨(WV.all (k:=0) (by decide) rfl),(WV.all (k:=1) (by decide) rfl),trivial⟩)) ?_
 refine V' ?_
 refine V' ?_
 refine V' ?_
 refine Gate.go ?_
 refine Nm.mk ⟨([2]).map (eI .i64),rfl,?_⟩
 refine Gate.go ?_
 refine Nm.mk ⟨([5,6]).map (eI .i64),rfl,?_⟩
 refine Gate.weak (Sees.of (Weak.objs (k:=40) (keep:=[0]) (frz:=[1,2]) (m:=0) (ts:=[(1,.ptr 0 0),(8,.vs 1 (([2]).map (eI .i64))),(9,.vs 1 (([5,6]).map (eI .i64)))]) (hs:=[.box [J 1,.vs 1 (([2,2]).map (eI .i64)),.vs 1 (([1,2,3,4]).map (eI .i64))]]) rfl (by decide) rfl rfl ⟨⟨_,rfl,WO.refl rfl⟩,⟨rfl,fun _ h=>by cases h⟩⟩ ⟨(.ptr _ _ 0 rfl),(WV.all (k:=1) (by decide) rfl),(WV.all (k:=2) (by decide) rfl),trivial⟩)) ?_
 refine V' ?_
 refine V' ?_
 refine V' ?_
 refine Gate.go ?_
 refine Nm.mk ⟨([(⟨1,[2,2],[1,2,3,4]⟩:api.Array),(⟨1,[2],[5,6]⟩:api.Array)]).map (api.Array.enc),rfl,?_⟩
 obtain ⟨⟨_,_⟩,et15,h1⟩:=bind_elim h0
 refine Gate.weak (Sees.of (Weak.objs (k:=40) (keep:=[]) (frz:=[2]) (m:=0) (ts:=[(14,.vs 3 (([(⟨1,[2,2],[1,2,3,4]⟩:api.Array),(⟨1,[2],[5,6]⟩:api.Array)]).map (api.Array.enc)))]) (hs:=[]) rfl (by decide) rfl rfl ⟨rfl,fun _ h=>by cases h⟩ ⟨(WV.all (k:=2) (by decide) rfl),trivial⟩)) ?_
 refine Z' (Arr.Call_ok et15) ?_
 refine V' ?_
 refine V' ?_
 refine C' h1 (fun h3=>?_) fun h3=>?_
 exact R' (E:=E1') h3
 obtain ⟨t23,et23,h4⟩:=letk_elim h3
 refine Nm.mk ⟨t23,by rw [et23,List.length_map],?_⟩
 refine C' h4 (fun h6=>?_) fun h6=>?_
 exact R' (E:=E1') h6
 obtain ⟨ch7,h7⟩:=chk_elim h6
 obtain ⟨_,et29,h8⟩:=bind_elim h7
 refine Side.mk ch7 ?_
 refine At.by et29 ?_
 refine C' h8 (fun h10=>?_) fun h10=>?_
 exact R' (E:=E1') h10
 obtain ⟨ch11,h11⟩:=chk_elim h10
 obtain ⟨_,et36,h12⟩:=bind_elim h11
 refine Side.mk ch11 ?_
 refine At.by et36 ?_
 refine N' h12 fun _ h13=>?_
 exact R' (E:=E1') h13
noncomputable def Slcs.Equal___int_int_.s0 (s10 s21:List Int) (t12 t13:Int):Option (Int ⊕ Bool) :=
 letk (decide (t13 < t12)) fun t14 =>
 bif t14 then
 chk (0 ≤ t13) <|
 Option.bind (s10[t13.toNat]?) fun t18 =>
 chk (0 ≤ t13) <|
 Option.bind (s21[t13.toNat]?) fun t22 =>
 letk (t18 != t22) fun t24 =>
 bif t24 then
 some (.inr false)
 else
 letk (IntKind.i64.wrap (t13 + (1:Int))) fun t25 =>
 some (.inl t25)
 else
 some (.inr true)
noncomputable def Slcs.Equal___int_int_.l0 (s10 s21:List Int) (t12 t13:Int):Option Bool:=loopO (fun v:Int=>Slcs.Equal___int_int_.s0 s10 s21 t12 v) t13
noncomputable def Slcs.Equal___int_int_ (s10 s21:List Int):Option Bool :=
 letk ((s10.length:Int)) fun t7 =>
 letk ((s21.length:Int)) fun t9 =>
 letk (t7 != t9) fun t10 =>
 bif t10 then
 some false
 else
 letk ((s10.length:Int)) fun t12 =>
 Slcs.Equal___int_int_.l0 s10 s21 t12 0
end Go.Q
