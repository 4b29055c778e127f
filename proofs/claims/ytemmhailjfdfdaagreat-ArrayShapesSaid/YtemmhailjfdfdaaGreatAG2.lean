import Derived.Test.YtemmhailjfdfdaaGreatAG1
import Derived.Test.YtemmhailjfdfdaaGreatFX
import Derived.Test.YtemmhailjfdfdaaGreatFY
import Derived.Test.YtemmhailjfdfdaaGreatProg
namespace Go.Q
open Go Go.Proofs
set_option maxRecDepth 10000
set_option maxHeartbeats 2000000
noncomputable def Arr.reduce.s0 (name0:ByteArray) (x3_0_1:Int) (x3_1_1 x3_2_1:List Int) (t4_0_1:Int) (t4_1_2 t4_2_2:List Int) (t90 n8 t91:Int):Option ((Int × Int) ⊕ (api.Array × Int)) :=
 letk (decide (t91 < t90)) fun t92 =>
 bif t92 then
 chk (0 ≤ t91) <|
 Option.bind (x3_2_1[t91.toNat]?) fun t93 =>
 letk (IntKind.i64.wrap (n8 + t93)) fun t97 =>
 letk (IntKind.i64.wrap (t91 + (1:Int))) fun t98 =>
 some (.inl (t97,t98))
 else
 ((
 letk (name0.toList == (⟨#[97,108,108]⟩:ByteArray).toList) fun t101 =>
 bif t101 then
 letk ((x3_2_1.length:Int)) fun t105 =>
 letk (n8 == t105) fun t106 =>
 Option.bind (Arr.logical t106) fun t107 =>
 Option.bind (Arr.scalar t107) fun t108 =>
 some ((⟨t108.Kind,t108.Shape,t108.Elems⟩:api.Array),0)
 else
 letk (name0.toList == (⟨#[97,110,121]⟩:ByteArray).toList) fun t110 =>
 bif t110 then
 letk (decide (n8 > (0:Int))) fun t112 =>
 Option.bind (Arr.logical t112) fun t113 =>
 Option.bind (Arr.scalar t113) fun t114 =>
 some ((⟨t114.Kind,t114.Shape,t114.Elems⟩:api.Array),0)
 else
 Option.bind (Arr.scalar (⟨1,n8⟩:api.Value)) fun t117 =>
 some ((⟨t117.Kind,t117.Shape,t117.Elems⟩:api.Array),0))).map .inr
noncomputable def Arr.reduce.l0 (name0:ByteArray) (x3_0_1:Int) (x3_1_1 x3_2_1:List Int) (t4_0_1:Int) (t4_1_2 t4_2_2:List Int) (t90 n8 t91:Int):Option (api.Array × Int):=loopO (fun v:Int × Int=>Arr.reduce.s0 name0 x3_0_1 x3_1_1 x3_2_1 t4_0_1 t4_1_2 t4_2_2 t90 v.1 v.2) (n8,t91)
noncomputable def Arr.reduce.j3 (name0:ByteArray) (x3_0_1:Int) (x3_1_1 x3_2_1:List Int) (t4_0_1:Int) (t4_1_2 t4_2_2:List Int):Option (api.Array × Int) :=
 letk ((x3_2_1.length:Int)) fun t90 =>
 Arr.reduce.l0 name0 x3_0_1 x3_1_1 x3_2_1 t4_0_1 t4_1_2 t4_2_2 t90 0 0
noncomputable def Arr.reduce.j5 (name0:ByteArray) (x3_0:Int) (x3_1 x3_2:List Int) (t4_0:Int) (t4_1_1 t4_2_1:List Int) (t81:Bool):Option (api.Array × Int) :=
 bif t81 then
 none
 else
 Arr.reduce.j3 name0 x3_0 x3_1 x3_2 t4_0 t4_1_1 t4_2_1
noncomputable def Arr.reduce.j4 (name0:ByteArray) (x3_0:Int) (x3_1 x3_2:List Int) (t4_0:Int) (t4_1_1 t4_2_1:List Int) (t73:Bool):Option (api.Array × Int) :=
 bif t73 then
 none
 else
 letk (name0.toList == (⟨#[109,97,120,118,97,108]⟩:ByteArray).toList) fun t82 =>
 bif t82 then
 Arr.reduce.j5 name0 x3_0 x3_1 x3_2 t4_0 t4_1_1 t4_2_1 true
 else
 letk (name0.toList == (⟨#[109,105,110,118,97,108]⟩:ByteArray).toList) fun t83 =>
 Arr.reduce.j5 name0 x3_0 x3_1 x3_2 t4_0 t4_1_1 t4_2_1 t83
noncomputable def Arr.reduce.j2 (name0:ByteArray) (x3_0:Int) (x3_1 x3_2:List Int) (t4_0:Int) (t4_1_1 t4_2_1:List Int):Option (api.Array × Int) :=
 letk (name0.toList == (⟨#[115,104,97,112,101]⟩:ByteArray).toList) fun t57 =>
 bif t57 then
 letk ((x3_1.length:Int)) fun t60 =>
 Option.bind (Slcs.Clone___int_int_ x3_1) fun t64 =>
 some ((⟨1,[t60],t64⟩:api.Array),0)
 else
 letk (name0.toList == (⟨#[115,105,122,101]⟩:ByteArray).toList) fun t67 =>
 bif t67 then
 letk ((x3_2.length:Int)) fun t70 =>
 Option.bind (Arr.scalar (⟨1,t70⟩:api.Value)) fun t72 =>
 some ((⟨t72.Kind,t72.Shape,t72.Elems⟩:api.Array),0)
 else
 letk (name0.toList == (⟨#[115,117,109]⟩:ByteArray).toList) fun t74 =>
 bif t74 then
 Arr.reduce.j4 name0 x3_0 x3_1 x3_2 t4_0 t4_1_1 t4_2_1 true
 else
 letk (name0.toList == (⟨#[112,114,111,100,117,99,116]⟩:ByteArray).toList) fun t75 =>
 Arr.reduce.j4 name0 x3_0 x3_1 x3_2 t4_0 t4_1_1 t4_2_1 t75
noncomputable def Arr.reduce.j7 (name0:ByteArray) (x3_0_3:Int) (x3_1_3 x3_2_3:List Int) (t4_0_3:Int) (t4_1_4 t4_2_4:List Int) (t47:Bool):Option (api.Array × Int) :=
 bif t47 then
 some ((⟨0,[],[]⟩:api.Array),71)
 else
 Arr.reduce.j2 name0 x3_0_3 x3_1_3 x3_2_3 t4_0_3 t4_1_4 t4_2_4
noncomputable def Arr.reduce.j6 (name0:ByteArray) (x3_0_2:Int) (x3_1_2 x3_2_2:List Int) (t4_0_2:Int) (t4_1_3 t4_2_3:List Int) (t27:Bool):Option (api.Array × Int) :=
 bif t27 then
 some ((⟨0,[],[]⟩:api.Array),70)
 else
 Option.bind (Arr.isScalar (⟨x3_0_2,x3_1_2,x3_2_2⟩:api.Array)) fun t49 =>
 bif t49 then
 letk (!(name0.toList == (⟨#[115,104,97,112,101]⟩:ByteArray).toList)) fun t52 =>
 Arr.reduce.j7 name0 x3_0_2 x3_1_2 x3_2_2 t4_0_2 t4_1_3 t4_2_3 t52
 else
 Arr.reduce.j7 name0 x3_0_2 x3_1_2 x3_2_2 t4_0_2 t4_1_3 t4_2_3 false
noncomputable def Arr.reduce.j8 (name0:ByteArray) (x1:api.Array) (t4_1 t4_2:List Int) (logicals6_2 anyKind7_1 t27_1:Bool):Option (api.Array × Int) :=
 bif t27_1 then
 Arr.reduce.j6 name0 x1.Kind x1.Shape x1.Elems 0 t4_1 t4_2 true
 else
 letk (!logicals6_2) fun t35 =>
 bif t35 then
 letk (!anyKind7_1) fun t38 =>
 bif t38 then
 Option.bind (Arr.isNumber x1.Kind) fun t43 =>
 letk (!t43) fun t44 =>
 Arr.reduce.j6 name0 x1.Kind x1.Shape x1.Elems 0 t4_1 t4_2 t44
 else
 Arr.reduce.j6 name0 x1.Kind x1.Shape x1.Elems 0 t4_1 t4_2 false
 else
 Arr.reduce.j6 name0 x1.Kind x1.Shape x1.Elems 0 t4_1 t4_2 false
noncomputable def Arr.reduce.j1 (name0:ByteArray) (x1:api.Array) (t4_1 t4_2:List Int) (logicals6_1 anyKind7:Bool):Option (api.Array × Int) :=
 bif logicals6_1 then
 letk (x1.Kind != (2:Int)) fun t32 =>
 Arr.reduce.j8 name0 x1 t4_1 t4_2 true anyKind7 t32
 else
 Arr.reduce.j8 name0 x1 t4_1 t4_2 false anyKind7 false
noncomputable def Arr.reduce.j0 (name0:ByteArray) (x1:api.Array) (t4_1 t4_2:List Int) (logicals6:Bool):Option (api.Array × Int) :=
 letk (name0.toList == (⟨#[115,105,122,101]⟩:ByteArray).toList) fun t22 =>
 bif t22 then
 Arr.reduce.j1 name0 x1 t4_1 t4_2 logicals6 true
 else
 letk (name0.toList == (⟨#[115,104,97,112,101]⟩:ByteArray).toList) fun t25 =>
 Arr.reduce.j1 name0 x1 t4_1 t4_2 logicals6 t25
noncomputable def Arr.reduce (name0:ByteArray) (x1:api.Array):Option (api.Array × Int) :=
 letk (name0.toList == (⟨#[97,108,108]⟩:ByteArray).toList) fun t12 =>
 bif t12 then
 Arr.reduce.j0 name0 x1 ([]) ([]) true
 else
 letk (name0.toList == (⟨#[97,110,121]⟩:ByteArray).toList) fun t15 =>
 bif t15 then
 Arr.reduce.j0 name0 x1 ([]) ([]) true
 else
 letk (name0.toList == (⟨#[99,111,117,110,116]⟩:ByteArray).toList) fun t19 =>
 Arr.reduce.j0 name0 x1 ([]) ([]) t19
abbrev E8':api.Array × Int → AV:=fun r=>(.tup [api.Array.enc r.1,J r.2])
theorem Arr.reduce_ok {name0:ByteArray} {x1:api.Array} {r:api.Array × Int} (h0:Arr.reduce name0 x1 = some r):Gives Tryz.prog 40 [.lit (.string name0),api.Array.enc x1] (.tup [api.Array.enc r.1,J r.2]):=by
 unfold Arr.reduce at h0
 refine W' [(0,2),(1,0),(0,8),(0,19),(83,31),(91,37),(37,11),(57,15),(37,9)] Tryz.func40 ?_
 refine V' ?_
 refine V' ?_
 refine CutN.of (fun s=>∃ t4_1 t4_2 logicals6,Arr.reduce.j0 name0 x1 t4_1 t4_2 logicals6 = some r ∧ s = ⟨118,[(0,.lit (.string name0)),(3,.ptr 0 0),(4,.ptr 1 0),(6,.lit (.bool logicals6))],[.box [J x1.Kind,VI' x1.Shape,VI' x1.Elems],.box [J 0,VI' t4_1,VI' t4_2]]⟩) ?_ ?_
 refine C' h0 (fun h2=>?_) fun h2=>?_
 refine C' h2 (fun h4=>?_) fun h4=>?_
 refine N' h4 fun _ h5=>?_
 exact B' [0,1] ⟨_,_,_,h5,rfl⟩
 exact B' [0,1] ⟨_,_,_,h4,rfl⟩
 exact B' [0,1] ⟨_,_,_,h2,rfl⟩
 rintro s ⟨t4_1,t4_2,_,hj0,rfl⟩
 unfold Arr.reduce.j0 at hj0
 refine CutN.of (fun s=>∃ logicals6_1 anyKind7,Arr.reduce.j1 name0 x1 t4_1 t4_2 logicals6_1 anyKind7 = some r ∧ s = ⟨118,[(0,.lit (.string name0)),(3,.ptr 0 0),(4,.ptr 1 0),(6,.lit (.bool logicals6_1)),(7,.lit (.bool anyKind7))],[.box [J x1.Kind,VI' x1.Shape,VI' x1.Elems],.box [J 0,VI' t4_1,VI' t4_2]]⟩) ?_ ?_
 refine C' hj0 (fun hj2=>?_) fun hj2=>?_
 refine N' hj2 fun _ hj3=>?_
 exact B' [0,1] ⟨_,_,hj3,rfl⟩
 exact B' [0,1] ⟨_,_,hj2,rfl⟩
 rintro s ⟨logicals6_1,_,hj0,rfl⟩
 unfold Arr.reduce.j1 at hj0
 refine CutN.of (fun s=>∃ x3_0 x3_1 x3_2 t4_0 t4_1_1 t4_2_1,Arr.reduce.j2 name0 x3_0 x3_1 x3_2 t4_0 t4_1_1 t4_2_1 = some r ∧ s = ⟨118,[(0,.lit (.string name0)),(3,.ptr 0 0),(4,.ptr 1 0)],[.box [J x3_0,VI' x3_1,VI' x3_2],.box [J t4_0,VI' t4_1_1,VI' t4_2_1]]⟩) ?_ ?_
 refine CutN.of (fun s=>∃ x3_0_2 x3_1_2 x3_2_2 t4_0_2 t4_1_3 t4_2_3 t27,Arr.reduce.j6 name0 x3_0_2 x3_1_2 x3_2_2 t4_0_2 t4_1_3 t4_2_3 t27 = some r ∧ s = ⟨118,[(0,.lit (.string name0)),(3,.ptr 0 0),(4,.ptr 1 0),(27,.lit (.bool t27))],[.box [J x3_0_2,VI' x3_1_2,VI' x3_2_2],.box [J t4_0_2,VI' t4_1_3,VI' t4_2_3]]⟩) ?_ ?_
 refine CutN.of (fun s=>∃ logicals6_2 anyKind7_1 t27_1,Arr.reduce.j8 name0 x1 t4_1 t4_2 logicals6_2 anyKind7_1 t27_1 = some r ∧ s = ⟨118,[(0,.lit (.string name0)),(3,.ptr 0 0),(4,.ptr 1 0),(6,.lit (.bool logicals6_2)),(7,.lit (.bool anyKind7_1)),(27,.lit (.bool t27_1))],[.box [J x1.Kind,VI' x1.Shape,VI' x1.Elems],.box [J 0,VI' t4_1,VI' t4_2]]⟩) ?_ ?_
 rcases logicals6_1 with _ | _
 have hj1:=bif_f hj0
 exact B' [0,1] ⟨_,_,_,hj1,rfl⟩
 have hj1:=bif_t hj0
 refine N' hj1 fun _ hj2=>?_
 exact B' [0,1] ⟨_,_,_,hj2,rfl⟩
 rintro s ⟨_,_,t27_1,hj0,rfl⟩
 unfold Arr.reduce.j8 at hj0
 rcases t27_1 with _ | _
 have hj1:=bif_f hj0
 refine C' hj1 (fun hj3=>?_) fun hj3=>?_
 exact B' [0,1] ⟨_,_,_,_,_,_,_,hj3,rfl⟩
 refine C' hj3 (fun hj5=>?_) fun hj5=>?_
 exact B' [0,1] ⟨_,_,_,_,_,_,_,hj5,rfl⟩
 refine Gate.go (A' hj5 Arr.isNumber_ok fun _ hj6=>?_)
 refine N' hj6 fun _ hj7=>?_
 exact B' [0,1] ⟨_,_,_,_,_,_,_,hj7,rfl⟩
 have hj1:=bif_t hj0
 exact B' [0,1] ⟨_,_,_,_,_,_,_,hj1,rfl⟩
 rintro s ⟨_,_,_,_,_,_,t27,hj0,rfl⟩
 unfold Arr.reduce.j6 at hj0
 rcases t27 with _ | _
 have hj1:=bif_f hj0
 refine CutN.of (fun s=>∃ x3_0_3 x3_1_3 x3_2_3 t4_0_3 t4_1_4 t4_2_4 t47,Arr.reduce.j7 name0 x3_0_3 x3_1_3 x3_2_3 t4_0_3 t4_1_4 t4_2_4 t47 = some r ∧ s = ⟨118,[(0,.lit (.string name0)),(3,.ptr 0 0),(4,.ptr 1 0),(47,.lit (.bool t47))],[.box [J x3_0_3,VI' x3_1_3,VI' x3_2_3],.box [J t4_0_3,VI' t4_1_4,VI' t4_2_4]]⟩) ?_ ?_
 refine Gate.go (A' hj1 Arr.isScalar_ok fun t49 hj2=>?_)
 rcases t49 with _ | _
 have hj3:=bif_f hj2
 exact B' [0,1] ⟨_,_,_,_,_,_,_,hj3,rfl⟩
 have hj3:=bif_t hj2
 refine N' hj3 fun _ hj4=>?_
 exact B' [0,1] ⟨_,_,_,_,_,_,_,hj4,rfl⟩
 rintro s ⟨_,_,_,_,_,_,t47,hj0,rfl⟩
 unfold Arr.reduce.j7 at hj0
 rcases t47 with _ | _
 have hj1:=bif_f hj0
 exact B' [0,1] ⟨_,_,_,_,_,_,hj1,rfl⟩
 have hj1:=bif_t hj0
 refine Gate.go ?_
 refine V' ?_
 refine V' ?_
 have ehj1_0:=Option.some.inj hj1
 subst ehj1_0
 exact Returns.frozen (r:=.tup [api.Array.enc ((⟨0,[],[]⟩:api.Array)),J 71]) [] rfl rfl (WV.tups ⟨(WV.aggs ⟨.s,(.nilsVs _),(.nilsVs _),trivial⟩),.s,trivial⟩) ⟨rfl,rfl⟩
 have hj1:=bif_t hj0
 refine Gate.go ?_
 refine V' ?_
 refine V' ?_
 have ehj1_0:=Option.some.inj hj1
 subst ehj1_0
 exact Returns.frozen (r:=.tup [api.Array.enc ((⟨0,[],[]⟩:api.Array)),J 70]) [] rfl rfl (WV.tups ⟨(WV.aggs ⟨.s,(.nilsVs _),(.nilsVs _),trivial⟩),.s,trivial⟩) ⟨rfl,rfl⟩
 rintro s ⟨x3_0,x3_1,x3_2,t4_0,t4_1_1,t4_2_1,hj0,rfl⟩
 unfold Arr.reduce.j2 at hj0
 refine CutN.of (fun s=>∃ x3_0_1 x3_1_1 x3_2_1 t4_0_1 t4_1_2 t4_2_2,Arr.reduce.j3 name0 x3_0_1 x3_1_1 x3_2_1 t4_0_1 t4_1_2 t4_2_2 = some r ∧ s = ⟨118,[(0,.lit (.string name0)),(3,.ptr 0 0),(4,.ptr 1 0)],[.box [J x3_0_1,VI' x3_1_1,VI' x3_2_1],.box [J t4_0_1,VI' t4_1_2,VI' t4_2_2]]⟩) ?_ ?_
 refine C' hj0 (fun hj2=>?_) fun hj2=>?_
 refine C' hj2 (fun hj4=>?_) fun hj4=>?_
 refine CutN.of (fun s=>∃ t73,Arr.reduce.j4 name0 x3_0 x3_1 x3_2 t4_0 t4_1_1 t4_2_1 t73 = some r ∧ s = ⟨118,[(0,.lit (.string name0)),(3,.ptr 0 0),(4,.ptr 1 0),(55,.lit (.string name0)),(73,.lit (.bool t73))],[.box [J x3_0,VI' x3_1,VI' x3_2],.box [J t4_0,VI' t4_1_1,VI' t4_2_1]]⟩) ?_ ?_
 refine C' hj4 (fun hj6=>?_) fun hj6=>?_
 refine N' hj6 fun _ hj7=>?_
 exact B' [0,1] ⟨_,hj7,rfl⟩
 exact B' [0,1] ⟨_,hj6,rfl⟩
 rintro s ⟨t73,hj0,rfl⟩
 unfold Arr.reduce.j4 at hj0
 rcases t73 with _ | _
 have hj1:=bif_f hj0
 refine CutN.of (fun s=>∃ t81,Arr.reduce.j5 name0 x3_0 x3_1 x3_2 t4_0 t4_1_1 t4_2_1 t81 = some r ∧ s = ⟨118,[(0,.lit (.string name0)),(3,.ptr 0 0),(4,.ptr 1 0),(81,.lit (.bool t81))],[.box [J x3_0,VI' x3_1,VI' x3_2],.box [J t4_0,VI' t4_1_1,VI' t4_2_1]]⟩) ?_ ?_
 refine C' hj1 (fun hj3=>?_) fun hj3=>?_
 refine N' hj3 fun _ hj4=>?_
 exact B' [0,1] ⟨_,hj4,rfl⟩
 exact B' [0,1] ⟨_,hj3,rfl⟩
 rintro s ⟨t81,hj0,rfl⟩
 unfold Arr.reduce.j5 at hj0
 rcases t81 with _ | _
 have hj1:=bif_f hj0
 exact B' [0,1] ⟨_,_,_,_,_,_,hj1,rfl⟩
 have hj1:=bif_t hj0
 cases hj1
 have hj1:=bif_t hj0
 cases hj1
 obtain ⟨t70,et70,hj5⟩:=letk_elim hj4
 refine Nm.mk ⟨t70,by rw [et70,List.length_map],?_⟩
 refine Gate.go ?_
 refine V' ?_
 refine Gate.go (A' hj5 Arr.scalar_ok fun _ hj6=>?_)
 refine V' ?_
 exact R' (E:=E8') hj6
 refine DrawB.ofFN 2 [.box [J x3_0,VI' x3_1,VI' x3_2],.box [J t4_0,VI' t4_1_1,VI' t4_2_1],.arr 1 [],.arr 1 []] 2 4 [[0],[0],[],[2],[0],[0],[3],[2,3],[1,2,3],[]] [[],[],[],[2],[],[],[3],[],[1],[]] [none,none,none,some 2,none,none,some 3,none,none,none] Tryz_mixed (by kernel_rfl) rfl rfl rfl (by kernel_rfl) ?_
 refine FNode.rd (F:=[0]) (W:=[]) (.ptr 0 1) ?_ rfl rfl ?_
 rfl
 refine FNode.rd (F:=[0]) (W:=[]) (VI' x3_1) ?_ rfl rfl ?_
 rfl
 obtain ⟨t60,et60,hj3⟩:=letk_elim hj2
 refine FNode.no (W:=[]) (J t60) ?_ rfl ?_
 refine Nm.mk ⟨t60,by rw [et60,List.length_map],?_⟩
 rfl
 refine FNode.nw (F:=[2]) (W:=[2]) (.ref 4 0 ((([t60]).map (eI .i64)).length)) (.ref 2 0 ((([t60]).map (eI .i64)).length)) [.box [J x3_0,VI' x3_1,VI' x3_2],.box [J t4_0,VI' t4_1_1,VI' t4_2_1],.arr 1 (([t60]).map (eI .i64)),.arr 1 []] [.dead,.dead,.arr 1 [],.dead] (.arr 1 (([t60]).map (eI .i64))) ?_ rfl rfl rfl rfl ⟨_,rfl⟩ (.inr ⟨0,(([t60]).map (eI .i64)).length,rfl,rfl⟩) rfl rfl ?_
 refine Nm.mk ⟨([t60]).map (eI .i64),rfl,?_⟩
 rfl
 refine FNode.rd (F:=[0]) (W:=[]) (.ptr 0 1) ?_ rfl rfl ?_
 rfl
 refine FNode.rd (F:=[0]) (W:=[]) (VI' x3_1) ?_ rfl rfl ?_
 rfl
 obtain ⟨t64,et64,hj4⟩:=bind_elim hj3
 refine FNode.nw (F:=[3]) (W:=[3]) (.ref 4 0 ((t64.map (eI .i64)).length)) (.ref 3 0 ((t64.map (eI .i64)).length)) [.box [J x3_0,VI' x3_1,VI' x3_2],.box [J t4_0,VI' t4_1_1,VI' t4_2_1],.arr 1 (([t60]).map (eI .i64)),.arr 1 (t64.map (eI .i64))] [.dead,.dead,.dead,.arr 1 []] (.arr 1 (t64.map (eI .i64))) ?_ rfl rfl rfl rfl ⟨_,rfl⟩ (.inr ⟨0,(t64.map (eI .i64)).length,rfl,rfl⟩) rfl rfl ?_
 refine CallN.fresh (s:=1) (es:=t64.map (eI .i64)) (Slcs.Clone___int_int__ok et64) rfl ?_
 rfl
 refine FNode.rd (F:=[2,3]) (W:=[]) (.agg [J 1,.ref 2 0 ((([t60]).map (eI .i64)).length),.ref 3 0 ((t64.map (eI .i64)).length)]) ?_ rfl rfl ?_
 refine V' ?_
 rfl
 refine FNode.pl (F:=[1,2,3]) (W:=[1]) (.undef) [.box [J x3_0,VI' x3_1,VI' x3_2],.box [J 1,.ref 2 0 ((([t60]).map (eI .i64)).length),.ref 3 0 ((t64.map (eI .i64)).length)],.arr 1 (([t60]).map (eI .i64)),.arr 1 (t64.map (eI .i64))] ?_ rfl rfl rfl rfl ?_
 refine V' ?_
 rfl
 refine FNode.no (W:=[]) (J 0) ?_ rfl ?_
 rfl
 have ehj4_0:=Option.some.inj hj4
 subst ehj4_0
 exact Returns.frozen (r:=.tup [api.Array.enc ((⟨1,[t60],t64⟩:api.Array)),J 0]) [2,3] rfl rfl (WV.tups ⟨(WV.aggs ⟨.s,(WV.all (k:=2) (by decide) rfl),(WV.all (k:=3) (by decide) rfl),trivial⟩),.s,trivial⟩) ⟨rfl,rfl⟩
 rintro s ⟨x3_0_1,x3_1_1,x3_2_1,t4_0_1,t4_1_2,t4_2_2,hj0,rfl⟩
 unfold Arr.reduce.j3 at hj0
 obtain ⟨t90,et90,hj1⟩:=letk_elim hj0
 refine Nm.mk ⟨t90,by rw [et90,List.length_map],?_⟩
 unfold Arr.reduce.l0 at hj1
 refine LoopB.of (σ:=Int × Int) (ρ:=api.Array × Int) (fun v:Int × Int=>Arr.reduce.s0 name0 x3_0_1 x3_1_1 x3_2_1 t4_0_1 t4_1_2 t4_2_2 t90 v.1 v.2) (fun v=>(⟨118,[(0,.lit (.string name0)),(3,.ptr 0 0),(4,.ptr 1 0),(8,J v.1),(89,VI' x3_2_1),(90,J t90),(91,J v.2)],[.box [J x3_0_1,VI' x3_1_1,VI' x3_2_1],.box [J t4_0_1,VI' t4_1_2,VI' t4_2_2]]⟩:St)) (0,0) hj1 (B' [0,1] rfl) ?_
 rintro _ ⟨n8,t91⟩ x1 hs0_0 hl1 hr1
 replace hs0_0:Arr.reduce.s0 name0 x3_0_1 x3_1_1 x3_2_1 t4_0_1 t4_1_2 t4_2_2 t90 n8 t91 = some x1:=hs0_0
 unfold Arr.reduce.s0 at hs0_0
 refine C' hs0_0 (fun hs0_2=>?_) fun hs0_2=>?_
 obtain ⟨_,hs0_2u,ehs0_2_0⟩:=map_elim hs0_2
 have ehs0_2_0:=(hr1 _ ehs0_2_0.symm).symm
 subst ehs0_2_0
 refine C' hs0_2u (fun hs0_2u1=>?_) fun hs0_2u1=>?_
 refine C' hs0_2u1 (fun hs0_2u3=>?_) fun hs0_2u3=>?_
 refine Gate.go ?_
 refine V' ?_
 refine Gate.go (A' hs0_2u3 Arr.scalar_ok fun _ hs0_2u4=>?_)
 refine V' ?_
 exact R' (E:=E8') hs0_2u4
 refine N' hs0_2u3 fun _ hs0_2u4=>?_
 refine Gate.go (A' hs0_2u4 Arr.logical_ok fun _ hs0_2u5=>?_)
 refine Gate.go (A' hs0_2u5 Arr.scalar_ok fun _ hs0_2u6=>?_)
 refine V' ?_
 exact R' (E:=E8') hs0_2u6
 obtain ⟨t105,et105,hs0_2u2⟩:=letk_elim hs0_2u1
 refine Nm.mk ⟨t105,by rw [et105,List.length_map],?_⟩
 refine N' hs0_2u2 fun _ hs0_2u3=>?_
 refine Gate.go (A' hs0_2u3 Arr.logical_ok fun _ hs0_2u4=>?_)
 refine Gate.go (A' hs0_2u4 Arr.scalar_ok fun _ hs0_2u5=>?_)
 refine V' ?_
 exact R' (E:=E8') hs0_2u5
 obtain ⟨chs0_3,hs0_3⟩:=chk_elim hs0_2
 obtain ⟨_,et93,hs0_4⟩:=bind_elim hs0_3
 refine Side.mk chs0_3 ?_
 refine At.by et93 ?_
 refine N' hs0_4 fun _ hs0_5=>?_
 refine N' hs0_5 fun _ hs0_6=>?_
 exact B' [0,1] ⟨_,hl1 _ (Option.some.inj hs0_6).symm,rfl⟩
noncomputable def Slcs.Min___int_int_.s0 (x0:List Int) (m3 i4:Int):Option ((Int × Int) ⊕ Int) :=
 letk ((x0.length:Int)) fun t14 =>
 letk (decide (i4 < t14)) fun t15 =>
 bif t15 then
 chk (0 ≤ i4) <|
 Option.bind (x0[i4.toNat]?) fun t21 =>
 letk (if t21 < m3 then t21 else m3) fun t23 =>
 letk (IntKind.i64.wrap (i4 + (1:Int))) fun t17 =>
 some (.inl (t23,t17))
 else
 some (.inr m3)
noncomputable def Slcs.Min___int_int_.l0 (x0:List Int) (m3 i4:Int):Option Int:=loopO (fun v:Int × Int=>Slcs.Min___int_int_.s0 x0 v.1 v.2) (m3,i4)
noncomputable def Slcs.Min___int_int_.j0 (x0:List Int):Option Int :=
 chk (0 ≤ (0:Int)) <|
 Option.bind (x0[(0:Int).toNat]?) fun t10 =>
 Slcs.Min___int_int_.l0 x0 t10 1
noncomputable def Slcs.Min___int_int_ (x0:List Int):Option Int :=
 letk ((x0.length:Int)) fun t6 =>
 letk (decide (t6 < (1:Int))) fun t7 =>
 bif t7 then
 none
 else
 Slcs.Min___int_int_.j0 x0
theorem Slcs.Min___int_int__ok {x0:List Int} {r:Int} (h0:Slcs.Min___int_int_ x0 = some r):Gives Tryz.prog 131 [VI' x0] (J r):=by
 unfold Slcs.Min___int_int_ at h0
 refine W' [(0,3)] Tryz.func131 ?_
 refine CutN.of (fun s=>Slcs.Min___int_int_.j0 x0 = some r ∧ s = ⟨25,[(0,VI' x0)],[]⟩) ?_ ?_
 obtain ⟨t6,et6,h1⟩:=letk_elim h0
 refine Nm.mk ⟨t6,by rw [et6,List.length_map],?_⟩
 refine C' h1 (fun h3=>?_) fun h3=>?_
 exact B' [] ⟨h3,rfl⟩
 cases h3
 rintro s ⟨hj0,rfl⟩
 unfold Slcs.Min___int_int_.j0 at hj0
 obtain ⟨chj1,hj1⟩:=chk_elim hj0
 obtain ⟨t10,et10,hj2⟩:=bind_elim hj1
 refine Side.mk chj1 ?_
 refine At.by et10 ?_
 unfold Slcs.Min___int_int_.l0 at hj2
 refine LoopB.of (σ:=Int × Int) (ρ:=Int) (fun v:Int × Int=>Slcs.Min___int_int_.s0 x0 v.1 v.2) (fun v=>(⟨25,[(0,VI' x0),(3,J v.1),(4,J v.2)],[]⟩:St)) (t10,1) hj2 (B' [] rfl) ?_
 rintro _ ⟨m3,i4⟩ x1 hs0_0 hl1 hr1
 replace hs0_0:Slcs.Min___int_int_.s0 x0 m3 i4 = some x1:=hs0_0
 unfold Slcs.Min___int_int_.s0 at hs0_0
 obtain ⟨t14,et14,hs0_1⟩:=letk_elim hs0_0
 refine Nm.mk ⟨t14,by rw [et14,List.length_map],?_⟩
 refine C' hs0_1 (fun hs0_3=>?_) fun hs0_3=>?_
 have ehs0_3u_0:=hr1 _ (Option.some.inj hs0_3).symm
 have hs0_3u:=congrArg some ehs0_3u_0
 exact R' (E:=E2') hs0_3u
 obtain ⟨chs0_4,hs0_4⟩:=chk_elim hs0_3
 obtain ⟨_,et21,hs0_5⟩:=bind_elim hs0_4
 refine Side.mk chs0_4 ?_
 refine At.by et21 ?_
 refine N' hs0_5 fun _ hs0_6=>?_
 refine N' hs0_6 fun _ hs0_7=>?_
 exact B' [] ⟨_,hl1 _ (Option.some.inj hs0_7).symm,rfl⟩
noncomputable def Arr.reshape.j1 (t38 x2_0_1:Int) (x2_1_1 x2_2_1:List Int) (s3_0_1:Int) (s3_1_1 s3_2_1:List Int) (t4_0_1:Int) (t4_1_1 t4_2_1:List Int):Option (api.Array × Int) :=
 Option.bind (Slcs.Clone___int_int_ s3_2_1) fun t53 =>
 chk (0 ≤ t38 ∧ t38 ≤ (x2_2_1.length:Int)) <|
 letk ((x2_2_1.drop 0).take (t38.toNat - 0)) fun t57 =>
 Option.bind (Slcs.Clone___int_int_ t57) fun t58 =>
 some ((⟨x2_0_1,t53,t58⟩:api.Array),0)
noncomputable def Arr.reshape.j2 (t38 x2_0_2:Int) (x2_1_2 x2_2_2:List Int) (s3_0_2:Int) (s3_1_2 s3_2_2:List Int) (t4_0_2:Int) (t4_1_2 t4_2_2:List Int) (t47:Bool):Option (api.Array × Int) :=
 bif t47 then
 some ((⟨0,[],[]⟩:api.Array),30)
 else
 Arr.reshape.j1 t38 x2_0_2 x2_1_2 x2_2_2 s3_0_2 s3_1_2 s3_2_2 t4_0_2 t4_1_2 t4_2_2
noncomputable def Arr.reshape.j0 (x2_0:Int) (x2_1 x2_2:List Int) (s3_0:Int) (s3_1 s3_2:List Int) (t4_0:Int) (t4_1 t4_2:List Int):Option (api.Array × Int) :=
 Option.bind (Arr.size s3_2) fun t38 =>
 letk (decide (t38 < (0:Int))) fun t40 =>
 bif t40 then
 Arr.reshape.j2 t38 x2_0 x2_1 x2_2 s3_0 s3_1 s3_2 t4_0 t4_1 t4_2 true
 else
 letk ((x2_2.length:Int)) fun t45 =>
 letk (decide (t38 > t45)) fun t46 =>
 Arr.reshape.j2 t38 x2_0 x2_1 x2_2 s3_0 s3_1 s3_2 t4_0 t4_1 t4_2 t46
noncomputable def Arr.reshape.j3 (x2_0_3:Int) (x2_1_3 x2_2_3:List Int) (s3_0_3:Int) (s3_1_3 s3_2_3:List Int) (t4_0_3:Int) (t4_1_3 t4_2_3:List Int) (t18:Bool):Option (api.Array × Int) :=
 bif t18 then
 some ((⟨0,[],[]⟩:api.Array),2)
 else
 Arr.reshape.j0 x2_0_3 x2_1_3 x2_2_3 s3_0_3 s3_1_3 s3_2_3 t4_0_3 t4_1_3 t4_2_3
noncomputable def Arr.reshape (x0 s1:api.Array):Option (api.Array × Int) :=
 letk (s1.Kind != (1:Int)) fun t10 =>
 bif t10 then
 some ((⟨0,[],[]⟩:api.Array),70)
 else
 letk ((s1.Shape.length:Int)) fun t15 =>
 letk (t15 != (1:Int)) fun t16 =>
 bif t16 then
 some ((⟨0,[],[]⟩:api.Array),71)
 else
 letk ((s1.Elems.length:Int)) fun t21 =>
 letk (decide (t21 < (1:Int))) fun t22 =>
 bif t22 then
 Arr.reshape.j3 x0.Kind x0.Shape x0.Elems s1.Kind s1.Shape s1.Elems 0 ([]) ([]) true
 else
 letk ((s1.Elems.length:Int)) fun t26 =>
 letk (decide (t26 > (3:Int))) fun t27 =>
 bif t27 then
 Arr.reshape.j3 x0.Kind x0.Shape x0.Elems s1.Kind s1.Shape s1.Elems 0 ([]) ([]) true
 else
 Option.bind (Slcs.Min___int_int_ s1.Elems) fun t32 =>
 letk (decide (t32 < (0:Int))) fun t33 =>
 Arr.reshape.j3 x0.Kind x0.Shape x0.Elems s1.Kind s1.Shape s1.Elems 0 ([]) ([]) t33
theorem Arr.reshape_ok {x0 s1:api.Array} {r:api.Array × Int} (h0:Arr.reshape x0 s1 = some r):Gives Tryz.prog 88 [api.Array.enc x0,api.Array.enc s1] (.tup [api.Array.enc r.1,J r.2]):=by
 unfold Arr.reshape at h0
 refine W' [(0,7),(0,10),(57,19),(28,13)] Tryz.func88 ?_
 refine V' ?_
 refine V' ?_
 refine V' ?_
 refine CutN.of (fun s=>∃ x2_0 x2_1 x2_2 s3_0 s3_1 s3_2 t4_0 t4_1 t4_2,Arr.reshape.j0 x2_0 x2_1 x2_2 s3_0 s3_1 s3_2 t4_0 t4_1 t4_2 = some r ∧ s = ⟨60,[(2,.ptr 0 0),(3,.ptr 1 0),(4,.ptr 2 0)],[.box [J x2_0,VI' x2_1,VI' x2_2],.box [J s3_0,VI' s3_1,VI' s3_2],.box [J t4_0,VI' t4_1,VI' t4_2]]⟩) ?_ ?_
 refine C' h0 (fun h2=>?_) fun h2=>?_
 obtain ⟨t15,et15,h3⟩:=letk_elim h2
 refine Nm.mk ⟨t15,by rw [et15,List.length_map],?_⟩
 refine C' h3 (fun h5=>?_) fun h5=>?_
 refine CutN.of (fun s=>∃ x2_0_3 x2_1_3 x2_2_3 s3_0_3 s3_1_3 s3_2_3 t4_0_3 t4_1_3 t4_2_3 t18,Arr.reshape.j3 x2_0_3 x2_1_3 x2_2_3 s3_0_3 s3_1_3 s3_2_3 t4_0_3 t4_1_3 t4_2_3 t18 = some r ∧ s = ⟨60,[(2,.ptr 0 0),(3,.ptr 1 0),(4,.ptr 2 0),(18,.lit (.bool t18))],[.box [J x2_0_3,VI' x2_1_3,VI' x2_2_3],.box [J s3_0_3,VI' s3_1_3,VI' s3_2_3],.box [J t4_0_3,VI' t4_1_3,VI' t4_2_3]]⟩) ?_ ?_
 obtain ⟨t21,et21,h6⟩:=letk_elim h5
 refine Nm.mk ⟨t21,by rw [et21,List.length_map],?_⟩
 refine C' h6 (fun h8=>?_) fun h8=>?_
 obtain ⟨t26,et26,h9⟩:=letk_elim h8
 refine Nm.mk ⟨t26,by rw [et26,List.length_map],?_⟩
 refine C' h9 (fun h11=>?_) fun h11=>?_
 refine Gate.go (A' h11 Slcs.Min___int_int__ok fun _ h12=>?_)
 refine N' h12 fun _ h13=>?_
 exact B' [0,1,2] ⟨_,_,_,_,_,_,_,_,_,_,h13,rfl⟩
 exact B' [0,1,2] ⟨_,_,_,_,_,_,_,_,_,_,h11,rfl⟩
 exact B' [0,1,2] ⟨_,_,_,_,_,_,_,_,_,_,h8,rfl⟩
 rintro s ⟨_,_,_,_,_,_,_,_,_,t18,hj0,rfl⟩
 unfold Arr.reshape.j3 at hj0
 rcases t18 with _ | _
 have hj1:=bif_f hj0
 exact B' [0,1,2] ⟨_,_,_,_,_,_,_,_,_,hj1,rfl⟩
 have hj1:=bif_t hj0
 refine Gate.go ?_
 refine V' ?_
 refine V' ?_
 have ehj1_0:=Option.some.inj hj1
 subst ehj1_0
 exact Returns.frozen (r:=.tup [api.Array.enc ((⟨0,[],[]⟩:api.Array)),J 2]) [] rfl rfl (WV.tups ⟨(WV.aggs ⟨.s,(.nilsVs _),(.nilsVs _),trivial⟩),.s,trivial⟩) ⟨rfl,rfl⟩
 refine Gate.go ?_
 refine V' ?_
 refine V' ?_
 have eh5_0:=Option.some.inj h5
 subst eh5_0
 exact Returns.frozen (r:=.tup [api.Array.enc ((⟨0,[],[]⟩:api.Array)),J 71]) [] rfl rfl (WV.tups ⟨(WV.aggs ⟨.s,(.nilsVs _),(.nilsVs _),trivial⟩),.s,trivial⟩) ⟨rfl,rfl⟩
 refine Gate.go ?_
 refine V' ?_
 refine V' ?_
 have eh2_0:=Option.some.inj h2
 subst eh2_0
 exact Returns.frozen (r:=.tup [api.Array.enc ((⟨0,[],[]⟩:api.Array)),J 70]) [] rfl rfl (WV.tups ⟨(WV.aggs ⟨.s,(.nilsVs _),(.nilsVs _),trivial⟩),.s,trivial⟩) ⟨rfl,rfl⟩
 rintro s ⟨_,_,_,_,_,_,_,_,_,hj0,rfl⟩
 unfold Arr.reshape.j0 at hj0
 refine Gate.go (A' hj0 Arr.size_ok fun t38 hj1=>?_)
 refine CutN.of (fun s=>∃ x2_0_1 x2_1_1 x2_2_1 s3_0_1 s3_1_1 s3_2_1 t4_0_1 t4_1_1 t4_2_1,Arr.reshape.j1 t38 x2_0_1 x2_1_1 x2_2_1 s3_0_1 s3_1_1 s3_2_1 t4_0_1 t4_1_1 t4_2_1 = some r ∧ s = ⟨60,[(2,.ptr 0 0),(3,.ptr 1 0),(4,.ptr 2 0),(6,J t38)],[.box [J x2_0_1,VI' x2_1_1,VI' x2_2_1],.box [J s3_0_1,VI' s3_1_1,VI' s3_2_1],.box [J t4_0_1,VI' t4_1_1,VI' t4_2_1]]⟩) ?_ ?_
 refine CutN.of (fun s=>∃ x2_0_2 x2_1_2 x2_2_2 s3_0_2 s3_1_2 s3_2_2 t4_0_2 t4_1_2 t4_2_2 t47,Arr.reshape.j2 t38 x2_0_2 x2_1_2 x2_2_2 s3_0_2 s3_1_2 s3_2_2 t4_0_2 t4_1_2 t4_2_2 t47 = some r ∧ s = ⟨60,[(2,.ptr 0 0),(3,.ptr 1 0),(4,.ptr 2 0),(6,J t38),(47,.lit (.bool t47))],[.box [J x2_0_2,VI' x2_1_2,VI' x2_2_2],.box [J s3_0_2,VI' s3_1_2,VI' s3_2_2],.box [J t4_0_2,VI' t4_1_2,VI' t4_2_2]]⟩) ?_ ?_
 refine C' hj1 (fun hj3=>?_) fun hj3=>?_
 obtain ⟨t45,et45,hj4⟩:=letk_elim hj3
 refine Nm.mk ⟨t45,by rw [et45,List.length_map],?_⟩
 refine N' hj4 fun _ hj5=>?_
 exact B' [0,1,2] ⟨_,_,_,_,_,_,_,_,_,_,hj5,rfl⟩
 exact B' [0,1,2] ⟨_,_,_,_,_,_,_,_,_,_,hj3,rfl⟩
 rintro s ⟨_,_,_,_,_,_,_,_,_,t47,hj0,rfl⟩
 unfold Arr.reshape.j2 at hj0
 rcases t47 with _ | _
 have hj1:=bif_f hj0
 exact B' [0,1,2] ⟨_,_,_,_,_,_,_,_,_,hj1,rfl⟩
 have hj1:=bif_t hj0
 refine Gate.go ?_
 refine V' ?_
 refine V' ?_
 have ehj1_0:=Option.some.inj hj1
 subst ehj1_0
 exact Returns.frozen (r:=.tup [api.Array.enc ((⟨0,[],[]⟩:api.Array)),J 30]) [] rfl rfl (WV.tups ⟨(WV.aggs ⟨.s,(.nilsVs _),(.nilsVs _),trivial⟩),.s,trivial⟩) ⟨rfl,rfl⟩
 rintro s ⟨x2_0_1,x2_1_1,x2_2_1,s3_0_1,s3_1_1,s3_2_1,t4_0_1,t4_1_1,t4_2_1,hj0,rfl⟩
 unfold Arr.reshape.j1 at hj0
 refine L' [0,1,2] [2,3,4,6] ?_
 refine DrawB.ofFN 2 [.box [J x2_0_1,VI' x2_1_1,VI' x2_2_1],.box [J s3_0_1,VI' s3_1_1,VI' s3_2_1],.box [J t4_0_1,VI' t4_1_1,VI' t4_2_1],.arr 1 [],.arr 1 []] 3 5 [[0],[0],[1],[1],[3],[0],[0],[],[],[4],[3,4],[2,3,4],[]] [[],[],[],[],[3],[],[],[],[],[4],[],[2],[]] [none,none,none,none,some 3,none,none,none,none,some 4,none,none,none] Tryz_mixed (by kernel_rfl) rfl rfl rfl (by kernel_rfl) ?_
 refine FNode.rd (F:=[0]) (W:=[]) (.ptr 0 0) ?_ rfl rfl ?_
 rfl
 refine FNode.rd (F:=[0]) (W:=[]) (J x2_0_1) ?_ rfl rfl ?_
 rfl
 refine FNode.rd (F:=[1]) (W:=[]) (.ptr 1 2) ?_ rfl rfl ?_
 rfl
 refine FNode.rd (F:=[1]) (W:=[]) (VI' s3_2_1) ?_ rfl rfl ?_
 rfl
 obtain ⟨t53,et53,hj1⟩:=bind_elim hj0
 refine FNode.nw (F:=[3]) (W:=[3]) (.ref 5 0 ((t53.map (eI .i64)).length)) (.ref 3 0 ((t53.map (eI .i64)).length)) [.box [J x2_0_1,VI' x2_1_1,VI' x2_2_1],.box [J s3_0_1,VI' s3_1_1,VI' s3_2_1],.box [J t4_0_1,VI' t4_1_1,VI' t4_2_1],.arr 1 (t53.map (eI .i64)),.arr 1 []] [.dead,.dead,.dead,.arr 1 [],.dead] (.arr 1 (t53.map (eI .i64))) ?_ rfl rfl rfl rfl ⟨_,rfl⟩ (.inr ⟨0,(t53.map (eI .i64)).length,rfl,rfl⟩) rfl rfl ?_
 refine CallN.fresh (s:=1) (es:=t53.map (eI .i64)) (Slcs.Clone___int_int__ok et53) rfl ?_
 rfl
 refine FNode.rd (F:=[0]) (W:=[]) (.ptr 0 2) ?_ rfl rfl ?_
 rfl
 refine FNode.rd (F:=[0]) (W:=[]) (VI' x2_2_1) ?_ rfl rfl ?_
 rfl
 refine FNode.no (W:=[]) (J t38) ?_ rfl ?_
 rfl
 obtain ⟨chj2,hj2⟩:=chk_elim hj1
 obtain ⟨t57,et57,hj3⟩:=letk_elim hj2
 refine FNode.no (W:=[]) (VI' t57) ?_ rfl ?_
 refine Side.mk (by simpa only [List.length_map] using chj2) ?_
 refine Nm.mk ⟨t57.map (eI .i64),by rw [et57]; simp only [List.map_take,List.map_drop,List.length_map],?_⟩
 rfl
 obtain ⟨t58,et58,hj4⟩:=bind_elim hj3
 refine FNode.nw (F:=[4]) (W:=[4]) (.ref 5 0 ((t58.map (eI .i64)).length)) (.ref 4 0 ((t58.map (eI .i64)).length)) [.box [J x2_0_1,VI' x2_1_1,VI' x2_2_1],.box [J s3_0_1,VI' s3_1_1,VI' s3_2_1],.box [J t4_0_1,VI' t4_1_1,VI' t4_2_1],.arr 1 (t53.map (eI .i64)),.arr 1 (t58.map (eI .i64))] [.dead,.dead,.dead,.dead,.arr 1 []] (.arr 1 (t58.map (eI .i64))) ?_ rfl rfl rfl rfl ⟨_,rfl⟩ (.inr ⟨0,(t58.map (eI .i64)).length,rfl,rfl⟩) rfl rfl ?_
 refine CallN.fresh (s:=1) (es:=t58.map (eI .i64)) (Slcs.Clone___int_int__ok et58) rfl ?_
 rfl
 refine FNode.rd (F:=[3,4]) (W:=[]) (.agg [J x2_0_1,.ref 3 0 ((t53.map (eI .i64)).length),.ref 4 0 ((t58.map (eI .i64)).length)]) ?_ rfl rfl ?_
 refine V' ?_
 rfl
 refine FNode.pl (F:=[2,3,4]) (W:=[2]) (.undef) [.box [J x2_0_1,VI' x2_1_1,VI' x2_2_1],.box [J s3_0_1,VI' s3_1_1,VI' s3_2_1],.box [J x2_0_1,.ref 3 0 ((t53.map (eI .i64)).length),.ref 4 0 ((t58.map (eI .i64)).length)],.arr 1 (t53.map (eI .i64)),.arr 1 (t58.map (eI .i64))] ?_ rfl rfl rfl rfl ?_
 refine V' ?_
 rfl
 refine FNode.no (W:=[]) (J 0) ?_ rfl ?_
 rfl
 have ehj4_0:=Option.some.inj hj4
 subst ehj4_0
 exact Returns.frozen (r:=.tup [api.Array.enc ((⟨x2_0_1,t53,t58⟩:api.Array)),J 0]) [3,4] rfl rfl (WV.tups ⟨(WV.aggs ⟨.s,(WV.all (k:=3) (by decide) rfl),(WV.all (k:=4) (by decide) rfl),trivial⟩),.s,trivial⟩) ⟨rfl,rfl⟩
noncomputable def Arr.Kind.j3 (op0:ByteArray) (a1 b2:Int) (t53:Bool):Option Int :=
 bif t53 then
 some 2
 else
 Option.bind (Slcs.Contains___string_string_ ([⟨#[61,61]⟩,⟨#[47,61]⟩,⟨#[46,97,110,100,46]⟩,⟨#[46,111,114,46]⟩]) op0) fun t68 =>
 bif t68 then
 letk (a1 == (2:Int)) fun t71 =>
 bif t71 then
 letk (b2 == (2:Int)) fun t75 =>
 bif t75 then
 some 2
 else
 some 0
 else
 some 0
 else
 some 0
noncomputable def Arr.Kind.j2 (op0:ByteArray) (a1 b2:Int) (t38:Bool):Option Int :=
 bif t38 then
 letk (if b2 > a1 then b2 else a1) fun t52 =>
 some t52
 else
 Option.bind (Slcs.Contains___string_string_ ([⟨#[61,61]⟩,⟨#[47,61]⟩,⟨#[60]⟩,⟨#[60,61]⟩,⟨#[62]⟩,⟨#[62,61]⟩]) op0) fun t56 =>
 bif t56 then
 Option.bind (Arr.isNumber a1) fun t59 =>
 bif t59 then
 Option.bind (Arr.isNumber b2) fun t63 =>
 Arr.Kind.j3 op0 a1 b2 t63
 else
 Arr.Kind.j3 op0 a1 b2 false
 else
 Arr.Kind.j3 op0 a1 b2 false
noncomputable def Arr.Kind.j1 (op0:ByteArray) (a1 b2:Int) (t23:Bool):Option Int :=
 bif t23 then
 some a1
 else
 letk (b2 == (0:Int)) fun t37 =>
 bif t37 then
 some 0
 else
 Option.bind (Slcs.Contains___string_string_ ([⟨#[43]⟩,⟨#[45]⟩,⟨#[42]⟩,⟨#[47]⟩]) op0) fun t41 =>
 bif t41 then
 Option.bind (Arr.isNumber a1) fun t44 =>
 bif t44 then
 Option.bind (Arr.isNumber b2) fun t48 =>
 Arr.Kind.j2 op0 a1 b2 t48
 else
 Arr.Kind.j2 op0 a1 b2 false
 else
 Arr.Kind.j2 op0 a1 b2 false
noncomputable def Arr.Kind.j0 (op0:ByteArray) (a1 b2:Int) (t7:Bool):Option Int :=
 bif t7 then
 some a1
 else
 letk (b2 == (0:Int)) fun t25 =>
 bif t25 then
 letk (op0.toList == (⟨#[46,110,111,116,46]⟩:ByteArray).toList) fun t28 =>
 bif t28 then
 letk (a1 == (2:Int)) fun t32 =>
 Arr.Kind.j1 op0 a1 b2 t32
 else
 Arr.Kind.j1 op0 a1 b2 false
 else
 Arr.Kind.j1 op0 a1 b2 false
noncomputable def Arr.Kind (op0:ByteArray) (a1 b2:Int):Option Int :=
 letk (b2 == (0:Int)) fun t9 =>
 bif t9 then
 letk (op0.toList == (⟨#[43]⟩:ByteArray).toList) fun t12 =>
 bif t12 then
 Option.bind (Arr.isNumber a1) fun t20_1 =>
 Arr.Kind.j0 op0 a1 b2 t20_1
 else
 letk (op0.toList == (⟨#[45]⟩:ByteArray).toList) fun t15 =>
 bif t15 then
 Option.bind (Arr.isNumber a1) fun t20 =>
 Arr.Kind.j0 op0 a1 b2 t20
 else
 Arr.Kind.j0 op0 a1 b2 false
 else
 Arr.Kind.j0 op0 a1 b2 false
theorem Arr.Kind_ok {op0:ByteArray} {a1 b2 r:Int} (h0:Arr.Kind op0 a1 b2 = some r):Gives Tryz.prog 27 [.lit (.string op0),J a1,J b2] (J r):=by
 unfold Arr.Kind at h0
 refine W' [(17,5),(33,9),(48,17),(63,21)] Tryz.func27 ?_
 refine CutN.of (fun s=>∃ t7,Arr.Kind.j0 op0 a1 b2 t7 = some r ∧ s = ⟨77,[(0,.lit (.string op0)),(1,J a1),(2,J b2),(7,.lit (.bool t7))],[]⟩) ?_ ?_
 refine C' h0 (fun h2=>?_) fun h2=>?_
 exact B' [] ⟨_,h2,rfl⟩
 refine C' h2 (fun h4=>?_) fun h4=>?_
 refine C' h4 (fun h6=>?_) fun h6=>?_
 exact B' [] ⟨_,h6,rfl⟩
 refine Gate.go (A' h6 Arr.isNumber_ok fun _ h7=>?_)
 exact B' [] ⟨_,h7,rfl⟩
 refine Gate.go (A' h4 Arr.isNumber_ok fun _ h5=>?_)
 exact B' [] ⟨_,h5,rfl⟩
 rintro s ⟨t7,hj0,rfl⟩
 unfold Arr.Kind.j0 at hj0
 rcases t7 with _ | _
 have hj1:=bif_f hj0
 refine CutN.of (fun s=>∃ t23,Arr.Kind.j1 op0 a1 b2 t23 = some r ∧ s = ⟨77,[(0,.lit (.string op0)),(1,J a1),(2,J b2),(23,.lit (.bool t23))],[]⟩) ?_ ?_
 refine C' hj1 (fun hj3=>?_) fun hj3=>?_
 exact B' [] ⟨_,hj3,rfl⟩
 refine C' hj3 (fun hj5=>?_) fun hj5=>?_
 exact B' [] ⟨_,hj5,rfl⟩
 refine N' hj5 fun _ hj6=>?_
 exact B' [] ⟨_,hj6,rfl⟩
 rintro s ⟨t23,hj0,rfl⟩
 unfold Arr.Kind.j1 at hj0
 rcases t23 with _ | _
 have hj1:=bif_f hj0
 refine C' hj1 (fun hj3=>?_) fun hj3=>?_
 refine CutN.of (fun s=>∃ t38,Arr.Kind.j2 op0 a1 b2 t38 = some r ∧ s = ⟨77,[(0,.lit (.string op0)),(1,J a1),(2,J b2),(38,.lit (.bool t38))],[]⟩) ?_ ?_
 refine Gate.go ?_
 refine Nm.mk ⟨([⟨#[43]⟩,⟨#[45]⟩,⟨#[42]⟩,⟨#[47]⟩]).map (eS),rfl,?_⟩
 obtain ⟨t41,et41,hj4⟩:=bind_elim hj3
 refine Gate.weak (Sees.of (Weak.objs (k:=77) (keep:=[]) (frz:=[0]) (m:=0) (ts:=[(0,.lit (.string op0)),(1,J a1),(2,J b2),(39,.vs 1 (([⟨#[43]⟩,⟨#[45]⟩,⟨#[42]⟩,⟨#[47]⟩]).map (eS))),(40,.lit (.string op0))]) (hs:=[]) rfl (by decide) rfl rfl ⟨rfl,fun _ h=>by cases h⟩ ⟨.s,.s,.s,(WV.all (k:=0) (by decide) rfl),.s,trivial⟩)) ?_
 refine Z' (Slcs.Contains___string_string__ok et41) ?_
 rcases t41 with _ | _
 have hj5:=bif_f hj4
 exact B' [] ⟨_,hj5,rfl⟩
 have hj5:=bif_t hj4
 refine Gate.go (A' hj5 Arr.isNumber_ok fun t44 hj6=>?_)
 rcases t44 with _ | _
 have hj7:=bif_f hj6
 exact B' [] ⟨_,hj7,rfl⟩
 have hj7:=bif_t hj6
 refine Gate.go (A' hj7 Arr.isNumber_ok fun _ hj8=>?_)
 exact B' [] ⟨_,hj8,rfl⟩
 rintro s ⟨t38,hj0,rfl⟩
 unfold Arr.Kind.j2 at hj0
 rcases t38 with _ | _
 have hj1:=bif_f hj0
 refine CutN.of (fun s=>∃ t53,Arr.Kind.j3 op0 a1 b2 t53 = some r ∧ s = ⟨77,[(0,.lit (.string op0)),(1,J a1),(2,J b2),(53,.lit (.bool t53))],[]⟩) ?_ ?_
 refine Gate.go ?_
 refine Nm.mk ⟨([⟨#[61,61]⟩,⟨#[47,61]⟩,⟨#[60]⟩,⟨#[60,61]⟩,⟨#[62]⟩,⟨#[62,61]⟩]).map (eS),rfl,?_⟩
 obtain ⟨t56,et56,hj2⟩:=bind_elim hj1
 refine Gate.weak (Sees.of (Weak.objs (k:=77) (keep:=[]) (frz:=[0]) (m:=0) (ts:=[(0,.lit (.string op0)),(1,J a1),(2,J b2),(54,.vs 1 (([⟨#[61,61]⟩,⟨#[47,61]⟩,⟨#[60]⟩,⟨#[60,61]⟩,⟨#[62]⟩,⟨#[62,61]⟩]).map (eS))),(55,.lit (.string op0))]) (hs:=[]) rfl (by decide) rfl rfl ⟨rfl,fun _ h=>by cases h⟩ ⟨.s,.s,.s,(WV.all (k:=0) (by decide) rfl),.s,trivial⟩)) ?_
 refine Z' (Slcs.Contains___string_string__ok et56) ?_
 rcases t56 with _ | _
 have hj3:=bif_f hj2
 exact B' [] ⟨_,hj3,rfl⟩
 have hj3:=bif_t hj2
 refine Gate.go (A' hj3 Arr.isNumber_ok fun t59 hj4=>?_)
 rcases t59 with _ | _
 have hj5:=bif_f hj4
 exact B' [] ⟨_,hj5,rfl⟩
 have hj5:=bif_t hj4
 refine Gate.go (A' hj5 Arr.isNumber_ok fun _ hj6=>?_)
 exact B' [] ⟨_,hj6,rfl⟩
 rintro s ⟨t53,hj0,rfl⟩
 unfold Arr.Kind.j3 at hj0
 rcases t53 with _ | _
 have hj1:=bif_f hj0
 refine Gate.go ?_
 refine Nm.mk ⟨([⟨#[61,61]⟩,⟨#[47,61]⟩,⟨#[46,97,110,100,46]⟩,⟨#[46,111,114,46]⟩]).map (eS),rfl,?_⟩
 obtain ⟨t68,et68,hj2⟩:=bind_elim hj1
 refine Gate.weak (Sees.of (Weak.objs (k:=77) (keep:=[]) (frz:=[0]) (m:=0) (ts:=[(1,J a1),(2,J b2),(66,.vs 1 (([⟨#[61,61]⟩,⟨#[47,61]⟩,⟨#[46,97,110,100,46]⟩,⟨#[46,111,114,46]⟩]).map (eS))),(67,.lit (.string op0))]) (hs:=[]) rfl (by decide) rfl rfl ⟨rfl,fun _ h=>by cases h⟩ ⟨.s,.s,(WV.all (k:=0) (by decide) rfl),.s,trivial⟩)) ?_
 refine Z' (Slcs.Contains___string_string__ok et68) ?_
 rcases t68 with _ | _
 have hj3:=bif_f hj2
 exact R' (E:=E2') hj3
 have hj3:=bif_t hj2
 refine C' hj3 (fun hj5=>?_) fun hj5=>?_
 exact R' (E:=E2') hj5
 refine C' hj5 (fun hj7=>?_) fun hj7=>?_
 exact R' (E:=E2') hj7
 exact R' (E:=E2') hj7
 have hj1:=bif_t hj0
 exact R' (E:=E2') hj1
 have hj1:=bif_t hj0
 refine N' hj1 fun _ hj2=>?_
 exact R' (E:=E2') hj2
 exact R' (E:=E2') hj3
 have hj1:=bif_t hj0
 exact R' (E:=E2') hj1
 have hj1:=bif_t hj0
 exact R' (E:=E2') hj1
noncomputable def Arr.to.j0 (kind0 v3_0 v3_1 t4_0 t4_1:Int):Option (api.Value × Int) :=
 Option.bind (Arr.bytes v3_0) fun _ =>
 Option.bind (Arr.bytes kind0) fun _ =>
 none
noncomputable def Arr.to.j1 (kind0 v3_0_1 v3_1_1 t4_0_1 t4_1_1:Int) (t21:Bool):Option (api.Value × Int) :=
 bif t21 then
 some ((⟨0,0⟩:api.Value),70)
 else
 letk (v3_0_1 == (1:Int)) fun t35 =>
 bif t35 then
 Option.bind (Arr.bytes kind0) fun _ =>
 none
 else
 letk (kind0 == (1:Int)) fun t50 =>
 bif t50 then
 Option.bind (Arr.bytes v3_0_1) fun _ =>
 none
 else
 Arr.to.j0 kind0 v3_0_1 v3_1_1 t4_0_1 t4_1_1
noncomputable def Arr.to (kind0:Int) (v1:api.Value):Option (api.Value × Int) :=
 letk (kind0 == v1.Kind) fun t19 =>
 bif t19 then
 some ((⟨v1.Kind,v1.N⟩:api.Value),0)
 else
 Option.bind (Arr.isNumber kind0) fun t23 =>
 letk (!t23) fun t24 =>
 bif t24 then
 Arr.to.j1 kind0 v1.Kind v1.N 0 0 true
 else
 Option.bind (Arr.isNumber v1.Kind) fun t28 =>
 letk (!t28) fun t29 =>
 Arr.to.j1 kind0 v1.Kind v1.N 0 0 t29
abbrev E9':api.Value × Int → AV:=fun r=>(.tup [api.Value.enc r.1,J r.2])
theorem Arr.to_ok {kind0:Int} {v1:api.Value} {r:api.Value × Int} (h0:Arr.to kind0 v1 = some r):Gives Tryz.prog 76 [J kind0,api.Value.enc v1] (.tup [api.Value.enc r.1,J r.2]):=by
 unfold Arr.to at h0
 refine W' [(0,13),(31,9)] Tryz.func76 ?_
 refine V' ?_
 refine V' ?_
 refine CutN.of (fun s=>∃ v3_0 v3_1 t4_0 t4_1,Arr.to.j0 kind0 v3_0 v3_1 t4_0 t4_1 = some r ∧ s = ⟨87,[(0,J kind0),(3,.ptr 0 0),(4,.ptr 1 0)],[.box [J v3_0,J v3_1],.box [J t4_0,J t4_1]]⟩) ?_ ?_
 refine C' h0 (fun h2=>?_) fun h2=>?_
 refine CutN.of (fun s=>∃ v3_0_1 v3_1_1 t4_0_1 t4_1_1 t21,Arr.to.j1 kind0 v3_0_1 v3_1_1 t4_0_1 t4_1_1 t21 = some r ∧ s = ⟨87,[(0,J kind0),(3,.ptr 0 0),(4,.ptr 1 0),(21,.lit (.bool t21))],[.box [J v3_0_1,J v3_1_1],.box [J t4_0_1,J t4_1_1]]⟩) ?_ ?_
 refine Gate.go (A' h2 Arr.isNumber_ok fun _ h3=>?_)
 refine C' h3 (fun h5=>?_) fun h5=>?_
 refine Gate.go (A' h5 Arr.isNumber_ok fun _ h6=>?_)
 refine N' h6 fun _ h7=>?_
 exact B' [0,1] ⟨_,_,_,_,_,h7,rfl⟩
 exact B' [0,1] ⟨_,_,_,_,_,h5,rfl⟩
 rintro s ⟨_,_,_,_,t21,hj0,rfl⟩
 unfold Arr.to.j1 at hj0
 rcases t21 with _ | _
 have hj1:=bif_f hj0
 refine C' hj1 (fun hj3=>?_) fun hj3=>?_
 refine C' hj3 (fun hj5=>?_) fun hj5=>?_
 exact B' [0,1] ⟨_,_,_,_,hj5,rfl⟩
 refine L' [0,1] [0,3,4] ?_
 refine DrawB.ofG [none,none,none,none,none,none,none,none,none,none,none,none,none] Tryz_mixed (by kernel_rfl) (by kernel_rfl) ?_
 refine D' rfl (D' rfl ?_)
 refine DC' hj5 (fun e=>Z' (Arr.bytes_ok e) rfl) fun _ hj6=>?_
 refine D' rfl (D' rfl ?_)
 cases hj6
 refine L' [0,1] [0,3,4] ?_
 refine DrawB.ofG [none,none,none,none,none,none,none,none,none,none,none,none] Tryz_mixed (by kernel_rfl) (by kernel_rfl) ?_
 refine D' rfl ?_
 refine DC' hj3 (fun e=>Z' (Arr.bytes_ok e) rfl) fun _ hj4=>?_
 refine D' rfl (D' rfl ?_)
 cases hj4
 have hj1:=bif_t hj0
 refine Gate.go ?_
 refine V' ?_
 refine V' ?_
 exact R' (E:=E9') hj1
 refine V' ?_
 exact R' (E:=E9') h2
 rintro s ⟨_,_,_,_,hj0,rfl⟩
 unfold Arr.to.j0 at hj0
 refine L' [0,1] [0,3,4] ?_
 refine DrawB.ofG [none,none,none,none,none,none,none,none,none,none,none,none,none,none,none] Tryz_mixed (by kernel_rfl) (by kernel_rfl) ?_
 refine D' rfl (D' rfl ?_)
 refine DC' hj0 (fun e=>Z' (Arr.bytes_ok e) rfl) fun _ hj1=>?_
 refine D' rfl ?_
 refine DC' hj1 (fun e=>Z' (Arr.bytes_ok e) rfl) fun _ hj2=>?_
 refine D' rfl (D' rfl ?_)
 cases hj2
noncomputable def Arr.number (kind0 n1:Int):Option api.Value :=
 Option.bind (Arr.to kind0 (⟨1,n1⟩:api.Value)) fun (t11_0,_) =>
 some (⟨t11_0.Kind,t11_0.N⟩:api.Value)
theorem Arr.number_ok {kind0 n1:Int} {r:api.Value} (h0:Arr.number kind0 n1 = some r):Gives Tryz.prog 129 [J kind0,J n1] (api.Value.enc r):=by
 unfold Arr.number at h0
 refine W' [] Tryz.func129 ?_
 refine V' ?_
 refine Gate.go ?_
 refine V' ?_
 obtain ⟨⟨_,_⟩,et11,h1⟩:=bind_elim h0
 refine Gate.go ?_
 refine Z' (Arr.to_ok et11) ?_
 refine V' ?_
 refine V' ?_
 refine V' ?_
 exact R' (E:=E7') h1
noncomputable def Arr.at_.j0 (i1_1 a2_0:Int) (a2_1 a2_2:List Int) (t4_0 t4_1:Int):Option api.Value :=
 chk (0 ≤ i1_1) <|
 Option.bind (a2_2[i1_1.toNat]?) fun t12 =>
 some (⟨a2_0,t12⟩:api.Value)
noncomputable def Arr.at_ (a0:api.Array) (i1:Int):Option api.Value :=
 Option.bind (Arr.isScalar (⟨a0.Kind,a0.Shape,a0.Elems⟩:api.Array)) fun t6 =>
 bif t6 then
 Arr.at_.j0 0 a0.Kind a0.Shape a0.Elems 0 0
 else
 Arr.at_.j0 i1 a0.Kind a0.Shape a0.Elems 0 0
theorem Arr.at__ok {a0:api.Array} {i1:Int} {r:api.Value} (h0:Arr.at_ a0 i1 = some r):Gives Tryz.prog 61 [api.Array.enc a0,J i1] (api.Value.enc r):=by
 unfold Arr.at_ at h0
 refine W' [(0,3)] Tryz.func61 ?_
 refine V' ?_
 refine V' ?_
 refine CutN.of (fun s=>∃ i1_1 a2_0 a2_1 a2_2 t4_0 t4_1,Arr.at_.j0 i1_1 a2_0 a2_1 a2_2 t4_0 t4_1 = some r ∧ s = ⟨15,[(1,J i1_1),(2,.ptr 0 0),(4,.ptr 1 0)],[.box [J a2_0,VI' a2_1,VI' a2_2],.box [J t4_0,J t4_1]]⟩) ?_ ?_
 refine Gate.go (A' h0 Arr.isScalar_ok fun t6 h1=>?_)
 rcases t6 with _ | _
 have h2:=bif_f h1
 exact B' [0,1] ⟨_,_,_,_,_,_,h2,rfl⟩
 have h2:=bif_t h1
 exact B' [0,1] ⟨_,_,_,_,_,_,h2,rfl⟩
 rintro s ⟨i1_1,a2_0,a2_1,a2_2,t4_0,t4_1,hj0,rfl⟩
 unfold Arr.at_.j0 at hj0
 refine DrawB.ofFN 0 [.box [J a2_0,VI' a2_1,VI' a2_2],.box [J t4_0,J t4_1]] 2 2 [[0],[0],[0],[0],[],[],[],[],[1]] [[],[],[],[],[],[],[],[],[1]] [none,none,none,none,none,none,none,none,none] Tryz_mixed (by kernel_rfl) rfl rfl rfl (by kernel_rfl) ?_
 refine FNode.rd (F:=[0]) (W:=[]) (.ptr 0 0) ?_ rfl rfl ?_
 rfl
 refine FNode.rd (F:=[0]) (W:=[]) (J a2_0) ?_ rfl rfl ?_
 rfl
 refine FNode.rd (F:=[0]) (W:=[]) (.ptr 0 2) ?_ rfl rfl ?_
 rfl
 refine FNode.rd (F:=[0]) (W:=[]) (VI' a2_2) ?_ rfl rfl ?_
 rfl
 refine FNode.no (W:=[]) (J i1_1) ?_ rfl ?_
 rfl
 obtain ⟨chj1,hj1⟩:=chk_elim hj0
 obtain ⟨t12,et12,hj2⟩:=bind_elim hj1
 refine FNode.no (W:=[]) (.iptr (J t12)) ?_ rfl ?_
 refine Side.mk chj1 ?_
 refine At.by et12 ?_
 rfl
 refine FNode.no (W:=[]) (J t12) ?_ rfl ?_
 rfl
 refine FNode.no (W:=[]) (.agg [J a2_0,J t12]) ?_ rfl ?_
 refine V' ?_
 rfl
 refine FNode.pl (F:=[1]) (W:=[1]) (.undef) [.box [J a2_0,VI' a2_1,VI' a2_2],.box [J a2_0,J t12]] ?_ rfl rfl rfl rfl ?_
 refine V' ?_
 rfl
 exact R' (E:=E7') hj2
noncomputable def Arr.integer (n0:Int):Option (api.Value × Int) :=
 Option.bind (Arr.fits 1 n0) fun t5 =>
 letk (!t5) fun t6 =>
 bif t6 then
 some ((⟨0,0⟩:api.Value),10)
 else
 some ((⟨1,n0⟩:api.Value),0)
theorem Arr.integer_ok {n0:Int} {r:api.Value × Int} (h0:Arr.integer n0 = some r):Gives Tryz.prog 142 [J n0] (.tup [api.Value.enc r.1,J r.2]):=by
 unfold Arr.integer at h0
 refine W' [] Tryz.func142 ?_
 refine V' ?_
 refine Gate.go (A' h0 Arr.fits_ok fun _ h1=>?_)
 refine C' h1 (fun h3=>?_) fun h3=>?_
 refine Gate.go ?_
 refine V' ?_
 refine V' ?_
 exact R' (E:=E9') h3
 refine Gate.go ?_
 refine V' ?_
 refine V' ?_
 exact R' (E:=E9') h3
noncomputable def Arr.reckon (op0:ByteArray) (a1 b2:api.Value):Option (api.Value × Int) :=
 letk (if b2.Kind > a1.Kind then b2.Kind else a1.Kind) fun t17 =>
 Option.bind (Arr.to t17 (⟨a1.Kind,a1.N⟩:api.Value)) fun (t21_0,_) =>
 Option.bind (Arr.to t17 (⟨b2.Kind,b2.N⟩:api.Value)) fun (t27_0,_) =>
 letk (t17 == (1:Int)) fun t31 =>
 bif t31 then
 letk (op0.toList == (⟨#[43]⟩:ByteArray).toList) fun t34 =>
 bif t34 then
 letk (IntKind.i64.wrap (t21_0.N + t27_0.N)) fun t39 =>
 Option.bind (Arr.integer t39) fun (t40_0,t40_1) =>
 some ((⟨t40_0.Kind,t40_0.N⟩:api.Value),t40_1)
 else
 letk (op0.toList == (⟨#[45]⟩:ByteArray).toList) fun t44 =>
 bif t44 then
 letk (IntKind.i64.wrap (t21_0.N - t27_0.N)) fun t49 =>
 Option.bind (Arr.integer t49) fun (t50_0,t50_1) =>
 some ((⟨t50_0.Kind,t50_0.N⟩:api.Value),t50_1)
 else
 letk (op0.toList == (⟨#[42]⟩:ByteArray).toList) fun t54 =>
 bif t54 then
 letk (IntKind.i64.wrap (t21_0.N * t27_0.N)) fun t59 =>
 Option.bind (Arr.integer t59) fun (t60_0,t60_1) =>
 some ((⟨t60_0.Kind,t60_0.N⟩:api.Value),t60_1)
 else
 letk (t27_0.N == (0:Int)) fun t65 =>
 bif t65 then
 some ((⟨0,0⟩:api.Value),90)
 else
 chk (t27_0.N ≠ 0) <|
 letk (IntKind.i64.wrap (t21_0.N.tdiv t27_0.N)) fun t71 =>
 Option.bind (Arr.integer t71) fun (t72_0,t72_1) =>
 some ((⟨t72_0.Kind,t72_0.N⟩:api.Value),t72_1)
 else
 letk (op0.toList == (⟨#[43]⟩:ByteArray).toList) fun t78 =>
 bif t78 then
 Option.bind (Arr.bytes t17) fun _ =>
 none
 else
 letk (op0.toList == (⟨#[45]⟩:ByteArray).toList) fun t78_1 =>
 bif t78_1 then
 Option.bind (Arr.bytes t17) fun _ =>
 none
 else
 letk (op0.toList == (⟨#[42]⟩:ByteArray).toList) fun t78_2 =>
 bif t78_2 then
 Option.bind (Arr.bytes t17) fun _ =>
 none
 else
 letk (op0.toList == (⟨#[47]⟩:ByteArray).toList) fun t78_3 =>
 bif t78_3 then
 Option.bind (Arr.bytes t17) fun _ =>
 none
 else
 none
theorem Arr.reckon_ok {op0:ByteArray} {a1 b2:api.Value} {r:api.Value × Int} (h0:Arr.reckon op0 a1 b2 = some r):Gives Tryz.prog 110 [.lit (.string op0),api.Value.enc a1,api.Value.enc b2] (.tup [api.Value.enc r.1,J r.2]):=by
 unfold Arr.reckon at h0
 refine W' [] Tryz.func110 ?_
 refine V' ?_
 refine V' ?_
 refine V' ?_
 refine N' h0 fun _ h1=>?_
 obtain ⟨⟨_,_⟩,et21,h2⟩:=bind_elim h1
 refine Gate.go ?_
 refine Z' (Arr.to_ok et21) ?_
 refine V' ?_
 obtain ⟨⟨_,_⟩,et27,h3⟩:=bind_elim h2
 refine Gate.go ?_
 refine Z' (Arr.to_ok et27) ?_
 refine V' ?_
 refine C' h3 (fun h5=>?_) fun h5=>?_
 refine MapB.of ?_
 refine ⟨SRM.start rfl rfl rfl (Nat.le_of_ble_eq_true rfl) ?_⟩
 refine SRM.ins (kind:=.string) rfl rfl rfl (by decide) rfl rfl (.inl rfl) (fun _=>rfl) (fun _=>rfl) rfl ?_
 refine SRM.ins (kind:=.string) rfl rfl rfl (by decide) rfl rfl (.inl rfl) (fun _=>rfl) (fun _=>rfl) rfl ?_
 refine SRM.ins (kind:=.string) rfl rfl rfl (by decide) rfl rfl (.inl rfl) (fun _=>rfl) (fun _=>rfl) rfl ?_
 refine SRM.ins (kind:=.string) rfl rfl rfl (by decide) rfl rfl (.inl rfl) (fun _=>rfl) (fun _=>rfl) rfl ?_
 refine SRM.mv (.inl rfl) rfl rfl (Nat.le_of_ble_eq_true rfl) (by decide) ?_
 refine SRM.op rfl (by decide) ?_
 refine ⟨rfl,?_⟩
 obtain ⟨t78,et78,h6⟩:=letk_elim h5
 rcases t78 with _ | _
 have h7:=bif_f h6
 obtain ⟨t78_1,et78_1,h8⟩:=letk_elim h7
 rcases t78_1 with _ | _
 have h9:=bif_f h8
 obtain ⟨t78_2,et78_2,h10⟩:=letk_elim h9
 rcases t78_2 with _ | _
 have h11:=bif_f h10
 obtain ⟨t78_3,et78_3,h12⟩:=letk_elim h11
 rcases t78_3 with _ | _
 have h13:=bif_f h12
 cases h13
 have h13:=bif_t h12
 refine SRM.look (i:=3) (kind:=.string) (v:=.func (.func 146) #[] #[]) (av:=.fn (.func 146) [] []) rfl rfl (by decide) rfl rfl (.inl rfl) rfl (fun _ _ _=>rel_fn0 _) ((findE_str op0 [(⟨#[43]⟩,.func (.func 143) #[] #[]),(⟨#[45]⟩,.func (.func 144) #[] #[]),(⟨#[42]⟩,.func (.func 145) #[] #[]),(⟨#[47]⟩,.func (.func 146) #[] #[])] 0).trans (congrArg some (by simp only [findS,← et78,← et78_1,← et78_2,← et78_3,cond]))) ?_
 refine L' [0,1,2] [4,5,6,8,9] ?_
 refine DrawB.ofG [none,none,none,none,none,none,none,none,none,none,none,none,none,none,none] Tryz_mixed (by kernel_rfl) (by kernel_rfl) ?_
 refine D' rfl (D' rfl ?_)
 refine DC' h13 (fun e=>Z' (Arr.bytes_ok e) rfl) fun _ h14=>?_
 refine D' rfl (D' rfl (D' rfl (D' rfl ?_)))
 cases h14
 have h11:=bif_t h10
 refine SRM.look (i:=2) (kind:=.string) (v:=.func (.func 145) #[] #[]) (av:=.fn (.func 145) [] []) rfl rfl (by decide) rfl rfl (.inl rfl) rfl (fun _ _ _=>rel_fn0 _) ((findE_str op0 [(⟨#[43]⟩,.func (.func 143) #[] #[]),(⟨#[45]⟩,.func (.func 144) #[] #[]),(⟨#[42]⟩,.func (.func 145) #[] #[]),(⟨#[47]⟩,.func (.func 146) #[] #[])] 0).trans (congrArg some (by simp only [findS,← et78,← et78_1,← et78_2,cond]))) ?_
 refine L' [0,1,2] [4,5,6,8,9] ?_
 refine DrawB.ofG [none,none,none,none,none,none,none,none,none,none,none,none,none,none,none] Tryz_mixed (by kernel_rfl) (by kernel_rfl) ?_
 refine D' rfl (D' rfl ?_)
 refine DC' h11 (fun e=>Z' (Arr.bytes_ok e) rfl) fun _ h12=>?_
 refine D' rfl (D' rfl (D' rfl (D' rfl ?_)))
 cases h12
 have h9:=bif_t h8
 refine SRM.look (i:=1) (kind:=.string) (v:=.func (.func 144) #[] #[]) (av:=.fn (.func 144) [] []) rfl rfl (by decide) rfl rfl (.inl rfl) rfl (fun _ _ _=>rel_fn0 _) ((findE_str op0 [(⟨#[43]⟩,.func (.func 143) #[] #[]),(⟨#[45]⟩,.func (.func 144) #[] #[]),(⟨#[42]⟩,.func (.func 145) #[] #[]),(⟨#[47]⟩,.func (.func 146) #[] #[])] 0).trans (congrArg some (by simp only [findS,← et78,← et78_1,cond]))) ?_
 refine L' [0,1,2] [4,5,6,8,9] ?_
 refine DrawB.ofG [none,none,none,none,none,none,none,none,none,none,none,none,none,none,none] Tryz_mixed (by kernel_rfl) (by kernel_rfl) ?_
 refine D' rfl (D' rfl ?_)
 refine DC' h9 (fun e=>Z' (Arr.bytes_ok e) rfl) fun _ h10=>?_
 refine D' rfl (D' rfl (D' rfl (D' rfl ?_)))
 cases h10
 have h7:=bif_t h6
 refine SRM.look (i:=0) (kind:=.string) (v:=.func (.func 143) #[] #[]) (av:=.fn (.func 143) [] []) rfl rfl (by decide) rfl rfl (.inl rfl) rfl (fun _ _ _=>rel_fn0 _) ((findE_str op0 [(⟨#[43]⟩,.func (.func 143) #[] #[]),(⟨#[45]⟩,.func (.func 144) #[] #[]),(⟨#[42]⟩,.func (.func 145) #[] #[]),(⟨#[47]⟩,.func (.func 146) #[] #[])] 0).trans (congrArg some (by simp only [findS,← et78,cond]))) ?_
 refine L' [0,1,2] [4,5,6,8,9] ?_
 refine DrawB.ofG [none,none,none,none,none,none,none,none,none,none,none,none,none,none,none] Tryz_mixed (by kernel_rfl) (by kernel_rfl) ?_
 refine D' rfl (D' rfl ?_)
 refine DC' h7 (fun e=>Z' (Arr.bytes_ok e) rfl) fun _ h8=>?_
 refine D' rfl (D' rfl (D' rfl (D' rfl ?_)))
 cases h8
 refine C' h5 (fun h7=>?_) fun h7=>?_
 refine C' h7 (fun h9=>?_) fun h9=>?_
 refine C' h9 (fun h11=>?_) fun h11=>?_
 refine C' h11 (fun h13=>?_) fun h13=>?_
 refine S' h13 fun h14=>?_
 refine N' h14 fun _ h15=>?_
 obtain ⟨⟨_,_⟩,et72,h16⟩:=bind_elim h15
 refine Gate.go ?_
 refine Z' (Arr.integer_ok et72) ?_
 refine V' ?_
 exact R' (E:=E9') h16
 refine Gate.go ?_
 refine V' ?_
 refine V' ?_
 exact R' (E:=E9') h13
 refine N' h11 fun _ h12=>?_
 obtain ⟨⟨_,_⟩,et60,h13⟩:=bind_elim h12
 refine Gate.go ?_
 refine Z' (Arr.integer_ok et60) ?_
 refine V' ?_
 exact R' (E:=E9') h13
 refine N' h9 fun _ h10=>?_
 obtain ⟨⟨_,_⟩,et50,h11⟩:=bind_elim h10
 refine Gate.go ?_
 refine Z' (Arr.integer_ok et50) ?_
 refine V' ?_
 exact R' (E:=E9') h11
 refine N' h7 fun _ h8=>?_
 obtain ⟨⟨_,_⟩,et40,h9⟩:=bind_elim h8
 refine Gate.go ?_
 refine Z' (Arr.integer_ok et40) ?_
 refine V' ?_
 exact R' (E:=E9') h9
noncomputable def Arr.one.j0 (op0:ByteArray) (a4_0 a4_1 b5_0 b5_1 t6_0 t6_1:Int):Option (api.Value × Int) :=
 letk (a4_0 == (2:Int)) fun t44 =>
 bif t44 then
 letk (a4_1 == b5_1) fun t49 =>
 letk (op0.toList == (⟨#[61,61]⟩:ByteArray).toList) fun t51 =>
 letk (t49 == t51) fun t52 =>
 Option.bind (Arr.logical t52) fun t53 =>
 some ((⟨t53.Kind,t53.N⟩:api.Value),0)
 else
 none
noncomputable def Arr.one.j1 (op0:ByteArray) (a1 b2:api.Value) (t31:Bool):Option (api.Value × Int) :=
 bif t31 then
 Option.bind (Arr.reckon op0 (⟨a1.Kind,a1.N⟩:api.Value) (⟨b2.Kind,b2.N⟩:api.Value)) fun (t39_0,t39_1) =>
 some ((⟨t39_0.Kind,t39_0.N⟩:api.Value),t39_1)
 else
 Arr.one.j0 op0 a1.Kind a1.N b2.Kind b2.N 0 0
noncomputable def Arr.one (op0:ByteArray) (a1 b2:api.Value):Option (api.Value × Int) :=
 letk (op0.toList == (⟨#[46,97,110,100,46]⟩:ByteArray).toList) fun t10 =>
 bif t10 then
 letk (a1.N == (1:Int)) fun t13 =>
 bif t13 then
 letk (b2.N == (1:Int)) fun t17 =>
 Option.bind (Arr.logical t17) fun t19_1 =>
 some ((⟨t19_1.Kind,t19_1.N⟩:api.Value),0)
 else
 Option.bind (Arr.logical false) fun t19 =>
 some ((⟨t19.Kind,t19.N⟩:api.Value),0)
 else
 letk (op0.toList == (⟨#[46,111,114,46]⟩:ByteArray).toList) fun t21 =>
 bif t21 then
 letk (a1.N == (1:Int)) fun t24 =>
 bif t24 then
 Option.bind (Arr.logical true) fun t30_1 =>
 some ((⟨t30_1.Kind,t30_1.N⟩:api.Value),0)
 else
 letk (b2.N == (1:Int)) fun t28 =>
 Option.bind (Arr.logical t28) fun t30 =>
 some ((⟨t30.Kind,t30.N⟩:api.Value),0)
 else
 letk (op0.toList == (⟨#[43]⟩:ByteArray).toList) fun t32 =>
 bif t32 then
 Arr.one.j1 op0 a1 b2 true
 else
 letk (op0.toList == (⟨#[45]⟩:ByteArray).toList) fun t33 =>
 bif t33 then
 Arr.one.j1 op0 a1 b2 true
 else
 letk (op0.toList == (⟨#[42]⟩:ByteArray).toList) fun t34 =>
 bif t34 then
 Arr.one.j1 op0 a1 b2 true
 else
 letk (op0.toList == (⟨#[47]⟩:ByteArray).toList) fun t35 =>
 Arr.one.j1 op0 a1 b2 t35
theorem Arr.one_ok {op0:ByteArray} {a1 b2:api.Value} {r:api.Value × Int} (h0:Arr.one op0 a1 b2 = some r):Gives Tryz.prog 60 [.lit (.string op0),api.Value.enc a1,api.Value.enc b2] (.tup [api.Value.enc r.1,J r.2]):=by
 unfold Arr.one at h0
 refine W' [(0,11),(41,21)] Tryz.func60 ?_
 refine V' ?_
 refine V' ?_
 refine V' ?_
 refine CutN.of (fun s=>∃ a4_0 a4_1 b5_0 b5_1 t6_0 t6_1,Arr.one.j0 op0 a4_0 a4_1 b5_0 b5_1 t6_0 t6_1 = some r ∧ s = ⟨60,[(0,.lit (.string op0)),(4,.ptr 0 0),(5,.ptr 1 0),(6,.ptr 2 0)],[.box [J a4_0,J a4_1],.box [J b5_0,J b5_1],.box [J t6_0,J t6_1]]⟩) ?_ ?_
 refine C' h0 (fun h2=>?_) fun h2=>?_
 refine C' h2 (fun h4=>?_) fun h4=>?_
 refine CutN.of (fun s=>∃ t31,Arr.one.j1 op0 a1 b2 t31 = some r ∧ s = ⟨60,[(0,.lit (.string op0)),(4,.ptr 0 0),(5,.ptr 1 0),(6,.ptr 2 0),(31,.lit (.bool t31))],[.box [J a1.Kind,J a1.N],.box [J b2.Kind,J b2.N],.box [J 0,J 0]]⟩) ?_ ?_
 refine C' h4 (fun h6=>?_) fun h6=>?_
 refine C' h6 (fun h8=>?_) fun h8=>?_
 refine C' h8 (fun h10=>?_) fun h10=>?_
 refine N' h10 fun _ h11=>?_
 exact B' [0,1,2] ⟨_,h11,rfl⟩
 exact B' [0,1,2] ⟨_,h10,rfl⟩
 exact B' [0,1,2] ⟨_,h8,rfl⟩
 exact B' [0,1,2] ⟨_,h6,rfl⟩
 rintro s ⟨t31,hj0,rfl⟩
 unfold Arr.one.j1 at hj0
 rcases t31 with _ | _
 have hj1:=bif_f hj0
 exact B' [0,1,2] ⟨_,_,_,_,_,_,hj1,rfl⟩
 have hj1:=bif_t hj0
 obtain ⟨⟨_,_⟩,et39,hj2⟩:=bind_elim hj1
 refine Gate.go ?_
 refine Z' (Arr.reckon_ok et39) ?_
 refine V' ?_
 exact R' (E:=E9') hj2
 refine C' h4 (fun h6=>?_) fun h6=>?_
 refine N' h6 fun _ h7=>?_
 refine Gate.go (A' h7 Arr.logical_ok fun _ h8=>?_)
 refine V' ?_
 exact R' (E:=E9') h8
 refine Gate.go (A' h6 Arr.logical_ok fun _ h7=>?_)
 refine V' ?_
 exact R' (E:=E9') h7
 refine C' h2 (fun h4=>?_) fun h4=>?_
 refine Gate.go (A' h4 Arr.logical_ok fun _ h5=>?_)
 refine V' ?_
 exact R' (E:=E9') h5
 refine N' h4 fun _ h5=>?_
 refine Gate.go (A' h5 Arr.logical_ok fun _ h6=>?_)
 refine V' ?_
 exact R' (E:=E9') h6
 rintro s ⟨_,_,_,_,_,_,hj0,rfl⟩
 unfold Arr.one.j0 at hj0
 refine C' hj0 (fun hj2=>?_) fun hj2=>?_
 cases hj2
 refine N' hj2 fun _ hj3=>?_
 refine N' hj3 fun _ hj4=>?_
 refine N' hj4 fun _ hj5=>?_
 refine Gate.go (A' hj5 Arr.logical_ok fun _ hj6=>?_)
 refine V' ?_
 exact R' (E:=E9') hj6
noncomputable def Arr.matmul_1.j0 (t1 t3:Int) (t4 t5:api.Array) (t17 t20 t24 t7_0_1 t7_1_1 sum11_0_1 sum11_1_1 e14:Int):Option ((Int × Int × Int × Int × Int) ⊕ (api.Value × Int)) :=
 letk (e14 != (0:Int)) fun t54 =>
 bif t54 then
 some (.inr ((⟨0,0⟩:api.Value),e14))
 else
 letk (IntKind.i64.wrap (t24 + (1:Int))) fun t57 =>
 some (.inl (t7_0_1,t7_1_1,sum11_0_1,sum11_1_1,t57))
noncomputable def Arr.matmul_1.s0 (t1 t3:Int) (t4 t5:api.Array) (t17 t20 t7_0 t7_1 sum11_0 sum11_1 t24:Int):Option ((Int × Int × Int × Int × Int) ⊕ (api.Value × Int)) :=
 letk (decide (t24 < t3)) fun t25 =>
 bif t25 then
 letk (IntKind.i64.wrap (t24 * t1)) fun t32 =>
 letk (IntKind.i64.wrap (t17 + t32)) fun t33 =>
 Option.bind (Arr.at_ t4 t33) fun t34 =>
 letk (IntKind.i64.wrap (t20 * t3)) fun t39 =>
 letk (IntKind.i64.wrap (t24 + t39)) fun t40 =>
 Option.bind (Arr.at_ t5 t40) fun t41 =>
 Option.bind (Arr.one ⟨#[42]⟩ t34 t41) fun (t42_0,t42_1) =>
 letk (t42_1 == (0:Int)) fun t46 =>
 bif t46 then
 Option.bind (Arr.one ⟨#[43]⟩ (⟨sum11_0,sum11_1⟩:api.Value) (⟨t42_0.Kind,t42_0.N⟩:api.Value)) fun (t50_0,t50_1) =>
 Arr.matmul_1.j0 t1 t3 t4 t5 t17 t20 t24 t7_0 t7_1 t50_0.Kind t50_0.N t50_1
 else
 Arr.matmul_1.j0 t1 t3 t4 t5 t17 t20 t24 t7_0 t7_1 sum11_0 sum11_1 t42_1
 else
 some (.inr ((⟨sum11_0,sum11_1⟩:api.Value),0))
noncomputable def Arr.matmul_1.l0 (t1 t3:Int) (t4 t5:api.Array) (t17 t20 t7_0 t7_1 sum11_0 sum11_1 t24:Int):Option (api.Value × Int):=loopO (fun v:Int × Int × Int × Int × Int=>Arr.matmul_1.s0 t1 t3 t4 t5 t17 t20 v.1 v.2.1 v.2.2.1 v.2.2.2.1 v.2.2.2.2) (t7_0,t7_1,sum11_0,sum11_1,t24)
noncomputable def Arr.matmul_1 (n0 t1 t2 t3:Int) (t4 t5:api.Array):Option (api.Value × Int) :=
 chk (t1 ≠ 0) <|
 letk (n0.tmod t1) fun t17 =>
 chk (t1 ≠ 0) <|
 letk (IntKind.i64.wrap (n0.tdiv t1)) fun t20 =>
 Option.bind (Arr.number t2 0) fun t22 =>
 Arr.matmul_1.l0 t1 t3 t4 t5 t17 t20 0 0 t22.Kind t22.N 0
theorem Arr.matmul_1_ok {n0 t1 t2 t3:Int} {t4 t5:api.Array} {r:api.Value × Int} (h0:Arr.matmul_1 n0 t1 t2 t3 t4 t5 = some r):Gives Tryz.prog 132 [J n0,.iptr (J t1),.iptr (J t2),.iptr (J t3),.iptr (api.Array.enc t4),.iptr (api.Array.enc t5)] (.tup [api.Value.enc r.1,J r.2]):=by
 unfold Arr.matmul_1 at h0
 refine W' [(0,9)] Tryz.func132 ?_
 refine V' ?_
 refine DrawB.ofG [none,none,none,none,none,none,none,none] Tryz_mixed (by kernel_rfl) (by kernel_rfl) ?_
 refine D' rfl (D' rfl ?_)
 refine DS' h0 (fun c e=>Side.mk c (n' e rfl)) fun t17 h2=>?_
 refine D' rfl (D' rfl ?_)
 refine DS' h2 (fun c e=>Side.mk c (n' e rfl)) fun t20 h4=>?_
 refine D' rfl (D' rfl ?_)
 refine Gate.go (A' h4 Arr.number_ok fun t22 h5=>?_)
 refine V' ?_
 refine V' ?_
 unfold Arr.matmul_1.l0 at h5
 refine LoopB.of (σ:=Int × Int × Int × Int × Int) (ρ:=api.Value × Int) (fun v:Int × Int × Int × Int × Int=>Arr.matmul_1.s0 t1 t3 t4 t5 t17 t20 v.1 v.2.1 v.2.2.1 v.2.2.2.1 v.2.2.2.2) (fun v=>(⟨59,[(1,.iptr (J t1)),(3,.iptr (J t3)),(4,.iptr (api.Array.enc t4)),(5,.iptr (api.Array.enc t5)),(7,.ptr 0 0),(9,J t17),(10,J t20),(11,.ptr 1 0),(23,J t3),(24,J v.2.2.2.2)],[.box [J v.1,J v.2.1],.box [J v.2.2.1,J v.2.2.2.1]]⟩:St)) (0,0,t22.Kind,t22.N,0) h5 (B' [0,1] rfl) ?_
 rintro _ ⟨t7_0,t7_1,sum11_0,sum11_1,t24⟩ x1 hs0_0 hl1 hr1
 replace hs0_0:Arr.matmul_1.s0 t1 t3 t4 t5 t17 t20 t7_0 t7_1 sum11_0 sum11_1 t24 = some x1:=hs0_0
 unfold Arr.matmul_1.s0 at hs0_0
 refine C' hs0_0 (fun hs0_2=>?_) fun hs0_2=>?_
 have ehs0_2u_0:=hr1 _ (Option.some.inj hs0_2).symm
 have hs0_2u:=congrArg some ehs0_2u_0
 refine V' ?_
 exact R' (E:=E9') hs0_2u
 refine L' [0,1] [1,3,4,5,7,9,10,11,12,23,24] ?_
 refine DrawB.ofFN 1 [.box [J t7_0,J t7_1],.box [J sum11_0,J sum11_1],.arr 1 []] 2 3 [[],[],[],[],[],[],[],[],[],[],[],[],[],[],[],[],[],[],[2],[2],[]] [[],[],[],[],[],[],[],[],[],[],[],[],[],[],[],[],[],[],[2],[2],[]] [none,none,none,none,none,none,none,none,none,none,none,none,none,none,none,none,none,none,some 2,none,none] Tryz_mixed (by kernel_rfl) rfl rfl rfl (by kernel_rfl) ?_
 refine FNode.no (W:=[]) (api.Array.enc t4) ?_ rfl ?_
 rfl
 refine FNode.no (W:=[]) (J t17) ?_ rfl ?_
 rfl
 refine FNode.no (W:=[]) (J t24) ?_ rfl ?_
 rfl
 refine FNode.no (W:=[]) (J t1) ?_ rfl ?_
 rfl
 obtain ⟨t32,et32,hs0_3⟩:=letk_elim hs0_2
 refine FNode.no (W:=[]) (J t32) ?_ rfl ?_
 refine Nm.mk ⟨t32,et32,?_⟩
 rfl
 obtain ⟨t33,et33,hs0_4⟩:=letk_elim hs0_3
 refine FNode.no (W:=[]) (J t33) ?_ rfl ?_
 refine Nm.mk ⟨t33,et33,?_⟩
 rfl
 obtain ⟨t34,et34,hs0_5⟩:=bind_elim hs0_4
 refine FNode.no (W:=[]) (api.Value.enc t34) ?_ rfl ?_
 refine Z' (Arr.at__ok et34) ?_
 rfl
 refine FNode.no (W:=[]) (api.Array.enc t5) ?_ rfl ?_
 rfl
 refine FNode.no (W:=[]) (J t24) ?_ rfl ?_
 rfl
 refine FNode.no (W:=[]) (J t20) ?_ rfl ?_
 rfl
 refine FNode.no (W:=[]) (J t3) ?_ rfl ?_
 rfl
 obtain ⟨t39,et39,hs0_6⟩:=letk_elim hs0_5
 refine FNode.no (W:=[]) (J t39) ?_ rfl ?_
 refine Nm.mk ⟨t39,et39,?_⟩
 rfl
 obtain ⟨t40,et40,hs0_7⟩:=letk_elim hs0_6
 refine FNode.no (W:=[]) (J t40) ?_ rfl ?_
 refine Nm.mk ⟨t40,et40,?_⟩
 rfl
 obtain ⟨t41,et41,hs0_8⟩:=bind_elim hs0_7
 refine FNode.no (W:=[]) (api.Value.enc t41) ?_ rfl ?_
 refine Z' (Arr.at__ok et41) ?_
 rfl
 obtain ⟨⟨t42_0,t42_1⟩,et42,hs0_9⟩:=bind_elim hs0_8
 refine FNode.no (W:=[]) (.tup [api.Value.enc t42_0,J t42_1]) ?_ rfl ?_
 refine Z' (Arr.one_ok et42) ?_
 rfl
 refine FNode.no (W:=[]) (.tup [api.Value.enc t42_0,J t42_1]) ?_ rfl ?_
 rfl
 refine FNode.no (W:=[]) (api.Value.enc t42_0) ?_ rfl ?_
 rfl
 refine FNode.no (W:=[]) (J t42_1) ?_ rfl ?_
 rfl
 refine FNode.nw (F:=[2]) (W:=[2]) (.ptr 3 0) (.ptr 2 0) [.box [J t7_0,J t7_1],.box [J sum11_0,J sum11_1],.box [J 0,J 0]] [.dead,.dead,.arr 1 []] (.box [J 0,J 0]) ?_ rfl rfl rfl rfl ⟨_,rfl⟩ (.inl ⟨0,rfl,rfl⟩) rfl rfl ?_
 refine V' ?_
 rfl
 refine FNode.pl (F:=[2]) (W:=[2]) (.undef) [.box [J t7_0,J t7_1],.box [J sum11_0,J sum11_1],.box [J t42_0.Kind,J t42_0.N]] ?_ rfl rfl rfl rfl ?_
 refine V' ?_
 rfl
 refine FNode.no (W:=[]) (J t42_1) ?_ rfl ?_
 rfl
 refine CutN.of (fun s=>∃ t7_0_1 t7_1_1 sum11_0_1 sum11_1_1 e14,Arr.matmul_1.j0 t1 t3 t4 t5 t17 t20 t24 t7_0_1 t7_1_1 sum11_0_1 sum11_1_1 e14 = some x1 ∧ s = ⟨59,[(1,.iptr (J t1)),(3,.iptr (J t3)),(4,.iptr (api.Array.enc t4)),(5,.iptr (api.Array.enc t5)),(7,.ptr 0 0),(9,J t17),(10,J t20),(11,.ptr 1 0),(14,J e14),(23,J t3),(24,J t24)],[.box [J t7_0_1,J t7_1_1],.box [J sum11_0_1,J sum11_1_1]]⟩) ?_ ?_
 refine C' hs0_9 (fun hs0_11=>?_) fun hs0_11=>?_
 exact B' [0,1] ⟨_,_,_,_,_,hs0_11,rfl⟩
 obtain ⟨⟨_,_⟩,et50,hs0_12⟩:=bind_elim hs0_11
 refine Gate.go ?_
 refine Z' (Arr.one_ok et50) ?_
 refine V' ?_
 exact B' [0,1] ⟨_,_,_,_,_,hs0_12,rfl⟩
 rintro s ⟨_,_,_,_,e14,hj0,rfl⟩
 unfold Arr.matmul_1.j0 at hj0
 refine C' hj0 (fun hj2=>?_) fun hj2=>?_
 refine N' hj2 fun _ hj3=>?_
 exact B' [0,1] ⟨_,hl1 _ (Option.some.inj hj3).symm,rfl⟩
 refine Gate.go ?_
 refine V' ?_
 refine V' ?_
 have ehj2_0:=hr1 _ (Option.some.inj hj2).symm
 subst ehj2_0
 exact Returns.pure (r:=.tup [api.Value.enc ((⟨0,0⟩:api.Value)),J e14]) rfl rfl rfl rfl ⟨rfl,rfl⟩
noncomputable def Arr.each.s0 (t16:Int) (f2:Int → Option (api.Value × Int)) (t6_0:Int) (t6_1 t6_2:List Int) (out8_0:Int) (out8_1 out8_2:List Int) (t17:Int):Option ((Int × (List Int) × (List Int) × Int × (List Int) × (List Int) × Int) ⊕ (api.Array × Int)) :=
 letk (decide (t17 < t16)) fun t18 =>
 bif t18 then
 Option.bind (f2 t17) fun (t23_0,t23_1) =>
 letk (t23_1 != (0:Int)) fun t27 =>
 bif t27 then
 some (.inr ((⟨0,[],[]⟩:api.Array),t23_1))
 else
 chk ((out8_2.length + ([t23_0.N]).length) * 8 ≤ 140737488355328) <|
 letk (out8_2 ++ ([t23_0.N])) fun t35 =>
 letk (IntKind.i64.wrap (t17 + (1:Int))) fun t37 =>
 some (.inl (t6_0,t6_1,t6_2,out8_0,out8_1,t35,t37))
 else
 some (.inr ((⟨out8_0,out8_1,out8_2⟩:api.Array),0))
noncomputable def Arr.each.l0 (t16:Int) (f2:Int → Option (api.Value × Int)) (t6_0:Int) (t6_1 t6_2:List Int) (out8_0:Int) (out8_1 out8_2:List Int) (t17:Int):Option (api.Array × Int):=loopO (fun v:Int × (List Int) × (List Int) × Int × (List Int) × (List Int) × Int=>Arr.each.s0 t16 f2 v.1 v.2.1 v.2.2.1 v.2.2.2.1 v.2.2.2.2.1 v.2.2.2.2.2.1 v.2.2.2.2.2.2) (t6_0,t6_1,t6_2,out8_0,out8_1,out8_2,t17)
noncomputable def Arr.each (kind0:Int) (shape1:List Int) (f2:Int → Option (api.Value × Int)):Option (api.Array × Int) :=
 Option.bind (Arr.size shape1) fun t16 =>
 Arr.each.l0 t16 f2 0 ([]) ([]) kind0 shape1 ([]) 0
theorem Arr.each_ok {kind0:Int} {shape1:List Int} {f2:Int → Option (api.Value × Int)} {r:api.Array × Int} {f2g:Nat} {f2gc:List AV} (hf2gc:f2gc.all pureQ.pureQ0 = true) (hf2:∀ a0 r,f2 a0 = some r → Gives Tryz.prog f2g ([J a0] ++ f2gc) (.tup [api.Value.enc r.1,J r.2])) (h0:Arr.each kind0 shape1 f2 = some r):Gives Tryz.prog 58 [J kind0,VI' shape1,.fn (.func f2g) [] f2gc] (.tup [api.Array.enc r.1,J r.2]):=by
 unfold Arr.each at h0
 refine W' [] Tryz.func58 ?_
 refine V' ?_
 refine Gate.go ?_
 refine V' ?_
 refine V' ?_
 refine V' ?_
 refine Gate.go (A' h0 Arr.size_ok fun t16 h1=>?_)
 unfold Arr.each.l0 at h1
 refine LoopB.of (σ:=Int × (List Int) × (List Int) × Int × (List Int) × (List Int) × Int) (ρ:=api.Array × Int) (fun v:Int × (List Int) × (List Int) × Int × (List Int) × (List Int) × Int=>Arr.each.s0 t16 f2 v.1 v.2.1 v.2.2.1 v.2.2.2.1 v.2.2.2.2.1 v.2.2.2.2.2.1 v.2.2.2.2.2.2) (fun v=>(⟨39,[(2,.fn (.func f2g) [] f2gc),(6,.ptr 0 0),(8,.ptr 1 0),(16,J t16),(17,J v.2.2.2.2.2.2)],[.box [J v.1,VI' v.2.1,VI' v.2.2.1],.box [J v.2.2.2.1,VI' v.2.2.2.2.1,.ref 2 0 ((v.2.2.2.2.2.1.map (eI .i64)).length)],.arr 1 (v.2.2.2.2.2.1.map (eI .i64))]⟩:St)) (0,[],[],kind0,shape1,[],0) h1 (BackS.by rfl (Sees.of (Weak.objs (keep:=[0,1]) (frz:=[]) (m:=1) rfl (by decide) rfl rfl ⟨⟨_,rfl,WO.boxs ⟨.s,(.nilsVs _),(.nilsVs _),trivial⟩⟩,⟨⟨_,rfl,WO.boxs ⟨.s,.s,(.nilsRef 2 (by decide) (by decide)),trivial⟩⟩,⟨rfl,fun _ ho=>by simp only [List.mem_cons,List.not_mem_nil,or_false] at ho; exact ⟨_,ho⟩⟩⟩⟩ ⟨(.same _ (fnq hf2gc)),(.ptr _ _ 0 rfl),(.ptr _ _ 1 rfl),.s,.s,trivial⟩))) ?_
 rintro _ ⟨t6_0,t6_1,t6_2,out8_0,out8_1,out8_2,t17⟩ x1 hs0_0 hl1 hr1
 replace hs0_0:Arr.each.s0 t16 f2 t6_0 t6_1 t6_2 out8_0 out8_1 out8_2 t17 = some x1:=hs0_0
 unfold Arr.each.s0 at hs0_0
 refine C' hs0_0 (fun hs0_2=>?_) fun hs0_2=>?_
 have ehs0_2u_0:=hr1 _ (Option.some.inj hs0_2).symm
 have hs0_2u:=congrArg some ehs0_2u_0
 refine V' ?_
 have ehs0_2u_0:=Option.some.inj hs0_2u
 subst ehs0_2u_0
 exact Returns.frozen (r:=.tup [api.Array.enc ((⟨out8_0,out8_1,out8_2⟩:api.Array)),J 0]) [2] rfl rfl (WV.tups ⟨(WV.aggs ⟨.s,.s,(WV.all (k:=2) (by decide) rfl),trivial⟩),.s,trivial⟩) ⟨rfl,rfl⟩
 obtain ⟨⟨t23_0,t23_1⟩,et23,hs0_3⟩:=bind_elim hs0_2
 refine Gate.go ?_
 refine CallN.by (v:=.tup [api.Value.enc t23_0,J t23_1]) (hf2 _ _ et23) (allq_app rfl hf2gc) rfl ?_
 refine V' ?_
 refine V' ?_
 refine C' hs0_3 (fun hs0_5=>?_) fun hs0_5=>?_
 refine Gate.go ?_
 refine Nm.mk ⟨([t23_0.N]).map (eI .i64),rfl,?_⟩
 obtain ⟨chs0_6,hs0_6⟩:=chk_elim hs0_5
 obtain ⟨t35,et35,hs0_7⟩:=letk_elim hs0_6
 refine Gate.go ?_
 refine Side.mk (full_le _) ?_
 refine Side.mk ⟨full_le _,one_map (fun _ _ hc=>by simp only [AV.cells,List.mem_singleton] at hc; subst hc; rfl)⟩ ?_
 refine Side.mk (side_rr (by decide) chs0_6) ?_
 refine Nm.mk ⟨t35.map (eI .i64),by rw [et35]; exact app_rr (m:=[t23_0.N]),?_⟩
 refine V' ?_
 refine N' hs0_7 fun _ hs0_8=>?_
 exact BackS.by ⟨_,hl1 _ (Option.some.inj hs0_8).symm,rfl⟩ (Sees.of (Weak.objs (keep:=[0,1,5]) (frz:=[]) (m:=0) rfl (by decide) rfl rfl ⟨⟨_,rfl,WO.boxs ⟨.s,.s,.s,trivial⟩⟩,⟨⟨_,rfl,WO.boxs ⟨.s,.s,(.ref _ _ _ 2 rfl),trivial⟩⟩,⟨⟨_,rfl,.arr _ _⟩,⟨rfl,fun _ h=>by cases h⟩⟩⟩⟩ ⟨(.same _ (fnq hf2gc)),(.ptr _ _ 0 rfl),(.ptr _ _ 1 rfl),.s,.s,trivial⟩))
 refine Gate.go ?_
 refine V' ?_
 refine V' ?_
 have ehs0_5_0:=hr1 _ (Option.some.inj hs0_5).symm
 subst ehs0_5_0
 exact Returns.frozen (r:=.tup [api.Array.enc ((⟨0,[],[]⟩:api.Array)),J t23_1]) [] rfl rfl (WV.tups ⟨(WV.aggs ⟨.s,(.nilsVs _),(.nilsVs _),trivial⟩),.s,trivial⟩) ⟨rfl,rfl⟩
end Go.Q
