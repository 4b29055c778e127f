import Derived.Test.YtemmhailjfdfdaaGreatAG2
import Derived.Test.YtemmhailjfdfdaaGreatFX
import Derived.Test.YtemmhailjfdfdaaGreatFY
import Derived.Test.YtemmhailjfdfdaaGreatProg
namespace Go.Q
open Go Go.Proofs
set_option maxRecDepth 10000
set_option maxHeartbeats 2000000
noncomputable def Arr.matmul.j2 (x2_0_2:Int) (x2_1_2 x2_2_2:List Int) (y3_0_2:Int) (y3_1_2 y3_2_2:List Int) (t4_0_2:Int) (t4_1_2 t4_2_2:List Int) (kind6_2 rows9_1 many11_1:Int) (shape12_1:List Int):Option (api.Array × Int) :=
 Option.bind (Arr.size shape12_1) fun t88 =>
 letk (decide (t88 < (0:Int))) fun t89 =>
 bif t89 then
 some ((⟨0,[],[]⟩:api.Array),30)
 else
 Option.bind (Arr.each kind6_2 shape12_1 (fun z0_=>Arr.matmul_1 z0_ rows9_1 kind6_2 many11_1 (⟨x2_0_2,x2_1_2,x2_2_2⟩:api.Array) (⟨y3_0_2,y3_1_2,y3_2_2⟩:api.Array))) fun (t94_0,t94_1) =>
 some ((⟨t94_0.Kind,t94_0.Shape,t94_0.Elems⟩:api.Array),t94_1)
noncomputable def Arr.matmul.j1 (t23 x2_0_1:Int) (x2_1_1 x2_2_1:List Int) (y3_0_1:Int) (y3_1_1 y3_2_1:List Int) (t4_0_1:Int) (t4_1_1 t4_2_1:List Int) (kind6_1 rows9 many11:Int) (shape12:List Int):Option (api.Array × Int) :=
 letk (t23 == (2:Int)) fun t78 =>
 bif t78 then
 chk (0 ≤ (1:Int)) <|
 Option.bind (y3_1_1[(1:Int).toNat]?) fun t81 =>
 chk ((shape12.length + ([t81]).length) * 8 ≤ 140737488355328) <|
 letk (shape12 ++ ([t81])) fun t86 =>
 Arr.matmul.j2 x2_0_1 x2_1_1 x2_2_1 y3_0_1 y3_1_1 y3_2_1 t4_0_1 t4_1_1 t4_2_1 kind6_1 rows9 many11 t86
 else
 Arr.matmul.j2 x2_0_1 x2_1_1 x2_2_1 y3_0_1 y3_1_1 y3_2_1 t4_0_1 t4_1_1 t4_2_1 kind6_1 rows9 many11 shape12
noncomputable def Arr.matmul.j0 (t20 t23 x2_0:Int) (x2_1 x2_2:List Int) (y3_0:Int) (y3_1 y3_2:List Int) (t4_0:Int) (t4_1 t4_2:List Int) (kind6:Int):Option (api.Array × Int) :=
 chk (0 ≤ (0:Int)) <|
 Option.bind (y3_1[(0:Int).toNat]?) fun t65 =>
 letk (t20 == (2:Int)) fun t68 =>
 bif t68 then
 chk (0 ≤ (0:Int)) <|
 Option.bind (x2_1[(0:Int).toNat]?) fun t71 =>
 chk (([t71]).length * 8 ≤ 140737488355328) <|
 letk (([t71])) fun t76 =>
 Arr.matmul.j1 t23 x2_0 x2_1 x2_2 y3_0 y3_1 y3_2 t4_0 t4_1 t4_2 kind6 t71 t65 t76
 else
 Arr.matmul.j1 t23 x2_0 x2_1 x2_2 y3_0 y3_1 y3_2 t4_0 t4_1 t4_2 kind6 1 t65 ([])
noncomputable def Arr.matmul.j3 (x0 y1:api.Array) (t17 t20 t23:Int) (t4_1_3 t4_2_3:List Int) (t28:Bool):Option (api.Array × Int) :=
 bif t28 then
 some ((⟨0,[],[]⟩:api.Array),71)
 else
 letk (IntKind.i64.wrap (t20 - (1:Int))) fun t54 =>
 chk (0 ≤ t54) <|
 Option.bind (x0.Shape[t54.toNat]?) fun t55 =>
 chk (0 ≤ (0:Int)) <|
 Option.bind (y1.Shape[(0:Int).toNat]?) fun t59 =>
 letk (t55 != t59) fun t61 =>
 bif t61 then
 some ((⟨0,[],[]⟩:api.Array),30)
 else
 Arr.matmul.j0 t20 t23 x0.Kind x0.Shape x0.Elems y1.Kind y1.Shape y1.Elems 0 t4_1_3 t4_2_3 t17
noncomputable def Arr.matmul (x0 y1:api.Array):Option (api.Array × Int) :=
 Option.bind (Arr.Kind ⟨#[42]⟩ x0.Kind y1.Kind) fun t17 =>
 letk ((x0.Shape.length:Int)) fun t20 =>
 letk ((y1.Shape.length:Int)) fun t23 =>
 letk (t17 == (0:Int)) fun t26 =>
 bif t26 then
 some ((⟨0,[],[]⟩:api.Array),70)
 else
 letk (decide (t20 < (1:Int))) fun t30 =>
 bif t30 then
 Arr.matmul.j3 x0 y1 t17 t20 t23 ([]) ([]) true
 else
 letk (decide (t20 > (2:Int))) fun t33 =>
 bif t33 then
 Arr.matmul.j3 x0 y1 t17 t20 t23 ([]) ([]) true
 else
 letk (decide (t23 < (1:Int))) fun t37 =>
 bif t37 then
 Arr.matmul.j3 x0 y1 t17 t20 t23 ([]) ([]) true
 else
 letk (decide (t23 > (2:Int))) fun t41 =>
 bif t41 then
 Arr.matmul.j3 x0 y1 t17 t20 t23 ([]) ([]) true
 else
 letk (IntKind.i64.wrap (t20 + t23)) fun t46 =>
 letk (decide (t46 < (3:Int))) fun t47 =>
 Arr.matmul.j3 x0 y1 t17 t20 t23 ([]) ([]) t47
theorem Arr.matmul_ok {x0 y1:api.Array} {r:api.Array × Int} (h0:Arr.matmul x0 y1 = some r):Gives Tryz.prog 89 [api.Array.enc x0,api.Array.enc y1] (.tup [api.Array.enc r.1,J r.2]):=by
 unfold Arr.matmul at h0
 refine W' [(0,9),(0,14),(0,17),(38,13)] Tryz.func89 ?_
 refine V' ?_
 refine V' ?_
 refine V' ?_
 refine Gate.go (A' h0 Arr.Kind_ok fun t17 h1=>?_)
 refine V' ?_
 refine V' ?_
 refine DrawB.ofG [none,none,none,none,none,none,none,none] Tryz_mixed (by kernel_rfl) (by kernel_rfl) ?_
 refine D' rfl (D' rfl ?_)
 obtain ⟨t20,et20,h2⟩:=letk_elim h1
 refine DNodeB.of (J t20) ?_ ?_
 refine Nm.mk ⟨t20,by rw [et20,List.length_map],?_⟩
 rfl
 refine D' rfl (D' rfl ?_)
 obtain ⟨t23,et23,h3⟩:=letk_elim h2
 refine DNodeB.of (J t23) ?_ ?_
 refine Nm.mk ⟨t23,by rw [et23,List.length_map],?_⟩
 rfl
 refine D' rfl (D' rfl ?_)
 refine CutN.of (fun s=>∃ x2_0 x2_1 x2_2 y3_0 y3_1 y3_2 t4_0 t4_1 t4_2 kind6,Arr.matmul.j0 t20 t23 x2_0 x2_1 x2_2 y3_0 y3_1 y3_2 t4_0 t4_1 t4_2 kind6 = some r ∧ s = ⟨97,[(2,.ptr 0 0),(3,.ptr 1 0),(4,.ptr 2 0),(6,.ptr 3 0),(7,J t20),(8,J t23)],[.box [J x2_0,VI' x2_1,VI' x2_2],.box [J y3_0,VI' y3_1,VI' y3_2],.box [J t4_0,VI' t4_1,VI' t4_2],.box [J kind6]]⟩) ?_ ?_
 refine C' h3 (fun h5=>?_) fun h5=>?_
 refine CutN.of (fun s=>∃ t4_1_3 t4_2_3 t28,Arr.matmul.j3 x0 y1 t17 t20 t23 t4_1_3 t4_2_3 t28 = some r ∧ s = ⟨97,[(2,.ptr 0 0),(3,.ptr 1 0),(4,.ptr 2 0),(6,.ptr 3 0),(7,J t20),(8,J t23),(28,.lit (.bool t28))],[.box [J x0.Kind,VI' x0.Shape,VI' x0.Elems],.box [J y1.Kind,VI' y1.Shape,VI' y1.Elems],.box [J 0,VI' t4_1_3,VI' t4_2_3],.box [J t17]]⟩) ?_ ?_
 refine C' h5 (fun h7=>?_) fun h7=>?_
 refine C' h7 (fun h9=>?_) fun h9=>?_
 refine C' h9 (fun h11=>?_) fun h11=>?_
 refine C' h11 (fun h13=>?_) fun h13=>?_
 refine N' h13 fun _ h14=>?_
 refine N' h14 fun _ h15=>?_
 exact B' [0,1,2,3] ⟨_,_,_,h15,rfl⟩
 exact B' [0,1,2,3] ⟨_,_,_,h13,rfl⟩
 exact B' [0,1,2,3] ⟨_,_,_,h11,rfl⟩
 exact B' [0,1,2,3] ⟨_,_,_,h9,rfl⟩
 exact B' [0,1,2,3] ⟨_,_,_,h7,rfl⟩
 rintro s ⟨_,_,t28,hj0,rfl⟩
 unfold Arr.matmul.j3 at hj0
 rcases t28 with _ | _
 have hj1:=bif_f hj0
 refine L' [0,1,2,3] [2,3,4,6,7,8] ?_
 refine DrawB.ofG [none,none,none,none,none,none,none,none,none,none,none,none] Tryz_mixed (by kernel_rfl) (by kernel_rfl) ?_
 refine D' rfl (D' rfl (D' rfl ?_))
 refine DN' hj1 (fun e=>n' e rfl) fun _ hj2=>?_
 obtain ⟨chj3,hj3⟩:=chk_elim hj2
 obtain ⟨t55,et55,hj4⟩:=bind_elim hj3
 refine DNodeB.of (.iptr (J t55)) ?_ ?_
 refine Side.mk chj3 ?_
 refine At.by et55 ?_
 rfl
 refine D' rfl (D' rfl (D' rfl ?_))
 obtain ⟨chj5,hj5⟩:=chk_elim hj4
 obtain ⟨t59,et59,hj6⟩:=bind_elim hj5
 refine DNodeB.of (.iptr (J t59)) ?_ ?_
 refine Side.mk chj5 ?_
 refine At.by et59 ?_
 rfl
 refine D' rfl ?_
 refine DN' hj6 (fun e=>n' e rfl) fun t61 hj7=>?_
 refine D' rfl ?_
 rcases t61 with _ | _
 have hj8:=bif_f hj7
 exact B' [0,1,2,3] ⟨_,_,_,_,_,_,_,_,_,_,hj8,rfl⟩
 have hj8:=bif_t hj7
 refine Gate.go ?_
 refine V' ?_
 refine V' ?_
 have ehj8_0:=Option.some.inj hj8
 subst ehj8_0
 exact Returns.frozen (r:=.tup [api.Array.enc ((⟨0,[],[]⟩:api.Array)),J 30]) [] rfl rfl (WV.tups ⟨(WV.aggs ⟨.s,(.nilsVs _),(.nilsVs _),trivial⟩),.s,trivial⟩) ⟨rfl,rfl⟩
 have hj1:=bif_t hj0
 refine Gate.go ?_
 refine V' ?_
 refine V' ?_
 have ehj1_0:=Option.some.inj hj1
 subst ehj1_0
 exact Returns.frozen (r:=.tup [api.Array.enc ((⟨0,[],[]⟩:api.Array)),J 71]) [] rfl rfl (WV.tups ⟨(WV.aggs ⟨.s,(.nilsVs _),(.nilsVs _),trivial⟩),.s,trivial⟩) ⟨rfl,rfl⟩
 refine Gate.go ?_
 refine V' ?_
 refine V' ?_
 have eh5_0:=Option.some.inj h5
 subst eh5_0
 exact Returns.frozen (r:=.tup [api.Array.enc ((⟨0,[],[]⟩:api.Array)),J 70]) [] rfl rfl (WV.tups ⟨(WV.aggs ⟨.s,(.nilsVs _),(.nilsVs _),trivial⟩),.s,trivial⟩) ⟨rfl,rfl⟩
 rintro s ⟨x2_0,x2_1,x2_2,y3_0,y3_1,y3_2,t4_0,t4_1,t4_2,kind6,hj0,rfl⟩
 unfold Arr.matmul.j0 at hj0
 refine DrawB.ofFN 2 [.box [J x2_0,VI' x2_1,VI' x2_2],.box [J y3_0,VI' y3_1,VI' y3_2],.box [J t4_0,VI' t4_1,VI' t4_2],.box [J kind6],.arr 1 [],.arr 1 []] 4 6 [[1],[1],[],[],[4],[5],[4],[],[5]] [[],[],[],[],[4],[5],[4],[],[5]] [none,none,none,none,some 4,some 5,none,none,none] Tryz_mixed (by kernel_rfl) rfl rfl rfl (by kernel_rfl) ?_
 refine FNode.rd (F:=[1]) (W:=[]) (.ptr 1 1) ?_ rfl rfl ?_
 rfl
 refine FNode.rd (F:=[1]) (W:=[]) (VI' y3_1) ?_ rfl rfl ?_
 rfl
 obtain ⟨chj1,hj1⟩:=chk_elim hj0
 obtain ⟨t65,et65,hj2⟩:=bind_elim hj1
 refine FNode.no (W:=[]) (.iptr (J t65)) ?_ rfl ?_
 refine Side.mk chj1 ?_
 refine At.by et65 ?_
 rfl
 refine FNode.no (W:=[]) (J t65) ?_ rfl ?_
 rfl
 refine FNode.nw (F:=[4]) (W:=[4]) (.ptr 6 0) (.ptr 4 0) [.box [J x2_0,VI' x2_1,VI' x2_2],.box [J y3_0,VI' y3_1,VI' y3_2],.box [J t4_0,VI' t4_1,VI' t4_2],.box [J kind6],.box [J 0],.arr 1 []] [.dead,.dead,.dead,.dead,.arr 1 [],.dead] (.box [J 0]) ?_ rfl rfl rfl rfl ⟨_,rfl⟩ (.inl ⟨0,rfl,rfl⟩) rfl rfl ?_
 refine V' ?_
 rfl
 refine FNode.nw (F:=[5]) (W:=[5]) (.ptr 6 0) (.ptr 5 0) [.box [J x2_0,VI' x2_1,VI' x2_2],.box [J y3_0,VI' y3_1,VI' y3_2],.box [J t4_0,VI' t4_1,VI' t4_2],.box [J kind6],.box [J 0],.box [J 0]] [.dead,.dead,.dead,.dead,.dead,.arr 1 []] (.box [J 0]) ?_ rfl rfl rfl rfl ⟨_,rfl⟩ (.inl ⟨0,rfl,rfl⟩) rfl rfl ?_
 refine V' ?_
 rfl
 refine FNode.pl (F:=[4]) (W:=[4]) (.undef) [.box [J x2_0,VI' x2_1,VI' x2_2],.box [J y3_0,VI' y3_1,VI' y3_2],.box [J t4_0,VI' t4_1,VI' t4_2],.box [J kind6],.box [J 1],.box [J 0]] ?_ rfl rfl rfl rfl ?_
 refine V' ?_
 rfl
 refine FNode.no (W:=[]) (J 1) ?_ rfl ?_
 rfl
 refine FNode.pl (F:=[5]) (W:=[5]) (.undef) [.box [J x2_0,VI' x2_1,VI' x2_2],.box [J y3_0,VI' y3_1,VI' y3_2],.box [J t4_0,VI' t4_1,VI' t4_2],.box [J kind6],.box [J 1],.box [J t65]] ?_ rfl rfl rfl rfl ?_
 refine V' ?_
 rfl
 refine CutN.of (fun s=>∃ x2_0_1 x2_1_1 x2_2_1 y3_0_1 y3_1_1 y3_2_1 t4_0_1 t4_1_1 t4_2_1 kind6_1 rows9 many11 shape12,Arr.matmul.j1 t23 x2_0_1 x2_1_1 x2_2_1 y3_0_1 y3_1_1 y3_2_1 t4_0_1 t4_1_1 t4_2_1 kind6_1 rows9 many11 shape12 = some r ∧ s = ⟨97,[(2,.ptr 0 0),(3,.ptr 1 0),(4,.ptr 2 0),(6,.ptr 3 0),(8,J t23),(9,.ptr 4 0),(11,.ptr 5 0),(12,.ref 6 0 ((shape12.map (eI .i64)).length))],[.box [J x2_0_1,VI' x2_1_1,VI' x2_2_1],.box [J y3_0_1,VI' y3_1_1,VI' y3_2_1],.box [J t4_0_1,VI' t4_1_1,VI' t4_2_1],.box [J kind6_1],.box [J rows9],.box [J many11],.arr 1 (shape12.map (eI .i64))]⟩) ?_ ?_
 refine C' hj2 (fun hj4=>?_) fun hj4=>?_
 exact BackS.by ⟨_,_,_,_,_,_,_,_,_,_,_,_,_,hj4,rfl⟩ (Sees.of (Weak.objs (keep:=[0,1,2,3,4,5]) (frz:=[]) (m:=1) rfl (by decide) rfl rfl ⟨⟨_,rfl,WO.boxs ⟨.s,.s,.s,trivial⟩⟩,⟨⟨_,rfl,WO.boxs ⟨.s,.s,.s,trivial⟩⟩,⟨⟨_,rfl,WO.boxs ⟨.s,.s,.s,trivial⟩⟩,⟨⟨_,rfl,WO.boxs ⟨.s,trivial⟩⟩,⟨⟨_,rfl,WO.boxs ⟨.s,trivial⟩⟩,⟨⟨_,rfl,WO.boxs ⟨.s,trivial⟩⟩,⟨rfl,fun _ ho=>by simp only [List.mem_cons,List.not_mem_nil,or_false] at ho; exact ⟨_,ho⟩⟩⟩⟩⟩⟩⟩⟩ ⟨(.ptr _ _ 0 rfl),(.ptr _ _ 1 rfl),(.ptr _ _ 2 rfl),(.ptr _ _ 3 rfl),.s,(.ptr _ _ 4 rfl),(.ptr _ _ 5 rfl),(.nilsRef 6 (by decide) (by decide)),trivial⟩))
 obtain ⟨chj5,hj5⟩:=chk_elim hj4
 obtain ⟨t71,et71,hj6⟩:=bind_elim hj5
 refine Side.mk chj5 ?_
 refine At.by et71 ?_
 refine V' ?_
 refine Gate.go ?_
 refine Nm.mk ⟨([t71]).map (eI .i64),rfl,?_⟩
 obtain ⟨chj7,hj7⟩:=chk_elim hj6
 obtain ⟨t76,et76,hj8⟩:=letk_elim hj7
 refine Gate.go ?_
 refine Side.mk ⟨full_le _,one_map (fun _ _ hc=>by simp only [AV.cells,List.mem_singleton] at hc; subst hc; rfl)⟩ ?_
 refine Side.mk (side_nr (by decide) chj7) ?_
 refine Nm.mk ⟨t76.map (eI .i64),by rw [et76]; exact app_nr (m:=[t71]),?_⟩
 exact B' [0,1,2,3,4,5,7] ⟨_,_,_,_,_,_,_,_,_,_,_,_,_,hj8,rfl⟩
 rintro s ⟨_,_,_,_,_,_,_,_,_,_,_,_,_,hj0,rfl⟩
 unfold Arr.matmul.j1 at hj0
 refine CutN.of (fun s=>∃ x2_0_2 x2_1_2 x2_2_2 y3_0_2 y3_1_2 y3_2_2 t4_0_2 t4_1_2 t4_2_2 kind6_2 rows9_1 many11_1 shape12_1,Arr.matmul.j2 x2_0_2 x2_1_2 x2_2_2 y3_0_2 y3_1_2 y3_2_2 t4_0_2 t4_1_2 t4_2_2 kind6_2 rows9_1 many11_1 shape12_1 = some r ∧ s = ⟨97,[(2,.ptr 0 0),(3,.ptr 1 0),(4,.ptr 2 0),(6,.ptr 3 0),(9,.ptr 4 0),(11,.ptr 5 0),(12,.ref 6 0 ((shape12_1.map (eI .i64)).length))],[.box [J x2_0_2,VI' x2_1_2,VI' x2_2_2],.box [J y3_0_2,VI' y3_1_2,VI' y3_2_2],.box [J t4_0_2,VI' t4_1_2,VI' t4_2_2],.box [J kind6_2],.box [J rows9_1],.box [J many11_1],.arr 1 (shape12_1.map (eI .i64))]⟩) ?_ ?_
 refine C' hj0 (fun hj2=>?_) fun hj2=>?_
 exact B' [0,1,2,3,4,5,6] ⟨_,_,_,_,_,_,_,_,_,_,_,_,_,hj2,rfl⟩
 obtain ⟨chj3,hj3⟩:=chk_elim hj2
 obtain ⟨t81,et81,hj4⟩:=bind_elim hj3
 refine Side.mk chj3 ?_
 refine At.by et81 ?_
 refine Gate.go ?_
 refine Nm.mk ⟨([t81]).map (eI .i64),rfl,?_⟩
 obtain ⟨chj5,hj5⟩:=chk_elim hj4
 obtain ⟨t86,et86,hj6⟩:=letk_elim hj5
 refine Gate.go ?_
 refine Side.mk (full_le _) ?_
 refine Side.mk ⟨full_le _,one_map (fun _ _ hc=>by simp only [AV.cells,List.mem_singleton] at hc; subst hc; rfl)⟩ ?_
 refine Side.mk (side_rr (by decide) chj5) ?_
 refine Nm.mk ⟨t86.map (eI .i64),by rw [et86]; exact app_rr (m:=[t81]),?_⟩
 exact B' [0,1,2,3,4,5,8] ⟨_,_,_,_,_,_,_,_,_,_,_,_,_,hj6,rfl⟩
 rintro s ⟨x2_0_2,x2_1_2,x2_2_2,y3_0_2,y3_1_2,y3_2_2,t4_0_2,t4_1_2,t4_2_2,kind6_2,rows9_1,many11_1,shape12_1,hj0,rfl⟩
 unfold Arr.matmul.j2 at hj0
 obtain ⟨t88,et88,hj1⟩:=bind_elim hj0
 refine Gate.go ?_
 refine CallN.lendBy (v:=J t88) (Arr.size_ok et88) ⟨lend_all rfl,trivial⟩ rfl ?_
 refine C' hj1 (fun hj3=>?_) fun hj3=>?_
 refine Gate.weak (Sees.of (Weak.objs (k:=97) (keep:=[2,6]) (frz:=[0,1,3,4,5]) (m:=0) (ts:=[(2,.iptr (.agg [J x2_0_2,VI' x2_1_2,VI' x2_2_2])),(3,.iptr (.agg [J y3_0_2,VI' y3_1_2,VI' y3_2_2])),(4,.ptr 0 0),(6,.iptr (J kind6_2)),(9,.iptr (J rows9_1)),(11,.iptr (J many11_1)),(91,J kind6_2),(92,.ref 1 0 ((shape12_1.map (eI .i64)).length))]) (hs:=[.box [J t4_0_2,VI' t4_1_2,VI' t4_2_2],.arr 1 (shape12_1.map (eI .i64))]) rfl (by decide) rfl rfl ⟨⟨_,rfl,WO.refl rfl⟩,⟨⟨_,rfl,.arr _ _⟩,⟨rfl,fun _ h=>by cases h⟩⟩⟩ ⟨(.ptrFrz 0 _ (by decide) rfl rfl),(.ptrFrz 1 _ (by decide) rfl rfl),(.ptr _ _ 0 rfl),(.ptrFrz 3 _ (by decide) rfl rfl),(.ptrFrz 4 _ (by decide) rfl rfl),(.ptrFrz 5 _ (by decide) rfl rfl),.s,(.ref _ _ _ 1 rfl),trivial⟩)) ?_
 obtain ⟨⟨t94_0,t94_1⟩,et94,hj4⟩:=bind_elim hj3
 refine Gate.weak (Sees.of (Weak.objs (k:=97) (keep:=[0]) (frz:=[1]) (m:=0) (ts:=[(4,.ptr 0 0),(91,J kind6_2),(92,VI' shape12_1),(93,.fn (.func 132) [] [.iptr (J rows9_1),.iptr (J kind6_2),.iptr (J many11_1),.iptr (.agg [J x2_0_2,VI' x2_1_2,VI' x2_2_2]),.iptr (.agg [J y3_0_2,VI' y3_1_2,VI' y3_2_2])])]) (hs:=[.box [J t4_0_2,VI' t4_1_2,VI' t4_2_2]]) rfl (by decide) rfl rfl ⟨⟨_,rfl,WO.refl rfl⟩,⟨rfl,fun _ h=>by cases h⟩⟩ ⟨(.ptr _ _ 0 rfl),.s,(WV.all (k:=1) (by decide) rfl),(.same _ (fnq rfl)),trivial⟩)) ?_
 refine CallN.by (v:=.tup [api.Array.enc t94_0,J t94_1]) (Arr.each_ok (show List.all [.iptr (J rows9_1),.iptr (J kind6_2),.iptr (J many11_1),.iptr (.agg [J x2_0_2,VI' x2_1_2,VI' x2_2_2]),.iptr (.agg [J y3_0_2,VI' y3_1_2,VI' y3_2_2])] pureQ.pureQ0 = true from rfl) (fun _ r h=>Arr.matmul_1_ok h) et94) rfl rfl ?_
 refine V' ?_
 exact R' (E:=E8') hj4
 refine Gate.go ?_
 refine V' ?_
 refine V' ?_
 have ehj3_0:=Option.some.inj hj3
 subst ehj3_0
 exact Returns.frozen (r:=.tup [api.Array.enc ((⟨0,[],[]⟩:api.Array)),J 30]) [] rfl rfl (WV.tups ⟨(WV.aggs ⟨.s,(.nilsVs _),(.nilsVs _),trivial⟩),.s,trivial⟩) ⟨rfl,rfl⟩
noncomputable def Arr.cshift.s0 (t28 x2_0_1:Int) (x2_1_1 x2_2_1:List Int) (n3_0_1:Int) (n3_1_1 n3_2_1:List Int) (t4_0_1:Int) (t4_1_1 t4_2_1:List Int) (out7_0:Int) (out7_1 out7_2:List Int) (t36:Int):Option ((Int × (List Int) × (List Int) × Int × (List Int) × (List Int) × Int × (List Int) × (List Int) × Int × (List Int) × (List Int) × Int) ⊕ (api.Array × Int)) :=
 letk (decide (t36 < t28)) fun t37 =>
 bif t37 then
 chk (0 ≤ (0:Int)) <|
 Option.bind (n3_2_1[(0:Int).toNat]?) fun t42 =>
 letk (IntKind.i64.wrap (t36 + t42)) fun t44 =>
 chk (t28 ≠ 0) <|
 letk (t44.tmod t28) fun t46 =>
 letk (IntKind.i64.wrap (t46 + t28)) fun t53 =>
 chk (t28 ≠ 0) <|
 letk (t53.tmod t28) fun t55 =>
 chk (0 ≤ t55) <|
 Option.bind (x2_2_1[t55.toNat]?) fun t56 =>
 chk ((out7_2.length + ([t56]).length) * 8 ≤ 140737488355328) <|
 letk (out7_2 ++ ([t56])) fun t59 =>
 letk (IntKind.i64.wrap (t36 + (1:Int))) fun t61 =>
 some (.inl (x2_0_1,x2_1_1,x2_2_1,n3_0_1,n3_1_1,n3_2_1,t4_0_1,t4_1_1,t4_2_1,out7_0,out7_1,t59,t61))
 else
 some (.inr ((⟨out7_0,out7_1,out7_2⟩:api.Array),0))
noncomputable def Arr.cshift.l0 (t28 x2_0_1:Int) (x2_1_1 x2_2_1:List Int) (n3_0_1:Int) (n3_1_1 n3_2_1:List Int) (t4_0_1:Int) (t4_1_1 t4_2_1:List Int) (out7_0:Int) (out7_1 out7_2:List Int) (t36:Int):Option (api.Array × Int):=loopO (fun v:Int × (List Int) × (List Int) × Int × (List Int) × (List Int) × Int × (List Int) × (List Int) × Int × (List Int) × (List Int) × Int=>Arr.cshift.s0 t28 v.1 v.2.1 v.2.2.1 v.2.2.2.1 v.2.2.2.2.1 v.2.2.2.2.2.1 v.2.2.2.2.2.2.1 v.2.2.2.2.2.2.2.1 v.2.2.2.2.2.2.2.2.1 v.2.2.2.2.2.2.2.2.2.1 v.2.2.2.2.2.2.2.2.2.2.1 v.2.2.2.2.2.2.2.2.2.2.2.1 v.2.2.2.2.2.2.2.2.2.2.2.2) (x2_0_1,x2_1_1,x2_2_1,n3_0_1,n3_1_1,n3_2_1,t4_0_1,t4_1_1,t4_2_1,out7_0,out7_1,out7_2,t36)
noncomputable def Arr.cshift.j0 (x2_0:Int) (x2_1 x2_2:List Int) (n3_0:Int) (n3_1 n3_2:List Int) (t4_0:Int) (t4_1 t4_2:List Int):Option (api.Array × Int) :=
 letk ((x2_2.length:Int)) fun t28 =>
 Option.bind (Slcs.Clone___int_int_ x2_1) fun t33 =>
 Arr.cshift.l0 t28 x2_0 x2_1 x2_2 n3_0 n3_1 n3_2 t4_0 t4_1 t4_2 x2_0 t33 ([]) 0
noncomputable def Arr.cshift.j1 (x2_0_2:Int) (x2_1_2 x2_2_2:List Int) (n3_0_2:Int) (n3_1_2 n3_2_2:List Int) (t4_0_2:Int) (t4_1_2 t4_2_2:List Int) (t15:Bool):Option (api.Array × Int) :=
 bif t15 then
 some ((⟨0,[],[]⟩:api.Array),71)
 else
 Arr.cshift.j0 x2_0_2 x2_1_2 x2_2_2 n3_0_2 n3_1_2 n3_2_2 t4_0_2 t4_1_2 t4_2_2
noncomputable def Arr.cshift (x0 n1:api.Array):Option (api.Array × Int) :=
 letk (n1.Kind != (1:Int)) fun t13 =>
 bif t13 then
 some ((⟨0,[],[]⟩:api.Array),70)
 else
 letk ((x0.Shape.length:Int)) fun t18 =>
 letk (t18 != (1:Int)) fun t19 =>
 bif t19 then
 Arr.cshift.j1 x0.Kind x0.Shape x0.Elems n1.Kind n1.Shape n1.Elems 0 ([]) ([]) true
 else
 Option.bind (Arr.isScalar (⟨n1.Kind,n1.Shape,n1.Elems⟩:api.Array)) fun t22 =>
 letk (!t22) fun t23 =>
 Arr.cshift.j1 x0.Kind x0.Shape x0.Elems n1.Kind n1.Shape n1.Elems 0 ([]) ([]) t23
theorem Arr.cshift_ok {x0 n1:api.Array} {r:api.Array × Int} (h0:Arr.cshift x0 n1 = some r):Gives Tryz.prog 90 [api.Array.enc x0,api.Array.enc n1] (.tup [api.Array.enc r.1,J r.2]):=by
 unfold Arr.cshift at h0
 refine W' [(0,5),(25,9)] Tryz.func90 ?_
 refine V' ?_
 refine V' ?_
 refine V' ?_
 refine CutN.of (fun s=>∃ x2_0 x2_1 x2_2 n3_0 n3_1 n3_2 t4_0 t4_1 t4_2,Arr.cshift.j0 x2_0 x2_1 x2_2 n3_0 n3_1 n3_2 t4_0 t4_1 t4_2 = some r ∧ s = ⟨63,[(2,.ptr 0 0),(3,.ptr 1 0),(4,.ptr 2 0)],[.box [J x2_0,VI' x2_1,VI' x2_2],.box [J n3_0,VI' n3_1,VI' n3_2],.box [J t4_0,VI' t4_1,VI' t4_2]]⟩) ?_ ?_
 refine C' h0 (fun h2=>?_) fun h2=>?_
 refine CutN.of (fun s=>∃ x2_0_2 x2_1_2 x2_2_2 n3_0_2 n3_1_2 n3_2_2 t4_0_2 t4_1_2 t4_2_2 t15,Arr.cshift.j1 x2_0_2 x2_1_2 x2_2_2 n3_0_2 n3_1_2 n3_2_2 t4_0_2 t4_1_2 t4_2_2 t15 = some r ∧ s = ⟨63,[(2,.ptr 0 0),(3,.ptr 1 0),(4,.ptr 2 0),(15,.lit (.bool t15))],[.box [J x2_0_2,VI' x2_1_2,VI' x2_2_2],.box [J n3_0_2,VI' n3_1_2,VI' n3_2_2],.box [J t4_0_2,VI' t4_1_2,VI' t4_2_2]]⟩) ?_ ?_
 obtain ⟨t18,et18,h3⟩:=letk_elim h2
 refine Nm.mk ⟨t18,by rw [et18,List.length_map],?_⟩
 refine C' h3 (fun h5=>?_) fun h5=>?_
 refine Gate.go (A' h5 Arr.isScalar_ok fun _ h6=>?_)
 refine N' h6 fun _ h7=>?_
 exact B' [0,1,2] ⟨_,_,_,_,_,_,_,_,_,_,h7,rfl⟩
 exact B' [0,1,2] ⟨_,_,_,_,_,_,_,_,_,_,h5,rfl⟩
 rintro s ⟨_,_,_,_,_,_,_,_,_,t15,hj0,rfl⟩
 unfold Arr.cshift.j1 at hj0
 rcases t15 with _ | _
 have hj1:=bif_f hj0
 exact B' [0,1,2] ⟨_,_,_,_,_,_,_,_,_,hj1,rfl⟩
 have hj1:=bif_t hj0
 refine Gate.go ?_
 refine V' ?_
 refine V' ?_
 have ehj1_0:=Option.some.inj hj1
 subst ehj1_0
 exact Returns.frozen (r:=.tup [api.Array.enc ((⟨0,[],[]⟩:api.Array)),J 71]) [] rfl rfl (WV.tups ⟨(WV.aggs ⟨.s,(.nilsVs _),(.nilsVs _),trivial⟩),.s,trivial⟩) ⟨rfl,rfl⟩
 refine Gate.go ?_
 refine V' ?_
 refine V' ?_
 have eh2_0:=Option.some.inj h2
 subst eh2_0
 exact Returns.frozen (r:=.tup [api.Array.enc ((⟨0,[],[]⟩:api.Array)),J 70]) [] rfl rfl (WV.tups ⟨(WV.aggs ⟨.s,(.nilsVs _),(.nilsVs _),trivial⟩),.s,trivial⟩) ⟨rfl,rfl⟩
 rintro s ⟨x2_0,x2_1,x2_2,n3_0,n3_1,n3_2,t4_0,t4_1,t4_2,hj0,rfl⟩
 unfold Arr.cshift.j0 at hj0
 obtain ⟨t28,et28,hj1⟩:=letk_elim hj0
 refine Nm.mk ⟨t28,by rw [et28,List.length_map],?_⟩
 refine DrawB.ofFN 2 [.box [J x2_0,VI' x2_1,VI' x2_2],.box [J n3_0,VI' n3_1,VI' n3_2],.box [J t4_0,VI' t4_1,VI' t4_2],.arr 1 [],.arr 1 []] 3 5 [[0],[0],[0],[0],[3],[3],[4],[3,4]] [[],[],[],[],[3],[],[4],[4]] [none,none,none,none,some 3,none,some 4,none] Tryz_mixed (by kernel_rfl) rfl rfl rfl (by kernel_rfl) ?_
 refine FNode.rd (F:=[0]) (W:=[]) (.ptr 0 0) ?_ rfl rfl ?_
 rfl
 refine FNode.rd (F:=[0]) (W:=[]) (J x2_0) ?_ rfl rfl ?_
 rfl
 refine FNode.rd (F:=[0]) (W:=[]) (.ptr 0 1) ?_ rfl rfl ?_
 rfl
 refine FNode.rd (F:=[0]) (W:=[]) (VI' x2_1) ?_ rfl rfl ?_
 rfl
 obtain ⟨t33,et33,hj2⟩:=bind_elim hj1
 refine FNode.nw (F:=[3]) (W:=[3]) (.ref 5 0 ((t33.map (eI .i64)).length)) (.ref 3 0 ((t33.map (eI .i64)).length)) [.box [J x2_0,VI' x2_1,VI' x2_2],.box [J n3_0,VI' n3_1,VI' n3_2],.box [J t4_0,VI' t4_1,VI' t4_2],.arr 1 (t33.map (eI .i64)),.arr 1 []] [.dead,.dead,.dead,.arr 1 [],.dead] (.arr 1 (t33.map (eI .i64))) ?_ rfl rfl rfl rfl ⟨_,rfl⟩ (.inr ⟨0,(t33.map (eI .i64)).length,rfl,rfl⟩) rfl rfl ?_
 refine CallN.fresh (s:=1) (es:=t33.map (eI .i64)) (Slcs.Clone___int_int__ok et33) rfl ?_
 rfl
 refine FNode.rd (F:=[3]) (W:=[]) (.agg [J x2_0,.ref 3 0 ((t33.map (eI .i64)).length),.nils]) ?_ rfl rfl ?_
 refine V' ?_
 rfl
 refine FNode.nw (F:=[4]) (W:=[4]) (.ptr 5 0) (.ptr 4 0) [.box [J x2_0,VI' x2_1,VI' x2_2],.box [J n3_0,VI' n3_1,VI' n3_2],.box [J t4_0,VI' t4_1,VI' t4_2],.arr 1 (t33.map (eI .i64)),.box [J 0,.nils,.nils]] [.dead,.dead,.dead,.dead,.arr 1 []] (.box [J 0,.nils,.nils]) ?_ rfl rfl rfl rfl ⟨_,rfl⟩ (.inl ⟨0,rfl,rfl⟩) rfl rfl ?_
 refine V' ?_
 rfl
 refine FNode.pl (F:=[3,4]) (W:=[4]) (.undef) [.box [J x2_0,VI' x2_1,VI' x2_2],.box [J n3_0,VI' n3_1,VI' n3_2],.box [J t4_0,VI' t4_1,VI' t4_2],.arr 1 (t33.map (eI .i64)),.box [J x2_0,.ref 3 0 ((t33.map (eI .i64)).length),.nils]] ?_ rfl rfl rfl rfl ?_
 refine V' ?_
 rfl
 unfold Arr.cshift.l0 at hj2
 refine LoopB.of (σ:=Int × (List Int) × (List Int) × Int × (List Int) × (List Int) × Int × (List Int) × (List Int) × Int × (List Int) × (List Int) × Int) (ρ:=api.Array × Int) (fun v:Int × (List Int) × (List Int) × Int × (List Int) × (List Int) × Int × (List Int) × (List Int) × Int × (List Int) × (List Int) × Int=>Arr.cshift.s0 t28 v.1 v.2.1 v.2.2.1 v.2.2.2.1 v.2.2.2.2.1 v.2.2.2.2.2.1 v.2.2.2.2.2.2.1 v.2.2.2.2.2.2.2.1 v.2.2.2.2.2.2.2.2.1 v.2.2.2.2.2.2.2.2.2.1 v.2.2.2.2.2.2.2.2.2.2.1 v.2.2.2.2.2.2.2.2.2.2.2.1 v.2.2.2.2.2.2.2.2.2.2.2.2) (fun v=>(⟨63,[(2,.ptr 0 0),(3,.ptr 1 0),(4,.ptr 2 0),(6,J t28),(7,.ptr 3 0),(35,J t28),(36,J v.2.2.2.2.2.2.2.2.2.2.2.2)],[.box [J v.1,VI' v.2.1,VI' v.2.2.1],.box [J v.2.2.2.1,VI' v.2.2.2.2.1,VI' v.2.2.2.2.2.1],.box [J v.2.2.2.2.2.2.1,VI' v.2.2.2.2.2.2.2.1,VI' v.2.2.2.2.2.2.2.2.1],.box [J v.2.2.2.2.2.2.2.2.2.1,VI' v.2.2.2.2.2.2.2.2.2.2.1,.ref 4 0 ((v.2.2.2.2.2.2.2.2.2.2.2.1.map (eI .i64)).length)],.arr 1 (v.2.2.2.2.2.2.2.2.2.2.2.1.map (eI .i64))]⟩:St)) (x2_0,x2_1,x2_2,n3_0,n3_1,n3_2,t4_0,t4_1,t4_2,x2_0,t33,[],0) hj2 (BackS.by rfl (Sees.of (Weak.objs (keep:=[0,1,2,4]) (frz:=[3]) (m:=1) rfl (by decide) rfl rfl ⟨⟨_,rfl,WO.boxs ⟨.s,.s,.s,trivial⟩⟩,⟨⟨_,rfl,WO.boxs ⟨.s,.s,.s,trivial⟩⟩,⟨⟨_,rfl,WO.boxs ⟨.s,.s,.s,trivial⟩⟩,⟨⟨_,rfl,WO.boxs ⟨.s,(WV.all (k:=3) (by decide) rfl),(.nilsRef 4 (by decide) (by decide)),trivial⟩⟩,⟨rfl,fun _ ho=>by simp only [List.mem_cons,List.not_mem_nil,or_false] at ho; exact ⟨_,ho⟩⟩⟩⟩⟩⟩ ⟨(.ptr _ _ 0 rfl),(.ptr _ _ 1 rfl),(.ptr _ _ 2 rfl),.s,(.ptr _ _ 3 rfl),.s,.s,trivial⟩))) ?_
 rintro _ ⟨x2_0_1,x2_1_1,x2_2_1,n3_0_1,n3_1_1,n3_2_1,t4_0_1,t4_1_1,t4_2_1,out7_0,out7_1,out7_2,t36⟩ x1 hs0_0 hl1 hr1
 replace hs0_0:Arr.cshift.s0 t28 x2_0_1 x2_1_1 x2_2_1 n3_0_1 n3_1_1 n3_2_1 t4_0_1 t4_1_1 t4_2_1 out7_0 out7_1 out7_2 t36 = some x1:=hs0_0
 unfold Arr.cshift.s0 at hs0_0
 refine C' hs0_0 (fun hs0_2=>?_) fun hs0_2=>?_
 have ehs0_2u_0:=hr1 _ (Option.some.inj hs0_2).symm
 have hs0_2u:=congrArg some ehs0_2u_0
 refine V' ?_
 have ehs0_2u_0:=Option.some.inj hs0_2u
 subst ehs0_2u_0
 exact Returns.frozen (r:=.tup [api.Array.enc ((⟨out7_0,out7_1,out7_2⟩:api.Array)),J 0]) [4] rfl rfl (WV.tups ⟨(WV.aggs ⟨.s,.s,(WV.all (k:=4) (by decide) rfl),trivial⟩),.s,trivial⟩) ⟨rfl,rfl⟩
 obtain ⟨chs0_3,hs0_3⟩:=chk_elim hs0_2
 obtain ⟨_,et42,hs0_4⟩:=bind_elim hs0_3
 refine Side.mk chs0_3 ?_
 refine At.by et42 ?_
 refine N' hs0_4 fun _ hs0_5=>?_
 refine S' hs0_5 fun hs0_6=>?_
 refine N' hs0_6 fun t46 hs0_7=>?_
 refine L' [0,1,2,3,4] [2,3,4,6,7,9,35,36] ?_
 refine DrawB.ofFN 2 [.box [J x2_0_1,VI' x2_1_1,VI' x2_2_1],.box [J n3_0_1,VI' n3_1_1,VI' n3_2_1],.box [J t4_0_1,VI' t4_1_1,VI' t4_2_1],.box [J out7_0,VI' out7_1,.ref 4 0 ((out7_2.map (eI .i64)).length)],.arr 1 (out7_2.map (eI .i64)),.arr 1 [],.arr 1 []] 5 7 [[3,4],[3,4],[0],[0],[],[],[],[],[],[],[],[5],[4,5,6],[3,4],[3,4,6]] [[],[],[],[],[],[],[],[],[],[],[],[5],[4,6],[],[3]] [none,none,none,none,none,none,none,none,none,none,none,some 5,some 6,none,none] Tryz_mixed (by kernel_rfl) rfl rfl rfl (by kernel_rfl) ?_
 refine FNode.rd (F:=[3,4]) (W:=[]) (.ptr 3 2) ?_ rfl rfl ?_
 rfl
 refine FNode.rd (F:=[3,4]) (W:=[]) (.ref 4 0 ((out7_2.map (eI .i64)).length)) ?_ rfl rfl ?_
 rfl
 refine FNode.rd (F:=[0]) (W:=[]) (.ptr 0 2) ?_ rfl rfl ?_
 rfl
 refine FNode.rd (F:=[0]) (W:=[]) (VI' x2_2_1) ?_ rfl rfl ?_
 rfl
 refine FNode.no (W:=[]) (J t46) ?_ rfl ?_
 rfl
 refine FNode.no (W:=[]) (J t28) ?_ rfl ?_
 rfl
 obtain ⟨t53,et53,hs0_8⟩:=letk_elim hs0_7
 refine FNode.no (W:=[]) (J t53) ?_ rfl ?_
 refine Nm.mk ⟨t53,et53,?_⟩
 rfl
 refine FNode.no (W:=[]) (J t28) ?_ rfl ?_
 rfl
 obtain ⟨chs0_9,hs0_9⟩:=chk_elim hs0_8
 obtain ⟨t55,et55,hs0_10⟩:=letk_elim hs0_9
 refine FNode.no (W:=[]) (J t55) ?_ rfl ?_
 refine Side.mk chs0_9 ?_
 refine Nm.mk ⟨t55,et55,?_⟩
 rfl
 obtain ⟨chs0_11,hs0_11⟩:=chk_elim hs0_10
 obtain ⟨t56,et56,hs0_12⟩:=bind_elim hs0_11
 refine FNode.no (W:=[]) (.iptr (J t56)) ?_ rfl ?_
 refine Side.mk chs0_11 ?_
 refine At.by et56 ?_
 rfl
 refine FNode.no (W:=[]) (J t56) ?_ rfl ?_
 rfl
 refine FNode.nw (F:=[5]) (W:=[5]) (.ref 7 0 ((([t56]).map (eI .i64)).length)) (.ref 5 0 ((([t56]).map (eI .i64)).length)) [.box [J x2_0_1,VI' x2_1_1,VI' x2_2_1],.box [J n3_0_1,VI' n3_1_1,VI' n3_2_1],.box [J t4_0_1,VI' t4_1_1,VI' t4_2_1],.box [J out7_0,VI' out7_1,.ref 4 0 ((out7_2.map (eI .i64)).length)],.arr 1 (out7_2.map (eI .i64)),.arr 1 (([t56]).map (eI .i64)),.arr 1 []] [.dead,.dead,.dead,.dead,.dead,.arr 1 [],.dead] (.arr 1 (([t56]).map (eI .i64))) ?_ rfl rfl rfl rfl ⟨_,rfl⟩ (.inr ⟨0,(([t56]).map (eI .i64)).length,rfl,rfl⟩) rfl rfl ?_
 refine Nm.mk ⟨([t56]).map (eI .i64),rfl,?_⟩
 rfl
 obtain ⟨chs0_13,hs0_13⟩:=chk_elim hs0_12
 obtain ⟨t59,et59,hs0_14⟩:=letk_elim hs0_13
 refine FNode.nw (F:=[4,5,6]) (W:=[4,6]) (.ref 7 0 ((t59.map (eI .i64)).length)) (.ref 6 0 ((t59.map (eI .i64)).length)) [.box [J x2_0_1,VI' x2_1_1,VI' x2_2_1],.box [J n3_0_1,VI' n3_1_1,VI' n3_2_1],.box [J t4_0_1,VI' t4_1_1,VI' t4_2_1],.box [J out7_0,VI' out7_1,.ref 4 0 ((out7_2.map (eI .i64)).length)],.dead,.arr 1 (([t56]).map (eI .i64)),.arr 1 (t59.map (eI .i64))] [.dead,.dead,.dead,.dead,.dead,.arr 1 (([t56]).map (eI .i64)),.arr 1 []] (.arr 1 (t59.map (eI .i64))) ?_ rfl rfl rfl rfl ⟨_,rfl⟩ (.inr ⟨0,(t59.map (eI .i64)).length,rfl,rfl⟩) rfl rfl ?_
 refine Side.mk (full_le _) ?_
 refine Side.mk ⟨full_le _,one_map (fun _ _ hc=>by simp only [AV.cells,List.mem_singleton] at hc; subst hc; rfl)⟩ ?_
 refine Side.mk (side_rr (by decide) chs0_13) ?_
 refine Nm.mk ⟨t59.map (eI .i64),by rw [et59]; exact app_rr (m:=[t56]),?_⟩
 rfl
 refine FNode.rd (F:=[3,4]) (W:=[]) (.ptr 3 2) ?_ rfl rfl ?_
 rfl
 refine FNode.pl (F:=[3,4,6]) (W:=[3]) (.undef) [.box [J x2_0_1,VI' x2_1_1,VI' x2_2_1],.box [J n3_0_1,VI' n3_1_1,VI' n3_2_1],.box [J t4_0_1,VI' t4_1_1,VI' t4_2_1],.box [J out7_0,VI' out7_1,.ref 6 0 ((t59.map (eI .i64)).length)],.dead,.arr 1 (([t56]).map (eI .i64)),.arr 1 (t59.map (eI .i64))] ?_ rfl rfl rfl rfl ?_
 refine V' ?_
 rfl
 refine N' hs0_14 fun _ hs0_15=>?_
 exact B' [0,1,2,3,6] ⟨_,hl1 _ (Option.some.inj hs0_15).symm,rfl⟩
noncomputable def Slcs.Repeat___int_int_.s0 (newslice7:List Int) (n8:Int):Option (((List Int) × Int) ⊕ ((List Int))) :=
 letk ((newslice7.length:Int)) fun t36 =>
 letk (decide (n8 < t36)) fun t37 =>
 bif t37 then
 chk (0 ≤ n8 ∧ n8 ≤ ((newslice7.map (eI .i64)).length:Int)) <|
 chk (0 ≤ n8 ∧ n8 ≤ ((newslice7.map (eI .i64)).length:Int)) <|
 chk (0 + n8.toNat + (newslice7.length - n8.toNat) ≤ newslice7.length) <|
 chk (0 + 0 + (n8.toNat - 0) ≤ newslice7.length) <|
 letk (min (n8.toNat - 0) (newslice7.length - n8.toNat)) fun mt45 =>
 letk (spl newslice7 (0 + n8.toNat) (((newslice7.drop (0 + 0)).take (n8.toNat - 0)).take mt45)) fun zt45 =>
 letk (IntKind.i64.wrap (n8 + (((mt45:Nat):Int)))) fun t46 =>
 some (.inl (zt45,t46))
 else
 some (.inr newslice7)
noncomputable def Slcs.Repeat___int_int_.l0 (newslice7:List Int) (n8:Int):Option ((List Int)):=loopO (fun v:(List Int) × Int=>Slcs.Repeat___int_int_.s0 v.1 v.2) (newslice7,n8)
noncomputable def Slcs.Repeat___int_int_.j1 (x0:List Int) (t18_1:Int):Option ((List Int)) :=
 letk (IntKind.i64.wrap t18_1) fun t29 =>
 chk (0 ≤ t29 ∧ t29 ≤ t29 ∧ t29 ≤ 9223372036854775807 ∧ 8 * t29 ≤ 140737488355328) <|
 letk ((List.replicate t29.toNat 0:List Int)) fun t30 =>
 chk (0 + (t30.length) ≤ t30.length) <|
 letk (min x0.length (t30.length)) fun mt33 =>
 letk (spl t30 (0) (x0.take mt33)) fun zt33 =>
 Slcs.Repeat___int_int_.l0 zt33 (((mt33:Nat):Int))
noncomputable def Slcs.Repeat___int_int_.j2 (x0:List Int) (t18_1:Int) (t26:Bool):Option ((List Int)) :=
 bif t26 then
 none
 else
 Slcs.Repeat___int_int_.j1 x0 t18_1
noncomputable def Slcs.Repeat___int_int_.j0 (x0:List Int) (count1:Int):Option ((List Int)) :=
 letk ((x0.length:Int)) fun t14 =>
 letk (IntKind.u64.wrap t14) fun t15 =>
 letk (IntKind.u64.wrap count1) fun t17 =>
 Option.bind (Bits.Mul t15 t17) fun (t18_0,t18_1) =>
 letk (decide (t18_0 > (0:Int))) fun t22 =>
 bif t22 then
 Slcs.Repeat___int_int_.j2 x0 t18_1 true
 else
 letk (decide (t18_1 > (9223372036854775807:Int))) fun t25 =>
 Slcs.Repeat___int_int_.j2 x0 t18_1 t25
noncomputable def Slcs.Repeat___int_int_ (x0:List Int) (count1:Int):Option ((List Int)) :=
 letk (decide (count1 < (0:Int))) fun t10 =>
 bif t10 then
 none
 else
 Slcs.Repeat___int_int_.j0 x0 count1
theorem Slcs.Repeat___int_int__ok {x0:List Int} {count1:Int} {r:(List Int)} (h0:Slcs.Repeat___int_int_ x0 count1 = some r):Gives Tryz.prog 133 [VI' x0,J count1] (VI' r):=by
 unfold Slcs.Repeat___int_int_ at h0
 refine W' [(0,3),(0,6),(36,11)] Tryz.func133 ?_
 refine CutN.of (fun s=>Slcs.Repeat___int_int_.j0 x0 count1 = some r ∧ s = ⟨48,[(0,VI' x0),(1,J count1)],[]⟩) ?_ ?_
 refine C' h0 (fun h2=>?_) fun h2=>?_
 exact B' [] ⟨h2,rfl⟩
 cases h2
 rintro s ⟨hj0,rfl⟩
 unfold Slcs.Repeat___int_int_.j0 at hj0
 obtain ⟨t14,et14,hj1⟩:=letk_elim hj0
 refine Nm.mk ⟨t14,by rw [et14,List.length_map],?_⟩
 refine N' hj1 fun _ hj2=>?_
 refine N' hj2 fun _ hj3=>?_
 obtain ⟨⟨_,t18_1⟩,et18,hj4⟩:=bind_elim hj3
 refine Gate.go ?_
 refine Z' (Bits.Mul_ok et18) ?_
 refine CutN.of (fun s=>Slcs.Repeat___int_int_.j1 x0 t18_1 = some r ∧ s = ⟨48,[(0,VI' x0),(6,U t18_1)],[]⟩) ?_ ?_
 refine CutN.of (fun s=>∃ t26,Slcs.Repeat___int_int_.j2 x0 t18_1 t26 = some r ∧ s = ⟨48,[(0,VI' x0),(6,U t18_1),(26,.lit (.bool t26))],[]⟩) ?_ ?_
 refine C' hj4 (fun hj6=>?_) fun hj6=>?_
 refine N' hj6 fun _ hj7=>?_
 exact B' [] ⟨_,hj7,rfl⟩
 exact B' [] ⟨_,hj6,rfl⟩
 rintro s ⟨t26,hj0,rfl⟩
 unfold Slcs.Repeat___int_int_.j2 at hj0
 rcases t26 with _ | _
 have hj1:=bif_f hj0
 exact B' [] ⟨hj1,rfl⟩
 have hj1:=bif_t hj0
 cases hj1
 rintro s ⟨hj0,rfl⟩
 unfold Slcs.Repeat___int_int_.j1 at hj0
 refine N' hj0 fun _ hj1=>?_
 refine S' hj1 fun hj2=>?_
 obtain ⟨t30,et30,hj3⟩:=letk_elim hj2
 refine Nm.mk ⟨t30.map (eI .i64),by rw [et30,List.map_replicate]; rfl,?_⟩
 obtain ⟨chj4,hj4⟩:=chk_elim hj3
 obtain ⟨mt33,emt33,hj5⟩:=letk_elim hj4
 obtain ⟨zt33,ezt33,hj6⟩:=letk_elim hj5
 refine HardN.copyV (eI .i64) t30 x0 zt33 mt33 [.arr 1 (zt33.map (eI .i64))] rfl rfl rfl rfl rfl rfl rfl rfl (by simpa only [List.length_map] using chj4) rfl (one_map (fun _ _ hc=>by simp only [AV.cells,List.mem_singleton] at hc; subst hc; rfl)) (by simpa only [List.length_map] using emt33) (by simpa only [List.length_map] using ezt33) rfl ?_
 rw [show (t30.map (eI .i64)).length = (zt33.map (eI .i64)).length from by rw [List.length_map,List.length_map,ezt33,spl_len chj4 emt33]]
 unfold Slcs.Repeat___int_int_.l0 at hj6
 refine LoopB.of (σ:=(List Int) × Int) (ρ:=(List Int)) (fun v:(List Int) × Int=>Slcs.Repeat___int_int_.s0 v.1 v.2) (fun v=>(⟨48,[(7,.ref 0 0 ((v.1.map (eI .i64)).length)),(8,J v.2)],[.arr 1 (v.1.map (eI .i64))]⟩:St)) (zt33,((mt33:Nat):Int)) hj6 (B' [0] rfl) ?_
 rintro _ ⟨newslice7,n8⟩ x1 hs0_0 hl1 hr1
 replace hs0_0:Slcs.Repeat___int_int_.s0 newslice7 n8 = some x1:=hs0_0
 unfold Slcs.Repeat___int_int_.s0 at hs0_0
 obtain ⟨t36,et36,hs0_1⟩:=letk_elim hs0_0
 refine Nm.mk ⟨t36,by rw [et36,List.length_map],?_⟩
 refine C' hs0_1 (fun hs0_3=>?_) fun hs0_3=>?_
 have ehs0_3u_0:=hr1 _ (Option.some.inj hs0_3).symm
 have hs0_3u:=congrArg some ehs0_3u_0
 have ehs0_3u_0:=Option.some.inj hs0_3u
 subst ehs0_3u_0
 exact Returns.frozen (r:=VI' newslice7) [0] rfl rfl (WV.all (k:=0) (by decide) rfl) ⟨rfl,rfl⟩
 refine DrawB.ofFN 0 [.arr 1 (newslice7.map (eI .i64))] 1 1 [[],[0],[],[0],[0],[],[0],[0],[],[]] [[],[],[],[],[],[],[],[0],[],[]] [none,none,none,none,none,none,none,none,none,none] Tryz_mixed (by kernel_rfl) rfl rfl rfl (by kernel_rfl) ?_
 refine FNode.no (W:=[]) (J n8) ?_ rfl ?_
 rfl
 refine FNode.rd (F:=[0]) (W:=[]) (.ref 0 0 ((newslice7.map (eI .i64)).length)) ?_ rfl rfl ?_
 rfl
 refine FNode.no (W:=[]) (J n8) ?_ rfl ?_
 rfl
 obtain ⟨chs0_4,hs0_4⟩:=chk_elim hs0_3
 refine FNode.rd (F:=[0]) (W:=[]) (.ref 0 (0 + n8.toNat) ((newslice7.map (eI .i64)).length - n8.toNat)) ?_ rfl rfl ?_
 refine Side.mk chs0_4 ?_
 refine Nm.mk ⟨(0 + n8.toNat,(newslice7.map (eI .i64)).length - n8.toNat),rfl,?_⟩
 rfl
 refine FNode.rd (F:=[0]) (W:=[]) (.ref 0 0 ((newslice7.map (eI .i64)).length)) ?_ rfl rfl ?_
 rfl
 refine FNode.no (W:=[]) (J n8) ?_ rfl ?_
 rfl
 obtain ⟨chs0_5,hs0_5⟩:=chk_elim hs0_4
 refine FNode.rd (F:=[0]) (W:=[]) (.ref 0 (0 + 0) (n8.toNat - 0)) ?_ rfl rfl ?_
 refine Side.mk chs0_5 ?_
 refine Nm.mk ⟨(0 + 0,n8.toNat - 0),rfl,?_⟩
 rfl
 obtain ⟨chs0_6,hs0_6⟩:=chk_elim hs0_5
 obtain ⟨chs0_7,hs0_7⟩:=chk_elim hs0_6
 obtain ⟨mt45,emt45,hs0_8⟩:=letk_elim hs0_7
 obtain ⟨zt45,ezt45,hs0_9⟩:=letk_elim hs0_8
 refine FNode.pl (F:=[0]) (W:=[0]) (J (((mt45:Nat):Int))) [.arr 1 (zt45.map (eI .i64))] ?_ rfl rfl rfl rfl ?_
 refine HardN.copyR (eI .i64) newslice7 newslice7 zt45 mt45 [.arr 1 (zt45.map (eI .i64))] rfl rfl rfl rfl rfl rfl rfl rfl (by simpa only [List.length_map] using chs0_6) rfl rfl (by simpa only [List.length_map] using chs0_7) (one_map (fun _ _ hc=>by simp only [AV.cells,List.mem_singleton] at hc; subst hc; rfl)) (by simpa only [List.length_map] using emt45) (by simpa only [List.length_map] using ezt45) rfl ?_
 rfl
 rw [show (newslice7.map (eI .i64)).length = (zt45.map (eI .i64)).length from by rw [List.length_map,List.length_map,ezt45,spl_len chs0_6 emt45]]
 obtain ⟨t46,et46,hs0_10⟩:=letk_elim hs0_9
 refine FNode.no (W:=[]) (J t46) ?_ rfl ?_
 refine Nm.mk ⟨t46,et46,?_⟩
 rfl
 refine FNode.no (W:=[]) (J t46) ?_ rfl ?_
 rfl
 exact B' [0] ⟨_,hl1 _ (Option.some.inj hs0_10).symm,rfl⟩
noncomputable def Arr.spread.j0 (x2_0:Int) (x2_1 x2_2:List Int) (n3_0:Int) (n3_1 n3_2:List Int) (t4_0:Int) (t4_1 t4_2:List Int):Option (api.Array × Int) :=
 Option.bind (Slcs.Clone___int_int_ x2_1) fun t39 =>
 chk (0 ≤ (0:Int)) <|
 Option.bind (n3_2[(0:Int).toNat]?) fun t42 =>
 chk ((t39.length + ([t42]).length) * 8 ≤ 140737488355328) <|
 letk (t39 ++ ([t42])) fun t45 =>
 Option.bind (Arr.size t45) fun t47 =>
 letk (decide (t47 < (0:Int))) fun t48 =>
 bif t48 then
 some ((⟨0,[],[]⟩:api.Array),30)
 else
 chk (0 ≤ (0:Int)) <|
 Option.bind (n3_2[(0:Int).toNat]?) fun t57 =>
 Option.bind (Slcs.Repeat___int_int_ x2_2 t57) fun t59 =>
 some ((⟨x2_0,t45,t59⟩:api.Array),0)
noncomputable def Arr.spread.j2 (x2_0_1:Int) (x2_1_1 x2_2_1:List Int) (n3_0_1:Int) (n3_1_1 n3_2_1:List Int) (t4_0_1:Int) (t4_1_1 t4_2_1:List Int) (t23:Bool):Option (api.Array × Int) :=
 bif t23 then
 some ((⟨0,[],[]⟩:api.Array),2)
 else
 Arr.spread.j0 x2_0_1 x2_1_1 x2_2_1 n3_0_1 n3_1_1 n3_2_1 t4_0_1 t4_1_1 t4_2_1
noncomputable def Arr.spread.j1 (x2_0_1:Int) (x2_1_1 x2_2_1:List Int) (n3_0_1:Int) (n3_1_1 n3_2_1:List Int) (t4_0_1:Int) (t4_1_1 t4_2_1:List Int) (t12:Bool):Option (api.Array × Int) :=
 bif t12 then
 some ((⟨0,[],[]⟩:api.Array),71)
 else
 chk (0 ≤ (0:Int)) <|
 Option.bind (n3_2_1[(0:Int).toNat]?) fun t26 =>
 letk (decide (t26 < (0:Int))) fun t28 =>
 bif t28 then
 Arr.spread.j2 x2_0_1 x2_1_1 x2_2_1 n3_0_1 n3_1_1 n3_2_1 t4_0_1 t4_1_1 t4_2_1 true
 else
 chk (0 ≤ (0:Int)) <|
 Option.bind (n3_2_1[(0:Int).toNat]?) fun t32 =>
 letk (decide (t32 > (4000:Int))) fun t34 =>
 Arr.spread.j2 x2_0_1 x2_1_1 x2_2_1 n3_0_1 n3_1_1 n3_2_1 t4_0_1 t4_1_1 t4_2_1 t34
noncomputable def Arr.spread (x0 n1:api.Array):Option (api.Array × Int) :=
 letk (n1.Kind != (1:Int)) fun t10 =>
 bif t10 then
 some ((⟨0,[],[]⟩:api.Array),70)
 else
 letk ((x0.Shape.length:Int)) fun t15 =>
 letk (decide (t15 > (2:Int))) fun t16 =>
 bif t16 then
 Arr.spread.j1 x0.Kind x0.Shape x0.Elems n1.Kind n1.Shape n1.Elems 0 ([]) ([]) true
 else
 Option.bind (Arr.isScalar (⟨n1.Kind,n1.Shape,n1.Elems⟩:api.Array)) fun t19 =>
 letk (!t19) fun t20 =>
 Arr.spread.j1 x0.Kind x0.Shape x0.Elems n1.Kind n1.Shape n1.Elems 0 ([]) ([]) t20
theorem Arr.spread_ok {x0 n1:api.Array} {r:api.Array × Int} (h0:Arr.spread x0 n1 = some r):Gives Tryz.prog 91 [api.Array.enc x0,api.Array.enc n1] (.tup [api.Array.enc r.1,J r.2]):=by
 unfold Arr.spread at h0
 refine W' [(0,7),(22,9),(33,13)] Tryz.func91 ?_
 refine V' ?_
 refine V' ?_
 refine V' ?_
 refine CutN.of (fun s=>∃ x2_0 x2_1 x2_2 n3_0 n3_1 n3_2 t4_0 t4_1 t4_2,Arr.spread.j0 x2_0 x2_1 x2_2 n3_0 n3_1 n3_2 t4_0 t4_1 t4_2 = some r ∧ s = ⟨61,[(2,.ptr 0 0),(3,.ptr 1 0),(4,.ptr 2 0)],[.box [J x2_0,VI' x2_1,VI' x2_2],.box [J n3_0,VI' n3_1,VI' n3_2],.box [J t4_0,VI' t4_1,VI' t4_2]]⟩) ?_ ?_
 refine C' h0 (fun h2=>?_) fun h2=>?_
 refine CutN.of (fun s=>∃ x2_0_1 x2_1_1 x2_2_1 n3_0_1 n3_1_1 n3_2_1 t4_0_1 t4_1_1 t4_2_1 t12,Arr.spread.j1 x2_0_1 x2_1_1 x2_2_1 n3_0_1 n3_1_1 n3_2_1 t4_0_1 t4_1_1 t4_2_1 t12 = some r ∧ s = ⟨61,[(2,.ptr 0 0),(3,.ptr 1 0),(4,.ptr 2 0),(12,.lit (.bool t12))],[.box [J x2_0_1,VI' x2_1_1,VI' x2_2_1],.box [J n3_0_1,VI' n3_1_1,VI' n3_2_1],.box [J t4_0_1,VI' t4_1_1,VI' t4_2_1]]⟩) ?_ ?_
 obtain ⟨t15,et15,h3⟩:=letk_elim h2
 refine Nm.mk ⟨t15,by rw [et15,List.length_map],?_⟩
 refine C' h3 (fun h5=>?_) fun h5=>?_
 refine Gate.go (A' h5 Arr.isScalar_ok fun _ h6=>?_)
 refine N' h6 fun _ h7=>?_
 exact B' [0,1,2] ⟨_,_,_,_,_,_,_,_,_,_,h7,rfl⟩
 exact B' [0,1,2] ⟨_,_,_,_,_,_,_,_,_,_,h5,rfl⟩
 rintro s ⟨x2_0_1,x2_1_1,x2_2_1,n3_0_1,n3_1_1,n3_2_1,t4_0_1,t4_1_1,t4_2_1,t12,hj0,rfl⟩
 unfold Arr.spread.j1 at hj0
 rcases t12 with _ | _
 have hj1:=bif_f hj0
 refine CutN.of (fun s=>∃ t23,Arr.spread.j2 x2_0_1 x2_1_1 x2_2_1 n3_0_1 n3_1_1 n3_2_1 t4_0_1 t4_1_1 t4_2_1 t23 = some r ∧ s = ⟨61,[(2,.ptr 0 0),(3,.ptr 1 0),(4,.ptr 2 0),(23,.lit (.bool t23))],[.box [J x2_0_1,VI' x2_1_1,VI' x2_2_1],.box [J n3_0_1,VI' n3_1_1,VI' n3_2_1],.box [J t4_0_1,VI' t4_1_1,VI' t4_2_1]]⟩) ?_ ?_
 obtain ⟨chj2,hj2⟩:=chk_elim hj1
 obtain ⟨_,et26,hj3⟩:=bind_elim hj2
 refine Side.mk chj2 ?_
 refine At.by et26 ?_
 refine C' hj3 (fun hj5=>?_) fun hj5=>?_
 obtain ⟨chj6,hj6⟩:=chk_elim hj5
 obtain ⟨_,et32,hj7⟩:=bind_elim hj6
 refine Side.mk chj6 ?_
 refine At.by et32 ?_
 refine N' hj7 fun _ hj8=>?_
 exact B' [0,1,2] ⟨_,hj8,rfl⟩
 exact B' [0,1,2] ⟨_,hj5,rfl⟩
 rintro s ⟨t23,hj0,rfl⟩
 unfold Arr.spread.j2 at hj0
 rcases t23 with _ | _
 have hj1:=bif_f hj0
 exact B' [0,1,2] ⟨_,_,_,_,_,_,_,_,_,hj1,rfl⟩
 have hj1:=bif_t hj0
 refine Gate.go ?_
 refine V' ?_
 refine V' ?_
 have ehj1_0:=Option.some.inj hj1
 subst ehj1_0
 exact Returns.frozen (r:=.tup [api.Array.enc ((⟨0,[],[]⟩:api.Array)),J 2]) [] rfl rfl (WV.tups ⟨(WV.aggs ⟨.s,(.nilsVs _),(.nilsVs _),trivial⟩),.s,trivial⟩) ⟨rfl,rfl⟩
 have hj1:=bif_t hj0
 refine Gate.go ?_
 refine V' ?_
 refine V' ?_
 have ehj1_0:=Option.some.inj hj1
 subst ehj1_0
 exact Returns.frozen (r:=.tup [api.Array.enc ((⟨0,[],[]⟩:api.Array)),J 71]) [] rfl rfl (WV.tups ⟨(WV.aggs ⟨.s,(.nilsVs _),(.nilsVs _),trivial⟩),.s,trivial⟩) ⟨rfl,rfl⟩
 refine Gate.go ?_
 refine V' ?_
 refine V' ?_
 have eh2_0:=Option.some.inj h2
 subst eh2_0
 exact Returns.frozen (r:=.tup [api.Array.enc ((⟨0,[],[]⟩:api.Array)),J 70]) [] rfl rfl (WV.tups ⟨(WV.aggs ⟨.s,(.nilsVs _),(.nilsVs _),trivial⟩),.s,trivial⟩) ⟨rfl,rfl⟩
 rintro s ⟨x2_0,x2_1,x2_2,n3_0,n3_1,n3_2,t4_0,t4_1,t4_2,hj0,rfl⟩
 unfold Arr.spread.j0 at hj0
 refine DrawB.ofFN 3 [.box [J x2_0,VI' x2_1,VI' x2_2],.box [J n3_0,VI' n3_1,VI' n3_2],.box [J t4_0,VI' t4_1,VI' t4_2],.arr 1 [],.arr 1 [],.arr 1 []] 3 6 [[0],[0],[3],[1],[1],[],[],[4],[3,4,5],[5]] [[],[],[3],[],[],[],[],[4],[3,5],[]] [none,none,some 3,none,none,none,none,some 4,some 5,none] Tryz_mixed (by kernel_rfl) rfl rfl rfl (by kernel_rfl) ?_
 refine FNode.rd (F:=[0]) (W:=[]) (.ptr 0 1) ?_ rfl rfl ?_
 rfl
 refine FNode.rd (F:=[0]) (W:=[]) (VI' x2_1) ?_ rfl rfl ?_
 rfl
 obtain ⟨t39,et39,hj1⟩:=bind_elim hj0
 refine FNode.nw (F:=[3]) (W:=[3]) (.ref 6 0 ((t39.map (eI .i64)).length)) (.ref 3 0 ((t39.map (eI .i64)).length)) [.box [J x2_0,VI' x2_1,VI' x2_2],.box [J n3_0,VI' n3_1,VI' n3_2],.box [J t4_0,VI' t4_1,VI' t4_2],.arr 1 (t39.map (eI .i64)),.arr 1 [],.arr 1 []] [.dead,.dead,.dead,.arr 1 [],.dead,.dead] (.arr 1 (t39.map (eI .i64))) ?_ rfl rfl rfl rfl ⟨_,rfl⟩ (.inr ⟨0,(t39.map (eI .i64)).length,rfl,rfl⟩) rfl rfl ?_
 refine CallN.fresh (s:=1) (es:=t39.map (eI .i64)) (Slcs.Clone___int_int__ok et39) rfl ?_
 rfl
 refine FNode.rd (F:=[1]) (W:=[]) (.ptr 1 2) ?_ rfl rfl ?_
 rfl
 refine FNode.rd (F:=[1]) (W:=[]) (VI' n3_2) ?_ rfl rfl ?_
 rfl
 obtain ⟨chj2,hj2⟩:=chk_elim hj1
 obtain ⟨t42,et42,hj3⟩:=bind_elim hj2
 refine FNode.no (W:=[]) (.iptr (J t42)) ?_ rfl ?_
 refine Side.mk chj2 ?_
 refine At.by et42 ?_
 rfl
 refine FNode.no (W:=[]) (J t42) ?_ rfl ?_
 rfl
 refine FNode.nw (F:=[4]) (W:=[4]) (.ref 6 0 ((([t42]).map (eI .i64)).length)) (.ref 4 0 ((([t42]).map (eI .i64)).length)) [.box [J x2_0,VI' x2_1,VI' x2_2],.box [J n3_0,VI' n3_1,VI' n3_2],.box [J t4_0,VI' t4_1,VI' t4_2],.arr 1 (t39.map (eI .i64)),.arr 1 (([t42]).map (eI .i64)),.arr 1 []] [.dead,.dead,.dead,.dead,.arr 1 [],.dead] (.arr 1 (([t42]).map (eI .i64))) ?_ rfl rfl rfl rfl ⟨_,rfl⟩ (.inr ⟨0,(([t42]).map (eI .i64)).length,rfl,rfl⟩) rfl rfl ?_
 refine Nm.mk ⟨([t42]).map (eI .i64),rfl,?_⟩
 rfl
 obtain ⟨chj4,hj4⟩:=chk_elim hj3
 obtain ⟨t45,et45,hj5⟩:=letk_elim hj4
 refine FNode.nw (F:=[3,4,5]) (W:=[3,5]) (.ref 6 0 ((t45.map (eI .i64)).length)) (.ref 5 0 ((t45.map (eI .i64)).length)) [.box [J x2_0,VI' x2_1,VI' x2_2],.box [J n3_0,VI' n3_1,VI' n3_2],.box [J t4_0,VI' t4_1,VI' t4_2],.dead,.arr 1 (([t42]).map (eI .i64)),.arr 1 (t45.map (eI .i64))] [.dead,.dead,.dead,.dead,.arr 1 (([t42]).map (eI .i64)),.arr 1 []] (.arr 1 (t45.map (eI .i64))) ?_ rfl rfl rfl rfl ⟨_,rfl⟩ (.inr ⟨0,(t45.map (eI .i64)).length,rfl,rfl⟩) rfl rfl ?_
 refine Side.mk (full_le _) ?_
 refine Side.mk ⟨full_le _,one_map (fun _ _ hc=>by simp only [AV.cells,List.mem_singleton] at hc; subst hc; rfl)⟩ ?_
 refine Side.mk (side_rr (by decide) chj4) ?_
 refine Nm.mk ⟨t45.map (eI .i64),by rw [et45]; exact app_rr (m:=[t42]),?_⟩
 rfl
 refine FNode.rd (F:=[5]) (W:=[]) (.ref 5 0 ((t45.map (eI .i64)).length)) ?_ rfl rfl ?_
 rfl
 obtain ⟨t47,et47,hj6⟩:=bind_elim hj5
 refine Gate.go ?_
 refine CallN.lendBy (v:=J t47) (Arr.size_ok et47) ⟨lend_all rfl,trivial⟩ rfl ?_
 refine C' hj6 (fun hj8=>?_) fun hj8=>?_
 refine L' [0,1,2,5] [2,3,4,6] ?_
 refine DrawB.ofFN 0 [.box [J x2_0,VI' x2_1,VI' x2_2],.box [J n3_0,VI' n3_1,VI' n3_2],.box [J t4_0,VI' t4_1,VI' t4_2],.arr 1 (t45.map (eI .i64))] 4 4 [[0],[0],[3],[0],[0],[1],[1],[],[],[],[3],[2,3],[]] [[],[],[],[],[],[],[],[],[],[],[],[2],[]] [none,none,none,none,none,none,none,none,none,none,none,none,none] Tryz_mixed (by kernel_rfl) rfl rfl rfl (by kernel_rfl) ?_
 refine FNode.rd (F:=[0]) (W:=[]) (.ptr 0 0) ?_ rfl rfl ?_
 rfl
 refine FNode.rd (F:=[0]) (W:=[]) (J x2_0) ?_ rfl rfl ?_
 rfl
 refine FNode.rd (F:=[3]) (W:=[]) (.ref 3 0 ((t45.map (eI .i64)).length)) ?_ rfl rfl ?_
 rfl
 refine FNode.rd (F:=[0]) (W:=[]) (.ptr 0 2) ?_ rfl rfl ?_
 rfl
 refine FNode.rd (F:=[0]) (W:=[]) (VI' x2_2) ?_ rfl rfl ?_
 rfl
 refine FNode.rd (F:=[1]) (W:=[]) (.ptr 1 2) ?_ rfl rfl ?_
 rfl
 refine FNode.rd (F:=[1]) (W:=[]) (VI' n3_2) ?_ rfl rfl ?_
 rfl
 obtain ⟨chj9,hj9⟩:=chk_elim hj8
 obtain ⟨t57,et57,hj10⟩:=bind_elim hj9
 refine FNode.no (W:=[]) (.iptr (J t57)) ?_ rfl ?_
 refine Side.mk chj9 ?_
 refine At.by et57 ?_
 rfl
 refine FNode.no (W:=[]) (J t57) ?_ rfl ?_
 rfl
 obtain ⟨t59,et59,hj11⟩:=bind_elim hj10
 refine FNode.no (W:=[]) (VI' t59) ?_ rfl ?_
 refine Z' (Slcs.Repeat___int_int__ok et59) ?_
 rfl
 refine FNode.rd (F:=[3]) (W:=[]) (.agg [J x2_0,.ref 3 0 ((t45.map (eI .i64)).length),VI' t59]) ?_ rfl rfl ?_
 refine V' ?_
 rfl
 refine FNode.pl (F:=[2,3]) (W:=[2]) (.undef) [.box [J x2_0,VI' x2_1,VI' x2_2],.box [J n3_0,VI' n3_1,VI' n3_2],.box [J x2_0,.ref 3 0 ((t45.map (eI .i64)).length),VI' t59],.arr 1 (t45.map (eI .i64))] ?_ rfl rfl rfl rfl ?_
 refine V' ?_
 rfl
 refine FNode.no (W:=[]) (J 0) ?_ rfl ?_
 rfl
 have ehj11_0:=Option.some.inj hj11
 subst ehj11_0
 exact Returns.frozen (r:=.tup [api.Array.enc ((⟨x2_0,t45,t59⟩:api.Array)),J 0]) [3] rfl rfl (WV.tups ⟨(WV.aggs ⟨.s,(WV.all (k:=3) (by decide) rfl),.s,trivial⟩),.s,trivial⟩) ⟨rfl,rfl⟩
 refine Gate.go ?_
 refine V' ?_
 refine V' ?_
 have ehj8_0:=Option.some.inj hj8
 subst ehj8_0
 exact Returns.frozen (r:=.tup [api.Array.enc ((⟨0,[],[]⟩:api.Array)),J 30]) [] rfl rfl (WV.tups ⟨(WV.aggs ⟨.s,(.nilsVs _),(.nilsVs _),trivial⟩),.s,trivial⟩) ⟨rfl,rfl⟩
noncomputable def Slcs.Equal___int_int_.s0 (s10 s21:List Int) (t12 t13:Int):Option (Int ⊕ Bool) :=
 letk (decide (t13 < t12)) fun t14 =>
 bif t14 then
 chk (0 ≤ t13) <|
 Option.bind (s10[t13.toNat]?) fun t18 =>
 chk (0 ≤ t13) <|
 Option.bind (s21[t13.toNat]?) fun t22 =>
 letk (t18 != t22) fun t24 =>
 bif t24 then
 some (.inr false)
 else
 letk (IntKind.i64.wrap (t13 + (1:Int))) fun t25 =>
 some (.inl t25)
 else
 some (.inr true)
noncomputable def Slcs.Equal___int_int_.l0 (s10 s21:List Int) (t12 t13:Int):Option Bool:=loopO (fun v:Int=>Slcs.Equal___int_int_.s0 s10 s21 t12 v) t13
noncomputable def Slcs.Equal___int_int_ (s10 s21:List Int):Option Bool :=
 letk ((s10.length:Int)) fun t7 =>
 letk ((s21.length:Int)) fun t9 =>
 letk (t7 != t9) fun t10 =>
 bif t10 then
 some false
 else
 letk ((s10.length:Int)) fun t12 =>
 Slcs.Equal___int_int_.l0 s10 s21 t12 0
theorem Slcs.Equal___int_int__ok {s10 s21:List Int} {r:Bool} (h0:Slcs.Equal___int_int_ s10 s21 = some r):Gives Tryz.prog 55 [VI' s10,VI' s21] (.lit (.bool r)):=by
 unfold Slcs.Equal___int_int_ at h0
 refine W' [] Tryz.func55 ?_
 obtain ⟨t7,et7,h1⟩:=letk_elim h0
 refine Nm.mk ⟨t7,by rw [et7,List.length_map],?_⟩
 obtain ⟨t9,et9,h2⟩:=letk_elim h1
 refine Nm.mk ⟨t9,by rw [et9,List.length_map],?_⟩
 refine C' h2 (fun h4=>?_) fun h4=>?_
 obtain ⟨t12,et12,h5⟩:=letk_elim h4
 refine Nm.mk ⟨t12,by rw [et12,List.length_map],?_⟩
 unfold Slcs.Equal___int_int_.l0 at h5
 refine LoopB.of (σ:=Int) (ρ:=Bool) (fun v:Int=>Slcs.Equal___int_int_.s0 s10 s21 t12 v) (fun v=>(⟨26,[(0,VI' s10),(1,VI' s21),(12,J t12),(13,J v)],[]⟩:St)) 0 h5 (B' [] rfl) ?_
 rintro K1 t13 x1 hs0_0 hl1 hr1
 replace hs0_0:Slcs.Equal___int_int_.s0 s10 s21 t12 t13 = some x1:=hs0_0
 unfold Slcs.Equal___int_int_.s0 at hs0_0
 refine C' hs0_0 (fun hs0_2=>?_) fun hs0_2=>?_
 have ehs0_2u_0:=hr1 _ (Option.some.inj hs0_2).symm
 have hs0_2u:=congrArg some ehs0_2u_0
 exact R' (E:=E1') hs0_2u
 refine DrawB.ofG [none,none,none,none,none,none,none,none,none] Tryz_mixed (by kernel_rfl) (by kernel_rfl) ?_
 refine D' rfl (D' rfl ?_)
 obtain ⟨chs0_3,hs0_3⟩:=chk_elim hs0_2
 obtain ⟨t18,et18,hs0_4⟩:=bind_elim hs0_3
 refine DNodeB.of (.iptr (J t18)) ?_ ?_
 refine Side.mk chs0_3 ?_
 refine At.by et18 ?_
 rfl
 refine D' rfl (D' rfl (D' rfl ?_))
 obtain ⟨chs0_5,hs0_5⟩:=chk_elim hs0_4
 obtain ⟨t22,et22,hs0_6⟩:=bind_elim hs0_5
 refine DNodeB.of (.iptr (J t22)) ?_ ?_
 refine Side.mk chs0_5 ?_
 refine At.by et22 ?_
 rfl
 refine D' rfl ?_
 refine DN' hs0_6 (fun e=>n' e rfl) fun t24 hs0_7=>?_
 rcases t24 with _ | _
 have hs0_8:=bif_f hs0_7
 refine N' hs0_8 fun _ hs0_9=>?_
 exact B' [] ⟨_,hl1 _ (Option.some.inj hs0_9).symm,rfl⟩
 have hs0_8:=bif_t hs0_7
 have ehs0_8_0:=hr1 _ (Option.some.inj hs0_8).symm
 subst ehs0_8_0
 exact Returns.pure (r:=.lit (.bool false)) rfl rfl rfl rfl ⟨rfl,rfl⟩
 exact R' (E:=E1') h4
noncomputable def Arr.pack.s0 (x2_2:List Int) (t33 m3_0_1:Int) (m3_1_1 m3_2_1:List Int) (t4_0_1:Int) (t4_1_1 t4_2_1:List Int) (out6_0:Int) (out6_1 out6_2:List Int) (t34:Int):Option ((Int × (List Int) × (List Int) × Int × (List Int) × (List Int) × Int × (List Int) × (List Int) × Int) ⊕ (api.Array × Int)) :=
 letk (decide (t34 < t33)) fun t35 =>
 bif t35 then
 chk (0 ≤ t34) <|
 Option.bind (x2_2[t34.toNat]?) fun t37 =>
 Option.bind (Arr.at_ (⟨m3_0_1,m3_1_1,m3_2_1⟩:api.Array) t34) fun t41 =>
 letk (t41.N == (1:Int)) fun t43 =>
 bif t43 then
 chk ((out6_2.length + ([t37]).length) * 8 ≤ 140737488355328) <|
 letk (out6_2 ++ ([t37])) fun t48 =>
 letk (IntKind.i64.wrap (t34 + (1:Int))) fun t50_1 =>
 some (.inl (m3_0_1,m3_1_1,m3_2_1,t4_0_1,t4_1_1,t4_2_1,out6_0,out6_1,t48,t50_1))
 else
 letk (IntKind.i64.wrap (t34 + (1:Int))) fun t50 =>
 some (.inl (m3_0_1,m3_1_1,m3_2_1,t4_0_1,t4_1_1,t4_2_1,out6_0,out6_1,out6_2,t50))
 else
 ((
 letk ((out6_2.length:Int)) fun t53 =>
 some ((⟨out6_0,[t53],out6_2⟩:api.Array),0))).map .inr
noncomputable def Arr.pack.l0 (x2_2:List Int) (t33 m3_0_1:Int) (m3_1_1 m3_2_1:List Int) (t4_0_1:Int) (t4_1_1 t4_2_1:List Int) (out6_0:Int) (out6_1 out6_2:List Int) (t34:Int):Option (api.Array × Int):=loopO (fun v:Int × (List Int) × (List Int) × Int × (List Int) × (List Int) × Int × (List Int) × (List Int) × Int=>Arr.pack.s0 x2_2 t33 v.1 v.2.1 v.2.2.1 v.2.2.2.1 v.2.2.2.2.1 v.2.2.2.2.2.1 v.2.2.2.2.2.2.1 v.2.2.2.2.2.2.2.1 v.2.2.2.2.2.2.2.2.1 v.2.2.2.2.2.2.2.2.2) (m3_0_1,m3_1_1,m3_2_1,t4_0_1,t4_1_1,t4_2_1,out6_0,out6_1,out6_2,t34)
noncomputable def Arr.pack.j0 (x2_0:Int) (x2_1 x2_2:List Int) (m3_0:Int) (m3_1 m3_2:List Int) (t4_0:Int) (t4_1 t4_2:List Int):Option (api.Array × Int) :=
 letk ((x2_2.length:Int)) fun t33 =>
 Arr.pack.l0 x2_2 t33 m3_0 m3_1 m3_2 t4_0 t4_1 t4_2 x2_0 ([]) ([]) 0
noncomputable def Arr.pack.j1 (x2_0_1:Int) (x2_1_1 x2_2_1:List Int) (m3_0_2:Int) (m3_1_2 m3_2_2:List Int) (t4_0_2:Int) (t4_1_2 t4_2_2:List Int) (t26:Bool):Option (api.Array × Int) :=
 bif t26 then
 some ((⟨0,[],[]⟩:api.Array),30)
 else
 Arr.pack.j0 x2_0_1 x2_1_1 x2_2_1 m3_0_2 m3_1_2 m3_2_2 t4_0_2 t4_1_2 t4_2_2
noncomputable def Arr.pack (x0 m1:api.Array):Option (api.Array × Int) :=
 letk (m1.Kind != (2:Int)) fun t11 =>
 bif t11 then
 some ((⟨0,[],[]⟩:api.Array),70)
 else
 Option.bind (Arr.isScalar (⟨x0.Kind,x0.Shape,x0.Elems⟩:api.Array)) fun t14 =>
 bif t14 then
 some ((⟨0,[],[]⟩:api.Array),71)
 else
 Option.bind (Arr.isScalar (⟨m1.Kind,m1.Shape,m1.Elems⟩:api.Array)) fun t17 =>
 letk (!t17) fun t18 =>
 bif t18 then
 Option.bind (Slcs.Equal___int_int_ x0.Shape m1.Shape) fun t24 =>
 letk (!t24) fun t25 =>
 Arr.pack.j1 x0.Kind x0.Shape x0.Elems m1.Kind m1.Shape m1.Elems 0 ([]) ([]) t25
 else
 Arr.pack.j1 x0.Kind x0.Shape x0.Elems m1.Kind m1.Shape m1.Elems 0 ([]) ([]) false
theorem Arr.pack_ok {x0 m1:api.Array} {r:api.Array × Int} (h0:Arr.pack x0 m1 = some r):Gives Tryz.prog 92 [api.Array.enc x0,api.Array.enc m1] (.tup [api.Array.enc r.1,J r.2]):=by
 unfold Arr.pack at h0
 refine W' [(0,7),(36,13)] Tryz.func92 ?_
 refine V' ?_
 refine V' ?_
 refine V' ?_
 refine C' h0 (fun h2=>?_) fun h2=>?_
 refine Gate.go (A' h2 Arr.isScalar_ok fun t14 h3=>?_)
 rcases t14 with _ | _
 have h4:=bif_f h3
 refine CutN.of (fun s=>∃ x2_0 x2_1 x2_2 m3_0 m3_1 m3_2 t4_0 t4_1 t4_2,Arr.pack.j0 x2_0 x2_1 x2_2 m3_0 m3_1 m3_2 t4_0 t4_1 t4_2 = some r ∧ s = ⟨57,[(2,.ptr 0 0),(3,.ptr 1 0),(4,.ptr 2 0)],[.box [J x2_0,VI' x2_1,VI' x2_2],.box [J m3_0,VI' m3_1,VI' m3_2],.box [J t4_0,VI' t4_1,VI' t4_2]]⟩) ?_ ?_
 refine CutN.of (fun s=>∃ x2_0_1 x2_1_1 x2_2_1 m3_0_2 m3_1_2 m3_2_2 t4_0_2 t4_1_2 t4_2_2 t26,Arr.pack.j1 x2_0_1 x2_1_1 x2_2_1 m3_0_2 m3_1_2 m3_2_2 t4_0_2 t4_1_2 t4_2_2 t26 = some r ∧ s = ⟨57,[(2,.ptr 0 0),(3,.ptr 1 0),(4,.ptr 2 0),(26,.lit (.bool t26))],[.box [J x2_0_1,VI' x2_1_1,VI' x2_2_1],.box [J m3_0_2,VI' m3_1_2,VI' m3_2_2],.box [J t4_0_2,VI' t4_1_2,VI' t4_2_2]]⟩) ?_ ?_
 refine Gate.go (A' h4 Arr.isScalar_ok fun _ h5=>?_)
 refine C' h5 (fun h7=>?_) fun h7=>?_
 exact B' [0,1,2] ⟨_,_,_,_,_,_,_,_,_,_,h7,rfl⟩
 refine Gate.go (A' h7 Slcs.Equal___int_int__ok fun _ h8=>?_)
 refine N' h8 fun _ h9=>?_
 exact B' [0,1,2] ⟨_,_,_,_,_,_,_,_,_,_,h9,rfl⟩
 rintro s ⟨_,_,_,_,_,_,_,_,_,t26,hj0,rfl⟩
 unfold Arr.pack.j1 at hj0
 rcases t26 with _ | _
 have hj1:=bif_f hj0
 exact B' [0,1,2] ⟨_,_,_,_,_,_,_,_,_,hj1,rfl⟩
 have hj1:=bif_t hj0
 refine Gate.go ?_
 refine V' ?_
 refine V' ?_
 have ehj1_0:=Option.some.inj hj1
 subst ehj1_0
 exact Returns.frozen (r:=.tup [api.Array.enc ((⟨0,[],[]⟩:api.Array)),J 30]) [] rfl rfl (WV.tups ⟨(WV.aggs ⟨.s,(.nilsVs _),(.nilsVs _),trivial⟩),.s,trivial⟩) ⟨rfl,rfl⟩
 rintro s ⟨x2_0,_,x2_2,m3_0,m3_1,m3_2,t4_0,t4_1,t4_2,hj0,rfl⟩
 unfold Arr.pack.j0 at hj0
 refine Gate.go ?_
 refine V' ?_
 refine V' ?_
 refine V' ?_
 obtain ⟨t33,et33,hj1⟩:=letk_elim hj0
 refine Nm.mk ⟨t33,by rw [et33,List.length_map],?_⟩
 unfold Arr.pack.l0 at hj1
 refine LoopB.of (σ:=Int × (List Int) × (List Int) × Int × (List Int) × (List Int) × Int × (List Int) × (List Int) × Int) (ρ:=api.Array × Int) (fun v:Int × (List Int) × (List Int) × Int × (List Int) × (List Int) × Int × (List Int) × (List Int) × Int=>Arr.pack.s0 x2_2 t33 v.1 v.2.1 v.2.2.1 v.2.2.2.1 v.2.2.2.2.1 v.2.2.2.2.2.1 v.2.2.2.2.2.2.1 v.2.2.2.2.2.2.2.1 v.2.2.2.2.2.2.2.2.1 v.2.2.2.2.2.2.2.2.2) (fun v=>(⟨57,[(3,.ptr 0 0),(4,.ptr 1 0),(6,.ptr 2 0),(32,VI' x2_2),(33,J t33),(34,J v.2.2.2.2.2.2.2.2.2)],[.box [J v.1,VI' v.2.1,VI' v.2.2.1],.box [J v.2.2.2.1,VI' v.2.2.2.2.1,VI' v.2.2.2.2.2.1],.box [J v.2.2.2.2.2.2.1,VI' v.2.2.2.2.2.2.2.1,.ref 3 0 ((v.2.2.2.2.2.2.2.2.1.map (eI .i64)).length)],.arr 1 (v.2.2.2.2.2.2.2.2.1.map (eI .i64))]⟩:St)) (m3_0,m3_1,m3_2,t4_0,t4_1,t4_2,x2_0,[],[],0) hj1 (BackS.by rfl (Sees.of (Weak.objs (keep:=[1,2,3]) (frz:=[]) (m:=1) rfl (by decide) rfl rfl ⟨⟨_,rfl,WO.boxs ⟨.s,.s,.s,trivial⟩⟩,⟨⟨_,rfl,WO.boxs ⟨.s,.s,.s,trivial⟩⟩,⟨⟨_,rfl,WO.boxs ⟨.s,(.nilsVs _),(.nilsRef 3 (by decide) (by decide)),trivial⟩⟩,⟨rfl,fun _ ho=>by simp only [List.mem_cons,List.not_mem_nil,or_false] at ho; exact ⟨_,ho⟩⟩⟩⟩⟩ ⟨(.ptr _ _ 0 rfl),(.ptr _ _ 1 rfl),(.ptr _ _ 2 rfl),.s,.s,.s,trivial⟩))) ?_
 rintro _ ⟨m3_0_1,m3_1_1,m3_2_1,t4_0_1,t4_1_1,t4_2_1,out6_0,out6_1,out6_2,t34⟩ x1 hs0_0 hl1 hr1
 replace hs0_0:Arr.pack.s0 x2_2 t33 m3_0_1 m3_1_1 m3_2_1 t4_0_1 t4_1_1 t4_2_1 out6_0 out6_1 out6_2 t34 = some x1:=hs0_0
 unfold Arr.pack.s0 at hs0_0
 refine C' hs0_0 (fun hs0_2=>?_) fun hs0_2=>?_
 obtain ⟨_,hs0_2u,ehs0_2_0⟩:=map_elim hs0_2
 have ehs0_2_0:=(hr1 _ ehs0_2_0.symm).symm
 subst ehs0_2_0
 obtain ⟨t53,et53,hs0_2u0⟩:=letk_elim hs0_2u
 refine Nm.mk ⟨t53,by rw [et53,List.length_map],?_⟩
 refine Gate.go ?_
 refine Nm.mk ⟨([t53]).map (eI .i64),rfl,?_⟩
 refine V' ?_
 refine V' ?_
 have ehs0_2u0_0:=Option.some.inj hs0_2u0
 subst ehs0_2u0_0
 exact Returns.frozen (r:=.tup [api.Array.enc ((⟨out6_0,[t53],out6_2⟩:api.Array)),J 0]) [3,4] rfl rfl (WV.tups ⟨(WV.aggs ⟨.s,(WV.all (k:=4) (by decide) rfl),(WV.all (k:=3) (by decide) rfl),trivial⟩),.s,trivial⟩) ⟨rfl,rfl⟩
 obtain ⟨chs0_3,hs0_3⟩:=chk_elim hs0_2
 obtain ⟨t37,et37,hs0_4⟩:=bind_elim hs0_3
 refine Side.mk chs0_3 ?_
 refine At.by et37 ?_
 refine Gate.go (A' hs0_4 Arr.at__ok fun _ hs0_5=>?_)
 refine C' hs0_5 (fun hs0_7=>?_) fun hs0_7=>?_
 refine N' hs0_7 fun _ hs0_8=>?_
 exact B' [0,1,2,3] ⟨_,hl1 _ (Option.some.inj hs0_8).symm,rfl⟩
 refine Gate.go ?_
 refine Nm.mk ⟨([t37]).map (eI .i64),rfl,?_⟩
 obtain ⟨chs0_8,hs0_8⟩:=chk_elim hs0_7
 obtain ⟨t48,et48,hs0_9⟩:=letk_elim hs0_8
 refine Gate.go ?_
 refine Side.mk (full_le _) ?_
 refine Side.mk ⟨full_le _,one_map (fun _ _ hc=>by simp only [AV.cells,List.mem_singleton] at hc; subst hc; rfl)⟩ ?_
 refine Side.mk (side_rr (by decide) chs0_8) ?_
 refine Nm.mk ⟨t48.map (eI .i64),by rw [et48]; exact app_rr (m:=[t37]),?_⟩
 refine V' ?_
 refine N' hs0_9 fun _ hs0_10=>?_
 exact B' [0,1,2,5] ⟨_,hl1 _ (Option.some.inj hs0_10).symm,rfl⟩
 have h4:=bif_t h3
 refine Gate.go ?_
 refine V' ?_
 refine V' ?_
 have eh4_0:=Option.some.inj h4
 subst eh4_0
 exact Returns.frozen (r:=.tup [api.Array.enc ((⟨0,[],[]⟩:api.Array)),J 71]) [] rfl rfl (WV.tups ⟨(WV.aggs ⟨.s,(.nilsVs _),(.nilsVs _),trivial⟩),.s,trivial⟩) ⟨rfl,rfl⟩
 refine Gate.go ?_
 refine V' ?_
 refine V' ?_
 have eh2_0:=Option.some.inj h2
 subst eh2_0
 exact Returns.frozen (r:=.tup [api.Array.enc ((⟨0,[],[]⟩:api.Array)),J 70]) [] rfl rfl (WV.tups ⟨(WV.aggs ⟨.s,(.nilsVs _),(.nilsVs _),trivial⟩),.s,trivial⟩) ⟨rfl,rfl⟩
end Go.Q
