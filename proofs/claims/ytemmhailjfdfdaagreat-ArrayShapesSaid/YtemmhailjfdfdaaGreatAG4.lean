import Derived.Test.YtemmhailjfdfdaaGreatAG3
import Derived.Test.YtemmhailjfdfdaaGreatFX
import Derived.Test.YtemmhailjfdfdaaGreatFY
import Derived.Test.YtemmhailjfdfdaaGreatProg
namespace Go.Q
open Go Go.Proofs
set_option maxRecDepth 10000
set_option maxHeartbeats 2000000
noncomputable def Arr.reshapes.s1 (t44 t46 t51 t4_0_1:Int) (t4_1_1 t4_2_1:List Int) (x6_0_1:Int) (x6_1_1 x6_2_1:List Int) (out7_0_1:Int) (out7_1_1 out7_2_1:List Int) (t53:Int):Option ((Int × (List Int) × (List Int) × Int × (List Int) × (List Int) × Int × (List Int) × (List Int) × Int) ⊕ ((Int × (List Int) × (List Int) × Int × (List Int) × (List Int) × Int × (List Int) × (List Int) × Int) ⊕ (api.Array × Int))) :=
 letk (decide (t53 < t51)) fun t54 =>
 bif t54 then
 chk (0 ≤ (0:Int)) <|
 Option.bind (x6_1_1[(0:Int).toNat]?) fun t64 =>
 letk (IntKind.i64.wrap (t53 * t64)) fun t66 =>
 letk (IntKind.i64.wrap (t46 + t66)) fun t67 =>
 chk (0 ≤ t67) <|
 Option.bind (x6_2_1[t67.toNat]?) fun t68 =>
 chk ((out7_2_1.length + ([t68]).length) * 8 ≤ 140737488355328) <|
 letk (out7_2_1 ++ ([t68])) fun t71 =>
 letk (IntKind.i64.wrap (t53 + (1:Int))) fun t73 =>
 some (.inl (t4_0_1,t4_1_1,t4_2_1,x6_0_1,x6_1_1,x6_2_1,out7_0_1,out7_1_1,t71,t73))
 else
 ((
 letk (IntKind.i64.wrap (t46 + (1:Int))) fun t74 =>
 some (.inl (t4_0_1,t4_1_1,t4_2_1,x6_0_1,x6_1_1,x6_2_1,out7_0_1,out7_1_1,out7_2_1,t74)))).map .inr
noncomputable def Arr.reshapes.l1 (t44 t46 t51 t4_0_1:Int) (t4_1_1 t4_2_1:List Int) (x6_0_1:Int) (x6_1_1 x6_2_1:List Int) (out7_0_1:Int) (out7_1_1 out7_2_1:List Int) (t53:Int):Option ((Int × (List Int) × (List Int) × Int × (List Int) × (List Int) × Int × (List Int) × (List Int) × Int) ⊕ (api.Array × Int)):=loopO (fun v:Int × (List Int) × (List Int) × Int × (List Int) × (List Int) × Int × (List Int) × (List Int) × Int=>Arr.reshapes.s1 t44 t46 t51 v.1 v.2.1 v.2.2.1 v.2.2.2.1 v.2.2.2.2.1 v.2.2.2.2.2.1 v.2.2.2.2.2.2.1 v.2.2.2.2.2.2.2.1 v.2.2.2.2.2.2.2.2.1 v.2.2.2.2.2.2.2.2.2) (t4_0_1,t4_1_1,t4_2_1,x6_0_1,x6_1_1,x6_2_1,out7_0_1,out7_1_1,out7_2_1,t53)
noncomputable def Arr.reshapes.s0 (t44 t4_0:Int) (t4_1 t4_2:List Int) (x6_0:Int) (x6_1 x6_2:List Int) (out7_0:Int) (out7_1 out7_2:List Int) (t46:Int):Option ((Int × (List Int) × (List Int) × Int × (List Int) × (List Int) × Int × (List Int) × (List Int) × Int) ⊕ (api.Array × Int)) :=
 letk (decide (t46 < t44)) fun t47 =>
 bif t47 then
 chk (0 ≤ (1:Int)) <|
 Option.bind (x6_1[(1:Int).toNat]?) fun t51 =>
 Arr.reshapes.l1 t44 t46 t51 t4_0 t4_1 t4_2 x6_0 x6_1 x6_2 out7_0 out7_1 out7_2 0
 else
 some (.inr ((⟨out7_0,out7_1,out7_2⟩:api.Array),0))
noncomputable def Arr.reshapes.l0 (t44 t4_0:Int) (t4_1 t4_2:List Int) (x6_0:Int) (x6_1 x6_2:List Int) (out7_0:Int) (out7_1 out7_2:List Int) (t46:Int):Option (api.Array × Int):=loopO (fun v:Int × (List Int) × (List Int) × Int × (List Int) × (List Int) × Int × (List Int) × (List Int) × Int=>Arr.reshapes.s0 t44 v.1 v.2.1 v.2.2.1 v.2.2.2.1 v.2.2.2.2.1 v.2.2.2.2.2.1 v.2.2.2.2.2.2.1 v.2.2.2.2.2.2.2.1 v.2.2.2.2.2.2.2.2.1 v.2.2.2.2.2.2.2.2.2) (t4_0,t4_1,t4_2,x6_0,x6_1,x6_2,out7_0,out7_1,out7_2,t46)
noncomputable def Arr.reshapes (name0:ByteArray) (args1:List api.Array):Option (api.Array × Int) :=
 chk (0 ≤ (0:Int)) <|
 Option.bind (args1[(0:Int).toNat]?) fun t11 =>
 letk (name0.toList == (⟨#[114,101,115,104,97,112,101]⟩:ByteArray).toList) fun t15 =>
 bif t15 then
 chk (0 ≤ (1:Int)) <|
 Option.bind (args1[(1:Int).toNat]?) fun t18 =>
 Option.bind (Arr.reshape (⟨t11.Kind,t11.Shape,t11.Elems⟩:api.Array) t18) fun (t20_0,t20_1) =>
 some ((⟨t20_0.Kind,t20_0.Shape,t20_0.Elems⟩:api.Array),t20_1)
 else
 letk (name0.toList == (⟨#[116,114,97,110,115,112,111,115,101]⟩:ByteArray).toList) fun t24 =>
 bif t24 then
 letk ((t11.Shape.length:Int)) fun t27 =>
 letk (t27 != (2:Int)) fun t28 =>
 bif t28 then
 some ((⟨0,[],[]⟩:api.Array),71)
 else
 chk (0 ≤ (1:Int)) <|
 Option.bind (t11.Shape[(1:Int).toNat]?) fun t34 =>
 chk (0 ≤ (0:Int)) <|
 Option.bind (t11.Shape[(0:Int).toNat]?) fun t38 =>
 chk (0 ≤ (0:Int)) <|
 Option.bind (t11.Shape[(0:Int).toNat]?) fun t44 =>
 Arr.reshapes.l0 t44 0 ([]) ([]) t11.Kind t11.Shape t11.Elems t11.Kind ([t34,t38]) ([]) 0
 else
 letk (name0.toList == (⟨#[109,97,116,109,117,108]⟩:ByteArray).toList) fun t77 =>
 bif t77 then
 chk (0 ≤ (1:Int)) <|
 Option.bind (args1[(1:Int).toNat]?) fun t80 =>
 Option.bind (Arr.matmul (⟨t11.Kind,t11.Shape,t11.Elems⟩:api.Array) t80) fun (t82_0,t82_1) =>
 some ((⟨t82_0.Kind,t82_0.Shape,t82_0.Elems⟩:api.Array),t82_1)
 else
 letk (name0.toList == (⟨#[99,115,104,105,102,116]⟩:ByteArray).toList) fun t86 =>
 bif t86 then
 chk (0 ≤ (1:Int)) <|
 Option.bind (args1[(1:Int).toNat]?) fun t89 =>
 Option.bind (Arr.cshift (⟨t11.Kind,t11.Shape,t11.Elems⟩:api.Array) t89) fun (t91_0,t91_1) =>
 some ((⟨t91_0.Kind,t91_0.Shape,t91_0.Elems⟩:api.Array),t91_1)
 else
 letk (name0.toList == (⟨#[115,112,114,101,97,100]⟩:ByteArray).toList) fun t95 =>
 bif t95 then
 chk (0 ≤ (1:Int)) <|
 Option.bind (args1[(1:Int).toNat]?) fun t98 =>
 Option.bind (Arr.spread (⟨t11.Kind,t11.Shape,t11.Elems⟩:api.Array) t98) fun (t100_0,t100_1) =>
 some ((⟨t100_0.Kind,t100_0.Shape,t100_0.Elems⟩:api.Array),t100_1)
 else
 chk (0 ≤ (1:Int)) <|
 Option.bind (args1[(1:Int).toNat]?) fun t105 =>
 Option.bind (Arr.pack (⟨t11.Kind,t11.Shape,t11.Elems⟩:api.Array) t105) fun (t107_0,t107_1) =>
 some ((⟨t107_0.Kind,t107_0.Shape,t107_0.Elems⟩:api.Array),t107_1)
theorem Arr.reshapes_ok {name0:ByteArray} {args1:List api.Array} {r:api.Array × Int} (h0:Arr.reshapes name0 args1 = some r):Gives Tryz.prog 42 [.lit (.string name0),.vs 3 (args1.map (api.Array.enc))] (.tup [api.Array.enc r.1,J r.2]):=by
 unfold Arr.reshapes at h0
 refine W' [] Tryz.func42 ?_
 refine V' ?_
 obtain ⟨ch1,h1⟩:=chk_elim h0
 obtain ⟨t11,et11,h2⟩:=bind_elim h1
 refine Side.mk ch1 ?_
 refine At.by et11 ?_
 refine V' ?_
 refine V' ?_
 refine C' h2 (fun h4=>?_) fun h4=>?_
 refine C' h4 (fun h6=>?_) fun h6=>?_
 refine C' h6 (fun h8=>?_) fun h8=>?_
 refine C' h8 (fun h10=>?_) fun h10=>?_
 refine C' h10 (fun h12=>?_) fun h12=>?_
 refine DrawB.ofFN 0 [.box [J 0,.nils,.nils],.box [J t11.Kind,VI' t11.Shape,VI' t11.Elems]] 2 2 [[1],[],[],[],[],[],[],[0],[]] [[],[],[],[],[],[],[],[0],[]] [none,none,none,none,none,none,none,none,none] Tryz_mixed (by kernel_rfl) rfl rfl rfl (by kernel_rfl) ?_
 refine FNode.rd (F:=[1]) (W:=[]) (.agg [J t11.Kind,VI' t11.Shape,VI' t11.Elems]) ?_ rfl rfl ?_
 rfl
 refine FNode.no (W:=[]) (.vs 3 (args1.map (api.Array.enc))) ?_ rfl ?_
 rfl
 obtain ⟨ch13,h13⟩:=chk_elim h12
 obtain ⟨t105,et105,h14⟩:=bind_elim h13
 refine FNode.no (W:=[]) (.iptr (api.Array.enc t105)) ?_ rfl ?_
 refine Side.mk ch13 ?_
 refine At.by et105 ?_
 rfl
 refine FNode.no (W:=[]) (api.Array.enc t105) ?_ rfl ?_
 rfl
 obtain ⟨⟨t107_0,t107_1⟩,et107,h15⟩:=bind_elim h14
 refine FNode.no (W:=[]) (.tup [api.Array.enc t107_0,J t107_1]) ?_ rfl ?_
 refine Z' (Arr.pack_ok et107) ?_
 rfl
 refine FNode.no (W:=[]) (api.Array.enc t107_0) ?_ rfl ?_
 rfl
 refine FNode.no (W:=[]) (J t107_1) ?_ rfl ?_
 rfl
 refine FNode.pl (F:=[0]) (W:=[0]) (.undef) [.box [J t107_0.Kind,VI' t107_0.Shape,VI' t107_0.Elems],.box [J t11.Kind,VI' t11.Shape,VI' t11.Elems]] ?_ rfl rfl rfl rfl ?_
 refine V' ?_
 rfl
 refine FNode.no (W:=[]) (J t107_1) ?_ rfl ?_
 rfl
 exact R' (E:=E8') h15
 refine DrawB.ofFN 0 [.box [J 0,.nils,.nils],.box [J t11.Kind,VI' t11.Shape,VI' t11.Elems]] 2 2 [[1],[],[],[],[],[],[],[0],[]] [[],[],[],[],[],[],[],[0],[]] [none,none,none,none,none,none,none,none,none] Tryz_mixed (by kernel_rfl) rfl rfl rfl (by kernel_rfl) ?_
 refine FNode.rd (F:=[1]) (W:=[]) (.agg [J t11.Kind,VI' t11.Shape,VI' t11.Elems]) ?_ rfl rfl ?_
 rfl
 refine FNode.no (W:=[]) (.vs 3 (args1.map (api.Array.enc))) ?_ rfl ?_
 rfl
 obtain ⟨ch13,h13⟩:=chk_elim h12
 obtain ⟨t98,et98,h14⟩:=bind_elim h13
 refine FNode.no (W:=[]) (.iptr (api.Array.enc t98)) ?_ rfl ?_
 refine Side.mk ch13 ?_
 refine At.by et98 ?_
 rfl
 refine FNode.no (W:=[]) (api.Array.enc t98) ?_ rfl ?_
 rfl
 obtain ⟨⟨t100_0,t100_1⟩,et100,h15⟩:=bind_elim h14
 refine FNode.no (W:=[]) (.tup [api.Array.enc t100_0,J t100_1]) ?_ rfl ?_
 refine Z' (Arr.spread_ok et100) ?_
 rfl
 refine FNode.no (W:=[]) (api.Array.enc t100_0) ?_ rfl ?_
 rfl
 refine FNode.no (W:=[]) (J t100_1) ?_ rfl ?_
 rfl
 refine FNode.pl (F:=[0]) (W:=[0]) (.undef) [.box [J t100_0.Kind,VI' t100_0.Shape,VI' t100_0.Elems],.box [J t11.Kind,VI' t11.Shape,VI' t11.Elems]] ?_ rfl rfl rfl rfl ?_
 refine V' ?_
 rfl
 refine FNode.no (W:=[]) (J t100_1) ?_ rfl ?_
 rfl
 exact R' (E:=E8') h15
 refine DrawB.ofFN 0 [.box [J 0,.nils,.nils],.box [J t11.Kind,VI' t11.Shape,VI' t11.Elems]] 2 2 [[1],[],[],[],[],[],[],[0],[]] [[],[],[],[],[],[],[],[0],[]] [none,none,none,none,none,none,none,none,none] Tryz_mixed (by kernel_rfl) rfl rfl rfl (by kernel_rfl) ?_
 refine FNode.rd (F:=[1]) (W:=[]) (.agg [J t11.Kind,VI' t11.Shape,VI' t11.Elems]) ?_ rfl rfl ?_
 rfl
 refine FNode.no (W:=[]) (.vs 3 (args1.map (api.Array.enc))) ?_ rfl ?_
 rfl
 obtain ⟨ch11,h11⟩:=chk_elim h10
 obtain ⟨t89,et89,h12⟩:=bind_elim h11
 refine FNode.no (W:=[]) (.iptr (api.Array.enc t89)) ?_ rfl ?_
 refine Side.mk ch11 ?_
 refine At.by et89 ?_
 rfl
 refine FNode.no (W:=[]) (api.Array.enc t89) ?_ rfl ?_
 rfl
 obtain ⟨⟨t91_0,t91_1⟩,et91,h13⟩:=bind_elim h12
 refine FNode.no (W:=[]) (.tup [api.Array.enc t91_0,J t91_1]) ?_ rfl ?_
 refine Z' (Arr.cshift_ok et91) ?_
 rfl
 refine FNode.no (W:=[]) (api.Array.enc t91_0) ?_ rfl ?_
 rfl
 refine FNode.no (W:=[]) (J t91_1) ?_ rfl ?_
 rfl
 refine FNode.pl (F:=[0]) (W:=[0]) (.undef) [.box [J t91_0.Kind,VI' t91_0.Shape,VI' t91_0.Elems],.box [J t11.Kind,VI' t11.Shape,VI' t11.Elems]] ?_ rfl rfl rfl rfl ?_
 refine V' ?_
 rfl
 refine FNode.no (W:=[]) (J t91_1) ?_ rfl ?_
 rfl
 exact R' (E:=E8') h13
 refine DrawB.ofFN 0 [.box [J 0,.nils,.nils],.box [J t11.Kind,VI' t11.Shape,VI' t11.Elems]] 2 2 [[1],[],[],[],[],[],[],[0],[]] [[],[],[],[],[],[],[],[0],[]] [none,none,none,none,none,none,none,none,none] Tryz_mixed (by kernel_rfl) rfl rfl rfl (by kernel_rfl) ?_
 refine FNode.rd (F:=[1]) (W:=[]) (.agg [J t11.Kind,VI' t11.Shape,VI' t11.Elems]) ?_ rfl rfl ?_
 rfl
 refine FNode.no (W:=[]) (.vs 3 (args1.map (api.Array.enc))) ?_ rfl ?_
 rfl
 obtain ⟨ch9,h9⟩:=chk_elim h8
 obtain ⟨t80,et80,h10⟩:=bind_elim h9
 refine FNode.no (W:=[]) (.iptr (api.Array.enc t80)) ?_ rfl ?_
 refine Side.mk ch9 ?_
 refine At.by et80 ?_
 rfl
 refine FNode.no (W:=[]) (api.Array.enc t80) ?_ rfl ?_
 rfl
 obtain ⟨⟨t82_0,t82_1⟩,et82,h11⟩:=bind_elim h10
 refine FNode.no (W:=[]) (.tup [api.Array.enc t82_0,J t82_1]) ?_ rfl ?_
 refine Z' (Arr.matmul_ok et82) ?_
 rfl
 refine FNode.no (W:=[]) (api.Array.enc t82_0) ?_ rfl ?_
 rfl
 refine FNode.no (W:=[]) (J t82_1) ?_ rfl ?_
 rfl
 refine FNode.pl (F:=[0]) (W:=[0]) (.undef) [.box [J t82_0.Kind,VI' t82_0.Shape,VI' t82_0.Elems],.box [J t11.Kind,VI' t11.Shape,VI' t11.Elems]] ?_ rfl rfl rfl rfl ?_
 refine V' ?_
 rfl
 refine FNode.no (W:=[]) (J t82_1) ?_ rfl ?_
 rfl
 exact R' (E:=E8') h11
 obtain ⟨t27,et27,h7⟩:=letk_elim h6
 refine Nm.mk ⟨t27,by rw [et27,List.length_map],?_⟩
 refine C' h7 (fun h9=>?_) fun h9=>?_
 refine L' [0,1] [4,6] ?_
 refine DrawB.ofFN 2 [.box [J 0,.nils,.nils],.box [J t11.Kind,VI' t11.Shape,VI' t11.Elems],.arr 1 [],.arr 1 []] 2 4 [[1],[1],[1],[1],[],[],[1],[1],[],[],[2],[2],[3],[2,3]] [[],[],[],[],[],[],[],[],[],[],[2],[],[3],[3]] [none,none,none,none,none,none,none,none,none,none,some 2,none,some 3,none] Tryz_mixed (by kernel_rfl) rfl rfl rfl (by kernel_rfl) ?_
 refine FNode.rd (F:=[1]) (W:=[]) (.ptr 1 0) ?_ rfl rfl ?_
 rfl
 refine FNode.rd (F:=[1]) (W:=[]) (J t11.Kind) ?_ rfl rfl ?_
 rfl
 refine FNode.rd (F:=[1]) (W:=[]) (.ptr 1 1) ?_ rfl rfl ?_
 rfl
 refine FNode.rd (F:=[1]) (W:=[]) (VI' t11.Shape) ?_ rfl rfl ?_
 rfl
 obtain ⟨ch10,h10⟩:=chk_elim h9
 obtain ⟨t34,et34,h11⟩:=bind_elim h10
 refine FNode.no (W:=[]) (.iptr (J t34)) ?_ rfl ?_
 refine Side.mk ch10 ?_
 refine At.by et34 ?_
 rfl
 refine FNode.no (W:=[]) (J t34) ?_ rfl ?_
 rfl
 refine FNode.rd (F:=[1]) (W:=[]) (.ptr 1 1) ?_ rfl rfl ?_
 rfl
 refine FNode.rd (F:=[1]) (W:=[]) (VI' t11.Shape) ?_ rfl rfl ?_
 rfl
 obtain ⟨ch12,h12⟩:=chk_elim h11
 obtain ⟨t38,et38,h13⟩:=bind_elim h12
 refine FNode.no (W:=[]) (.iptr (J t38)) ?_ rfl ?_
 refine Side.mk ch12 ?_
 refine At.by et38 ?_
 rfl
 refine FNode.no (W:=[]) (J t38) ?_ rfl ?_
 rfl
 refine FNode.nw (F:=[2]) (W:=[2]) (.ref 4 0 ((([t34,t38]).map (eI .i64)).length)) (.ref 2 0 ((([t34,t38]).map (eI .i64)).length)) [.box [J 0,.nils,.nils],.box [J t11.Kind,VI' t11.Shape,VI' t11.Elems],.arr 1 (([t34,t38]).map (eI .i64)),.arr 1 []] [.dead,.dead,.arr 1 [],.dead] (.arr 1 (([t34,t38]).map (eI .i64))) ?_ rfl rfl rfl rfl ⟨_,rfl⟩ (.inr ⟨0,(([t34,t38]).map (eI .i64)).length,rfl,rfl⟩) rfl rfl ?_
 refine Nm.mk ⟨([t34,t38]).map (eI .i64),rfl,?_⟩
 rfl
 refine FNode.rd (F:=[2]) (W:=[]) (.agg [J t11.Kind,.ref 2 0 ((([t34,t38]).map (eI .i64)).length),.nils]) ?_ rfl rfl ?_
 refine V' ?_
 rfl
 refine FNode.nw (F:=[3]) (W:=[3]) (.ptr 4 0) (.ptr 3 0) [.box [J 0,.nils,.nils],.box [J t11.Kind,VI' t11.Shape,VI' t11.Elems],.arr 1 (([t34,t38]).map (eI .i64)),.box [J 0,.nils,.nils]] [.dead,.dead,.dead,.arr 1 []] (.box [J 0,.nils,.nils]) ?_ rfl rfl rfl rfl ⟨_,rfl⟩ (.inl ⟨0,rfl,rfl⟩) rfl rfl ?_
 refine V' ?_
 rfl
 refine FNode.pl (F:=[2,3]) (W:=[3]) (.undef) [.box [J 0,.nils,.nils],.box [J t11.Kind,VI' t11.Shape,VI' t11.Elems],.arr 1 (([t34,t38]).map (eI .i64)),.box [J t11.Kind,.ref 2 0 ((([t34,t38]).map (eI .i64)).length),.nils]] ?_ rfl rfl rfl rfl ?_
 refine V' ?_
 rfl
 obtain ⟨ch14,h14⟩:=chk_elim h13
 obtain ⟨t44,et44,h15⟩:=bind_elim h14
 refine Side.mk ch14 ?_
 refine At.by et44 ?_
 unfold Arr.reshapes.l0 at h15
 refine LoopB.of (σ:=Int × (List Int) × (List Int) × Int × (List Int) × (List Int) × Int × (List Int) × (List Int) × Int) (ρ:=api.Array × Int) (fun v:Int × (List Int) × (List Int) × Int × (List Int) × (List Int) × Int × (List Int) × (List Int) × Int=>Arr.reshapes.s0 t44 v.1 v.2.1 v.2.2.1 v.2.2.2.1 v.2.2.2.2.1 v.2.2.2.2.2.1 v.2.2.2.2.2.2.1 v.2.2.2.2.2.2.2.1 v.2.2.2.2.2.2.2.2.1 v.2.2.2.2.2.2.2.2.2) (fun v=>(⟨110,[(4,.ptr 0 0),(6,.ptr 1 0),(7,.ptr 2 0),(45,J t44),(46,J v.2.2.2.2.2.2.2.2.2)],[.box [J v.1,VI' v.2.1,VI' v.2.2.1],.box [J v.2.2.2.1,VI' v.2.2.2.2.1,VI' v.2.2.2.2.2.1],.box [J v.2.2.2.2.2.2.1,VI' v.2.2.2.2.2.2.2.1,.ref 3 0 ((v.2.2.2.2.2.2.2.2.1.map (eI .i64)).length)],.arr 1 (v.2.2.2.2.2.2.2.2.1.map (eI .i64))]⟩:St)) (0,[],[],t11.Kind,t11.Shape,t11.Elems,t11.Kind,[t34,t38],[],0) h15 (BackS.by rfl (Sees.of (Weak.objs (keep:=[0,1,3]) (frz:=[2]) (m:=1) rfl (by decide) rfl rfl ⟨⟨_,rfl,WO.boxs ⟨.s,(.nilsVs _),(.nilsVs _),trivial⟩⟩,⟨⟨_,rfl,WO.boxs ⟨.s,.s,.s,trivial⟩⟩,⟨⟨_,rfl,WO.boxs ⟨.s,(WV.all (k:=2) (by decide) rfl),(.nilsRef 3 (by decide) (by decide)),trivial⟩⟩,⟨rfl,fun _ ho=>by simp only [List.mem_cons,List.not_mem_nil,or_false] at ho; exact ⟨_,ho⟩⟩⟩⟩⟩ ⟨(.ptr _ _ 0 rfl),(.ptr _ _ 1 rfl),(.ptr _ _ 2 rfl),.s,.s,trivial⟩))) ?_
 rintro _ ⟨t4_0,t4_1,t4_2,x6_0,x6_1,x6_2,out7_0,out7_1,out7_2,t46⟩ x1 hs0_0 hl1 hr1
 replace hs0_0:Arr.reshapes.s0 t44 t4_0 t4_1 t4_2 x6_0 x6_1 x6_2 out7_0 out7_1 out7_2 t46 = some x1:=hs0_0
 unfold Arr.reshapes.s0 at hs0_0
 refine C' hs0_0 (fun hs0_2=>?_) fun hs0_2=>?_
 have ehs0_2u_0:=hr1 _ (Option.some.inj hs0_2).symm
 have hs0_2u:=congrArg some ehs0_2u_0
 refine V' ?_
 have ehs0_2u_0:=Option.some.inj hs0_2u
 subst ehs0_2u_0
 exact Returns.frozen (r:=.tup [api.Array.enc ((⟨out7_0,out7_1,out7_2⟩:api.Array)),J 0]) [3] rfl rfl (WV.tups ⟨(WV.aggs ⟨.s,.s,(WV.all (k:=3) (by decide) rfl),trivial⟩),.s,trivial⟩) ⟨rfl,rfl⟩
 obtain ⟨chs0_3,hs0_3⟩:=chk_elim hs0_2
 obtain ⟨t51,et51,hs0_4⟩:=bind_elim hs0_3
 refine Side.mk chs0_3 ?_
 refine At.by et51 ?_
 unfold Arr.reshapes.l1 at hs0_4
 refine LoopB.of (σ:=Int × (List Int) × (List Int) × Int × (List Int) × (List Int) × Int × (List Int) × (List Int) × Int) (ρ:=(Int × (List Int) × (List Int) × Int × (List Int) × (List Int) × Int × (List Int) × (List Int) × Int) ⊕ (api.Array × Int)) (fun v:Int × (List Int) × (List Int) × Int × (List Int) × (List Int) × Int × (List Int) × (List Int) × Int=>Arr.reshapes.s1 t44 t46 t51 v.1 v.2.1 v.2.2.1 v.2.2.2.1 v.2.2.2.2.1 v.2.2.2.2.2.1 v.2.2.2.2.2.2.1 v.2.2.2.2.2.2.2.1 v.2.2.2.2.2.2.2.2.1 v.2.2.2.2.2.2.2.2.2) (fun v=>(⟨110,[(4,.ptr 0 0),(6,.ptr 1 0),(7,.ptr 2 0),(8,J t46),(45,J t44),(46,J t46),(52,J t51),(53,J v.2.2.2.2.2.2.2.2.2)],[.box [J v.1,VI' v.2.1,VI' v.2.2.1],.box [J v.2.2.2.1,VI' v.2.2.2.2.1,VI' v.2.2.2.2.2.1],.box [J v.2.2.2.2.2.2.1,VI' v.2.2.2.2.2.2.2.1,.ref 3 0 ((v.2.2.2.2.2.2.2.2.1.map (eI .i64)).length)],.arr 1 (v.2.2.2.2.2.2.2.2.1.map (eI .i64))]⟩:St)) (t4_0,t4_1,t4_2,x6_0,x6_1,x6_2,out7_0,out7_1,out7_2,0) hs0_4 (B' [0,1,2,3] rfl) ?_
 rintro _ ⟨t4_0_1,t4_1_1,t4_2_1,x6_0_1,x6_1_1,x6_2_1,out7_0_1,out7_1_1,out7_2_1,t53⟩ x2 hs1_0 hl2 hr2
 replace hs1_0:Arr.reshapes.s1 t44 t46 t51 t4_0_1 t4_1_1 t4_2_1 x6_0_1 x6_1_1 x6_2_1 out7_0_1 out7_1_1 out7_2_1 t53 = some x2:=hs1_0
 unfold Arr.reshapes.s1 at hs1_0
 refine C' hs1_0 (fun hs1_2=>?_) fun hs1_2=>?_
 obtain ⟨_,hs1_2u,ehs1_2_0⟩:=map_elim hs1_2
 have ehs1_2_0:=(hr2 _ ehs1_2_0.symm).symm
 subst ehs1_2_0
 refine N' hs1_2u fun _ hs1_2u0=>?_
 exact B' [0,1,2,3] ⟨_,hl1 _ (Option.some.inj hs1_2u0).symm,rfl⟩
 refine L' [0,1,2,3] [4,6,7,8,9,45,46,52,53] ?_
 refine DrawB.ofFN 2 [.box [J t4_0_1,VI' t4_1_1,VI' t4_2_1],.box [J x6_0_1,VI' x6_1_1,VI' x6_2_1],.box [J out7_0_1,VI' out7_1_1,.ref 3 0 ((out7_2_1.map (eI .i64)).length)],.arr 1 (out7_2_1.map (eI .i64)),.arr 1 [],.arr 1 []] 4 6 [[2,3],[2,3],[1],[1],[],[],[1],[1],[],[],[],[],[],[],[4],[3,4,5],[2,3],[2,3,5]] [[],[],[],[],[],[],[],[],[],[],[],[],[],[],[4],[3,5],[],[2]] [none,none,none,none,none,none,none,none,none,none,none,none,none,none,some 4,some 5,none,none] Tryz_mixed (by kernel_rfl) rfl rfl rfl (by kernel_rfl) ?_
 refine FNode.rd (F:=[2,3]) (W:=[]) (.ptr 2 2) ?_ rfl rfl ?_
 rfl
 refine FNode.rd (F:=[2,3]) (W:=[]) (.ref 3 0 ((out7_2_1.map (eI .i64)).length)) ?_ rfl rfl ?_
 rfl
 refine FNode.rd (F:=[1]) (W:=[]) (.ptr 1 2) ?_ rfl rfl ?_
 rfl
 refine FNode.rd (F:=[1]) (W:=[]) (VI' x6_2_1) ?_ rfl rfl ?_
 rfl
 refine FNode.no (W:=[]) (J t46) ?_ rfl ?_
 rfl
 refine FNode.no (W:=[]) (J t53) ?_ rfl ?_
 rfl
 refine FNode.rd (F:=[1]) (W:=[]) (.ptr 1 1) ?_ rfl rfl ?_
 rfl
 refine FNode.rd (F:=[1]) (W:=[]) (VI' x6_1_1) ?_ rfl rfl ?_
 rfl
 obtain ⟨chs1_3,hs1_3⟩:=chk_elim hs1_2
 obtain ⟨t64,et64,hs1_4⟩:=bind_elim hs1_3
 refine FNode.no (W:=[]) (.iptr (J t64)) ?_ rfl ?_
 refine Side.mk chs1_3 ?_
 refine At.by et64 ?_
 rfl
 refine FNode.no (W:=[]) (J t64) ?_ rfl ?_
 rfl
 obtain ⟨t66,et66,hs1_5⟩:=letk_elim hs1_4
 refine FNode.no (W:=[]) (J t66) ?_ rfl ?_
 refine Nm.mk ⟨t66,et66,?_⟩
 rfl
 obtain ⟨t67,et67,hs1_6⟩:=letk_elim hs1_5
 refine FNode.no (W:=[]) (J t67) ?_ rfl ?_
 refine Nm.mk ⟨t67,et67,?_⟩
 rfl
 obtain ⟨chs1_7,hs1_7⟩:=chk_elim hs1_6
 obtain ⟨t68,et68,hs1_8⟩:=bind_elim hs1_7
 refine FNode.no (W:=[]) (.iptr (J t68)) ?_ rfl ?_
 refine Side.mk chs1_7 ?_
 refine At.by et68 ?_
 rfl
 refine FNode.no (W:=[]) (J t68) ?_ rfl ?_
 rfl
 refine FNode.nw (F:=[4]) (W:=[4]) (.ref 6 0 ((([t68]).map (eI .i64)).length)) (.ref 4 0 ((([t68]).map (eI .i64)).length)) [.box [J t4_0_1,VI' t4_1_1,VI' t4_2_1],.box [J x6_0_1,VI' x6_1_1,VI' x6_2_1],.box [J out7_0_1,VI' out7_1_1,.ref 3 0 ((out7_2_1.map (eI .i64)).length)],.arr 1 (out7_2_1.map (eI .i64)),.arr 1 (([t68]).map (eI .i64)),.arr 1 []] [.dead,.dead,.dead,.dead,.arr 1 [],.dead] (.arr 1 (([t68]).map (eI .i64))) ?_ rfl rfl rfl rfl ⟨_,rfl⟩ (.inr ⟨0,(([t68]).map (eI .i64)).length,rfl,rfl⟩) rfl rfl ?_
 refine Nm.mk ⟨([t68]).map (eI .i64),rfl,?_⟩
 rfl
 obtain ⟨chs1_9,hs1_9⟩:=chk_elim hs1_8
 obtain ⟨t71,et71,hs1_10⟩:=letk_elim hs1_9
 refine FNode.nw (F:=[3,4,5]) (W:=[3,5]) (.ref 6 0 ((t71.map (eI .i64)).length)) (.ref 5 0 ((t71.map (eI .i64)).length)) [.box [J t4_0_1,VI' t4_1_1,VI' t4_2_1],.box [J x6_0_1,VI' x6_1_1,VI' x6_2_1],.box [J out7_0_1,VI' out7_1_1,.ref 3 0 ((out7_2_1.map (eI .i64)).length)],.dead,.arr 1 (([t68]).map (eI .i64)),.arr 1 (t71.map (eI .i64))] [.dead,.dead,.dead,.dead,.arr 1 (([t68]).map (eI .i64)),.arr 1 []] (.arr 1 (t71.map (eI .i64))) ?_ rfl rfl rfl rfl ⟨_,rfl⟩ (.inr ⟨0,(t71.map (eI .i64)).length,rfl,rfl⟩) rfl rfl ?_
 refine Side.mk (full_le _) ?_
 refine Side.mk ⟨full_le _,one_map (fun _ _ hc=>by simp only [AV.cells,List.mem_singleton] at hc; subst hc; rfl)⟩ ?_
 refine Side.mk (side_rr (by decide) chs1_9) ?_
 refine Nm.mk ⟨t71.map (eI .i64),by rw [et71]; exact app_rr (m:=[t68]),?_⟩
 rfl
 refine FNode.rd (F:=[2,3]) (W:=[]) (.ptr 2 2) ?_ rfl rfl ?_
 rfl
 refine FNode.pl (F:=[2,3,5]) (W:=[2]) (.undef) [.box [J t4_0_1,VI' t4_1_1,VI' t4_2_1],.box [J x6_0_1,VI' x6_1_1,VI' x6_2_1],.box [J out7_0_1,VI' out7_1_1,.ref 5 0 ((t71.map (eI .i64)).length)],.dead,.arr 1 (([t68]).map (eI .i64)),.arr 1 (t71.map (eI .i64))] ?_ rfl rfl rfl rfl ?_
 refine V' ?_
 rfl
 refine N' hs1_10 fun _ hs1_11=>?_
 exact B' [0,1,2,5] ⟨_,hl2 _ (Option.some.inj hs1_11).symm,rfl⟩
 refine Gate.go ?_
 refine V' ?_
 refine V' ?_
 have eh9_0:=Option.some.inj h9
 subst eh9_0
 exact Returns.frozen (r:=.tup [api.Array.enc ((⟨0,[],[]⟩:api.Array)),J 71]) [] rfl rfl (WV.tups ⟨(WV.aggs ⟨.s,(.nilsVs _),(.nilsVs _),trivial⟩),.s,trivial⟩) ⟨rfl,rfl⟩
 refine DrawB.ofFN 0 [.box [J 0,.nils,.nils],.box [J t11.Kind,VI' t11.Shape,VI' t11.Elems]] 2 2 [[1],[],[],[],[],[],[],[0],[]] [[],[],[],[],[],[],[],[0],[]] [none,none,none,none,none,none,none,none,none] Tryz_mixed (by kernel_rfl) rfl rfl rfl (by kernel_rfl) ?_
 refine FNode.rd (F:=[1]) (W:=[]) (.agg [J t11.Kind,VI' t11.Shape,VI' t11.Elems]) ?_ rfl rfl ?_
 rfl
 refine FNode.no (W:=[]) (.vs 3 (args1.map (api.Array.enc))) ?_ rfl ?_
 rfl
 obtain ⟨ch5,h5⟩:=chk_elim h4
 obtain ⟨t18,et18,h6⟩:=bind_elim h5
 refine FNode.no (W:=[]) (.iptr (api.Array.enc t18)) ?_ rfl ?_
 refine Side.mk ch5 ?_
 refine At.by et18 ?_
 rfl
 refine FNode.no (W:=[]) (api.Array.enc t18) ?_ rfl ?_
 rfl
 obtain ⟨⟨t20_0,t20_1⟩,et20,h7⟩:=bind_elim h6
 refine FNode.no (W:=[]) (.tup [api.Array.enc t20_0,J t20_1]) ?_ rfl ?_
 refine Z' (Arr.reshape_ok et20) ?_
 rfl
 refine FNode.no (W:=[]) (api.Array.enc t20_0) ?_ rfl ?_
 rfl
 refine FNode.no (W:=[]) (J t20_1) ?_ rfl ?_
 rfl
 refine FNode.pl (F:=[0]) (W:=[0]) (.undef) [.box [J t20_0.Kind,VI' t20_0.Shape,VI' t20_0.Elems],.box [J t11.Kind,VI' t11.Shape,VI' t11.Elems]] ?_ rfl rfl rfl rfl ?_
 refine V' ?_
 rfl
 refine FNode.no (W:=[]) (J t20_1) ?_ rfl ?_
 rfl
 exact R' (E:=E8') h7
noncomputable def Arr.Call.j3 (name0:ByteArray) (args1:List api.Array) (t4_0:Int) (t4_1 t4_2:List Int) (t65:Bool):Option (api.Array × Int) :=
 bif t65 then
 chk (0 ≤ (0:Int)) <|
 Option.bind (args1[(0:Int).toNat]?) fun _ =>
 none
 else
 Option.bind (Arr.reshapes name0 args1) fun (t77_0,t77_1) =>
 some ((⟨t77_0.Kind,t77_0.Shape,t77_0.Elems⟩:api.Array),t77_1)
noncomputable def Arr.Call.j2 (name0:ByteArray) (args1:List api.Array) (t4_0:Int) (t4_1 t4_2:List Int) (t48:Bool):Option (api.Array × Int) :=
 bif t48 then
 chk (0 ≤ (0:Int)) <|
 Option.bind (args1[(0:Int).toNat]?) fun t60 =>
 Option.bind (Arr.reduce name0 t60) fun (t62_0,t62_1) =>
 some ((⟨t62_0.Kind,t62_0.Shape,t62_0.Elems⟩:api.Array),t62_1)
 else
 letk (name0.toList == (⟨#[109,97,120,108,111,99]⟩:ByteArray).toList) fun t66 =>
 bif t66 then
 Arr.Call.j3 name0 args1 t4_0 t4_1 t4_2 true
 else
 letk (name0.toList == (⟨#[109,105,110,108,111,99]⟩:ByteArray).toList) fun t67 =>
 Arr.Call.j3 name0 args1 t4_0 t4_1 t4_2 t67
noncomputable def Arr.Call.j1 (name0:ByteArray) (args1:List api.Array) (t4_0:Int) (t4_1 t4_2:List Int) (t33:Bool):Option (api.Array × Int) :=
 bif t33 then
 none
 else
 letk (name0.toList == (⟨#[115,117,109]⟩:ByteArray).toList) fun t49 =>
 bif t49 then
 Arr.Call.j2 name0 args1 t4_0 t4_1 t4_2 true
 else
 letk (name0.toList == (⟨#[112,114,111,100,117,99,116]⟩:ByteArray).toList) fun t50 =>
 bif t50 then
 Arr.Call.j2 name0 args1 t4_0 t4_1 t4_2 true
 else
 letk (name0.toList == (⟨#[109,97,120,118,97,108]⟩:ByteArray).toList) fun t51 =>
 bif t51 then
 Arr.Call.j2 name0 args1 t4_0 t4_1 t4_2 true
 else
 letk (name0.toList == (⟨#[109,105,110,118,97,108]⟩:ByteArray).toList) fun t52 =>
 bif t52 then
 Arr.Call.j2 name0 args1 t4_0 t4_1 t4_2 true
 else
 letk (name0.toList == (⟨#[97,108,108]⟩:ByteArray).toList) fun t53 =>
 bif t53 then
 Arr.Call.j2 name0 args1 t4_0 t4_1 t4_2 true
 else
 letk (name0.toList == (⟨#[97,110,121]⟩:ByteArray).toList) fun t54 =>
 bif t54 then
 Arr.Call.j2 name0 args1 t4_0 t4_1 t4_2 true
 else
 letk (name0.toList == (⟨#[99,111,117,110,116]⟩:ByteArray).toList) fun t55 =>
 bif t55 then
 Arr.Call.j2 name0 args1 t4_0 t4_1 t4_2 true
 else
 letk (name0.toList == (⟨#[115,105,122,101]⟩:ByteArray).toList) fun t56 =>
 bif t56 then
 Arr.Call.j2 name0 args1 t4_0 t4_1 t4_2 true
 else
 letk (name0.toList == (⟨#[115,104,97,112,101]⟩:ByteArray).toList) fun t57 =>
 Arr.Call.j2 name0 args1 t4_0 t4_1 t4_2 t57
noncomputable def Arr.Call.j0 (name0:ByteArray) (args1:List api.Array) (t4_0:Int) (t4_1 t4_2:List Int):Option (api.Array × Int) :=
 letk (name0.toList == (⟨#[97,98,115]⟩:ByteArray).toList) fun t34 =>
 bif t34 then
 Arr.Call.j1 name0 args1 t4_0 t4_1 t4_2 true
 else
 letk (name0.toList == (⟨#[105,110,116]⟩:ByteArray).toList) fun t35 =>
 bif t35 then
 Arr.Call.j1 name0 args1 t4_0 t4_1 t4_2 true
 else
 letk (name0.toList == (⟨#[114,101,97,108]⟩:ByteArray).toList) fun t36 =>
 bif t36 then
 Arr.Call.j1 name0 args1 t4_0 t4_1 t4_2 true
 else
 letk (name0.toList == (⟨#[100,98,108,101]⟩:ByteArray).toList) fun t37 =>
 bif t37 then
 Arr.Call.j1 name0 args1 t4_0 t4_1 t4_2 true
 else
 letk (name0.toList == (⟨#[109,111,100]⟩:ByteArray).toList) fun t38 =>
 bif t38 then
 Arr.Call.j1 name0 args1 t4_0 t4_1 t4_2 true
 else
 letk (name0.toList == (⟨#[109,105,110]⟩:ByteArray).toList) fun t39 =>
 bif t39 then
 Arr.Call.j1 name0 args1 t4_0 t4_1 t4_2 true
 else
 letk (name0.toList == (⟨#[109,97,120]⟩:ByteArray).toList) fun t40 =>
 bif t40 then
 Arr.Call.j1 name0 args1 t4_0 t4_1 t4_2 true
 else
 letk (name0.toList == (⟨#[109,101,114,103,101]⟩:ByteArray).toList) fun t41 =>
 bif t41 then
 Arr.Call.j1 name0 args1 t4_0 t4_1 t4_2 true
 else
 letk (name0.toList == (⟨#[115,113,114,116]⟩:ByteArray).toList) fun t42 =>
 Arr.Call.j1 name0 args1 t4_0 t4_1 t4_2 t42
noncomputable def Arr.Call.j4 (name0:ByteArray) (args1:List api.Array) (t4_0_1:Int) (t4_1_1 t4_2_1:List Int) (t30:Bool):Option (api.Array × Int) :=
 bif t30 then
 some ((⟨0,[],[]⟩:api.Array),2)
 else
 Arr.Call.j0 name0 args1 t4_0_1 t4_1_1 t4_2_1
noncomputable def Arr.Call (name0:ByteArray) (args1:List api.Array):Option (api.Array × Int) :=
 Option.bind (Arr.Arity name0) fun (t10_0,t10_1) =>
 letk (t10_1 == (0:Int)) fun t14 =>
 bif t14 then
 Arr.Call.j4 name0 args1 0 ([]) ([]) true
 else
 letk ((args1.length:Int)) fun t17 =>
 letk (decide (t17 < t10_0)) fun t19 =>
 bif t19 then
 Arr.Call.j4 name0 args1 0 ([]) ([]) true
 else
 letk ((args1.length:Int)) fun t23 =>
 letk (decide (t23 > t10_1)) fun t25 =>
 bif t25 then
 Arr.Call.j4 name0 args1 0 ([]) ([]) true
 else
 Option.bind (Slcs.ContainsFunc___quadrat_api.Array_quadrat_api.Array_ args1 Arr.Call_1) fun t29 =>
 Arr.Call.j4 name0 args1 0 ([]) ([]) t29
theorem Arr.Call_ok {name0:ByteArray} {args1:List api.Array} {r:api.Array × Int} (h0:Arr.Call name0 args1 = some r):Gives Tryz.prog 13 [.lit (.string name0),.vs 3 (args1.map (api.Array.enc))] (.tup [api.Array.enc r.1,J r.2]):=by
 unfold Arr.Call at h0
 refine W' [(0,4),(43,29),(58,49),(75,55),(40,7)] Tryz.func13 ?_
 refine V' ?_
 obtain ⟨⟨_,_⟩,et10,h1⟩:=bind_elim h0
 refine Gate.go ?_
 refine Z' (Arr.Arity_ok et10) ?_
 refine CutN.of (fun s=>∃ t4_0 t4_1 t4_2,Arr.Call.j0 name0 args1 t4_0 t4_1 t4_2 = some r ∧ s = ⟨80,[(0,.lit (.string name0)),(1,.vs 3 (args1.map (api.Array.enc))),(4,.ptr 0 0)],[.box [J t4_0,VI' t4_1,VI' t4_2]]⟩) ?_ ?_
 refine CutN.of (fun s=>∃ t4_0_1 t4_1_1 t4_2_1 t30,Arr.Call.j4 name0 args1 t4_0_1 t4_1_1 t4_2_1 t30 = some r ∧ s = ⟨80,[(0,.lit (.string name0)),(1,.vs 3 (args1.map (api.Array.enc))),(4,.ptr 0 0),(30,.lit (.bool t30))],[.box [J t4_0_1,VI' t4_1_1,VI' t4_2_1]]⟩) ?_ ?_
 refine C' h1 (fun h3=>?_) fun h3=>?_
 obtain ⟨t17,et17,h4⟩:=letk_elim h3
 refine Nm.mk ⟨t17,by rw [et17,List.length_map],?_⟩
 refine C' h4 (fun h6=>?_) fun h6=>?_
 obtain ⟨t23,et23,h7⟩:=letk_elim h6
 refine Nm.mk ⟨t23,by rw [et23,List.length_map],?_⟩
 refine C' h7 (fun h9=>?_) fun h9=>?_
 obtain ⟨t29,et29,h10⟩:=bind_elim h9
 refine Gate.go ?_
 refine CallN.by (v:=.lit (.bool t29)) (Slcs.ContainsFunc___quadrat_api.Array_quadrat_api.Array__ok (show List.all [] pureQ.pureQ0 = true from rfl) (fun _ r h=>Arr.Call_1_ok h) et29) rfl rfl ?_
 exact B' [0] ⟨_,_,_,_,h10,rfl⟩
 exact B' [0] ⟨_,_,_,_,h9,rfl⟩
 exact B' [0] ⟨_,_,_,_,h6,rfl⟩
 exact B' [0] ⟨_,_,_,_,h3,rfl⟩
 rintro s ⟨_,_,_,t30,hj0,rfl⟩
 unfold Arr.Call.j4 at hj0
 rcases t30 with _ | _
 have hj1:=bif_f hj0
 exact B' [0] ⟨_,_,_,hj1,rfl⟩
 have hj1:=bif_t hj0
 refine Gate.go ?_
 refine V' ?_
 refine V' ?_
 have ehj1_0:=Option.some.inj hj1
 subst ehj1_0
 exact Returns.frozen (r:=.tup [api.Array.enc ((⟨0,[],[]⟩:api.Array)),J 2]) [] rfl rfl (WV.tups ⟨(WV.aggs ⟨.s,(.nilsVs _),(.nilsVs _),trivial⟩),.s,trivial⟩) ⟨rfl,rfl⟩
 rintro s ⟨t4_0,t4_1,t4_2,hj0,rfl⟩
 unfold Arr.Call.j0 at hj0
 refine CutN.of (fun s=>∃ t33,Arr.Call.j1 name0 args1 t4_0 t4_1 t4_2 t33 = some r ∧ s = ⟨80,[(0,.lit (.string name0)),(1,.vs 3 (args1.map (api.Array.enc))),(4,.ptr 0 0),(32,.lit (.string name0)),(33,.lit (.bool t33))],[.box [J t4_0,VI' t4_1,VI' t4_2]]⟩) ?_ ?_
 refine C' hj0 (fun hj2=>?_) fun hj2=>?_
 refine C' hj2 (fun hj4=>?_) fun hj4=>?_
 refine C' hj4 (fun hj6=>?_) fun hj6=>?_
 refine C' hj6 (fun hj8=>?_) fun hj8=>?_
 refine C' hj8 (fun hj10=>?_) fun hj10=>?_
 refine C' hj10 (fun hj12=>?_) fun hj12=>?_
 refine C' hj12 (fun hj14=>?_) fun hj14=>?_
 refine C' hj14 (fun hj16=>?_) fun hj16=>?_
 refine N' hj16 fun _ hj17=>?_
 exact B' [0] ⟨_,hj17,rfl⟩
 exact B' [0] ⟨_,hj16,rfl⟩
 exact B' [0] ⟨_,hj14,rfl⟩
 exact B' [0] ⟨_,hj12,rfl⟩
 exact B' [0] ⟨_,hj10,rfl⟩
 exact B' [0] ⟨_,hj8,rfl⟩
 exact B' [0] ⟨_,hj6,rfl⟩
 exact B' [0] ⟨_,hj4,rfl⟩
 exact B' [0] ⟨_,hj2,rfl⟩
 rintro s ⟨t33,hj0,rfl⟩
 unfold Arr.Call.j1 at hj0
 rcases t33 with _ | _
 have hj1:=bif_f hj0
 refine CutN.of (fun s=>∃ t48,Arr.Call.j2 name0 args1 t4_0 t4_1 t4_2 t48 = some r ∧ s = ⟨80,[(0,.lit (.string name0)),(1,.vs 3 (args1.map (api.Array.enc))),(4,.ptr 0 0),(32,.lit (.string name0)),(48,.lit (.bool t48))],[.box [J t4_0,VI' t4_1,VI' t4_2]]⟩) ?_ ?_
 refine C' hj1 (fun hj3=>?_) fun hj3=>?_
 refine C' hj3 (fun hj5=>?_) fun hj5=>?_
 refine C' hj5 (fun hj7=>?_) fun hj7=>?_
 refine C' hj7 (fun hj9=>?_) fun hj9=>?_
 refine C' hj9 (fun hj11=>?_) fun hj11=>?_
 refine C' hj11 (fun hj13=>?_) fun hj13=>?_
 refine C' hj13 (fun hj15=>?_) fun hj15=>?_
 refine C' hj15 (fun hj17=>?_) fun hj17=>?_
 refine N' hj17 fun _ hj18=>?_
 exact B' [0] ⟨_,hj18,rfl⟩
 exact B' [0] ⟨_,hj17,rfl⟩
 exact B' [0] ⟨_,hj15,rfl⟩
 exact B' [0] ⟨_,hj13,rfl⟩
 exact B' [0] ⟨_,hj11,rfl⟩
 exact B' [0] ⟨_,hj9,rfl⟩
 exact B' [0] ⟨_,hj7,rfl⟩
 exact B' [0] ⟨_,hj5,rfl⟩
 exact B' [0] ⟨_,hj3,rfl⟩
 rintro s ⟨t48,hj0,rfl⟩
 unfold Arr.Call.j2 at hj0
 rcases t48 with _ | _
 have hj1:=bif_f hj0
 refine CutN.of (fun s=>∃ t65,Arr.Call.j3 name0 args1 t4_0 t4_1 t4_2 t65 = some r ∧ s = ⟨80,[(0,.lit (.string name0)),(1,.vs 3 (args1.map (api.Array.enc))),(4,.ptr 0 0),(65,.lit (.bool t65))],[.box [J t4_0,VI' t4_1,VI' t4_2]]⟩) ?_ ?_
 refine C' hj1 (fun hj3=>?_) fun hj3=>?_
 refine N' hj3 fun _ hj4=>?_
 exact B' [0] ⟨_,hj4,rfl⟩
 exact B' [0] ⟨_,hj3,rfl⟩
 rintro s ⟨t65,hj0,rfl⟩
 unfold Arr.Call.j3 at hj0
 rcases t65 with _ | _
 have hj1:=bif_f hj0
 obtain ⟨⟨_,_⟩,et77,hj2⟩:=bind_elim hj1
 refine Gate.go ?_
 refine Z' (Arr.reshapes_ok et77) ?_
 refine V' ?_
 exact R' (E:=E8') hj2
 have hj1:=bif_t hj0
 obtain ⟨chj2,hj2⟩:=chk_elim hj1
 obtain ⟨_,et70,hj3⟩:=bind_elim hj2
 refine Side.mk chj2 ?_
 refine At.by et70 ?_
 cases hj3
 have hj1:=bif_t hj0
 obtain ⟨chj2,hj2⟩:=chk_elim hj1
 obtain ⟨_,et60,hj3⟩:=bind_elim hj2
 refine Side.mk chj2 ?_
 refine At.by et60 ?_
 obtain ⟨⟨_,_⟩,et62,hj4⟩:=bind_elim hj3
 refine Gate.go ?_
 refine Z' (Arr.reduce_ok et62) ?_
 refine V' ?_
 exact R' (E:=E8') hj4
 have hj1:=bif_t hj0
 cases hj1
noncomputable def Law7.Awake :Option Bool :=
 Option.bind (Arr.Call ⟨#[109,97,116,109,117,108]⟩ ([(⟨1,[2,2],[1,2,3,4]⟩:api.Array),(⟨1,[2],[5,6]⟩:api.Array)])) fun (t15_0,t15_1) =>
 letk (t15_1 == (0:Int)) fun t19 =>
 bif t19 then
 letk ((t15_0.Elems.length:Int)) fun t23 =>
 letk (t23 == (2:Int)) fun t24 =>
 bif t24 then
 chk (0 ≤ (0:Int)) <|
 Option.bind (t15_0.Elems[(0:Int).toNat]?) fun t29 =>
 letk (t29 == (23:Int)) fun t31 =>
 bif t31 then
 chk (0 ≤ (1:Int)) <|
 Option.bind (t15_0.Elems[(1:Int).toNat]?) fun t36 =>
 letk (t36 == (34:Int)) fun t38 =>
 some t38
 else
 some false
 else
 some false
 else
 some false
theorem Law7.Awake_ok {r:Bool} (h0:Law7.Awake = some r):Gives Tryz.prog 12 [] (.lit (.bool r)):=by
 unfold Law7.Awake at h0
 refine W' [] Tryz.func12 ?_
 refine Gate.go ?_
 refine Nm.mk ⟨([2,2]).map (eI .i64),rfl,?_⟩
 refine Gate.go ?_
 refine Nm.mk ⟨([1,2,3,4]).map (eI .i64),rfl,?_⟩
 refine Gate.weak (Sees.of (Weak.objs (k:=40) (keep:=[]) (frz:=[0,1]) (m:=0) (ts:=[(5,.vs 1 (([2,2]).map (eI .i64))),(6,.vs 1 (([1,2,3,4]).map (eI .i64)))]) (hs:=[]) rfl (by decide) rfl rfl ⟨rfl,fun _ h=>by cases h⟩ ⟨(WV.all (k:=0) (by decide) rfl),(WV.all (k:=1) (by decide) rfl),trivial⟩)) ?_
 refine V' ?_
 refine V' ?_
 refine V' ?_
 refine Gate.go ?_
 refine Nm.mk ⟨([2]).map (eI .i64),rfl,?_⟩
 refine Gate.go ?_
 refine Nm.mk ⟨([5,6]).map (eI .i64),rfl,?_⟩
 refine Gate.weak (Sees.of (Weak.objs (k:=40) (keep:=[0]) (frz:=[1,2]) (m:=0) (ts:=[(1,.ptr 0 0),(8,.vs 1 (([2]).map (eI .i64))),(9,.vs 1 (([5,6]).map (eI .i64)))]) (hs:=[.box [J 1,.vs 1 (([2,2]).map (eI .i64)),.vs 1 (([1,2,3,4]).map (eI .i64))]]) rfl (by decide) rfl rfl ⟨⟨_,rfl,WO.refl rfl⟩,⟨rfl,fun _ h=>by cases h⟩⟩ ⟨(.ptr _ _ 0 rfl),(WV.all (k:=1) (by decide) rfl),(WV.all (k:=2) (by decide) rfl),trivial⟩)) ?_
 refine V' ?_
 refine V' ?_
 refine V' ?_
 refine Gate.go ?_
 refine Nm.mk ⟨([(⟨1,[2,2],[1,2,3,4]⟩:api.Array),(⟨1,[2],[5,6]⟩:api.Array)]).map (api.Array.enc),rfl,?_⟩
 obtain ⟨⟨_,_⟩,et15,h1⟩:=bind_elim h0
 refine Gate.weak (Sees.of (Weak.objs (k:=40) (keep:=[]) (frz:=[2]) (m:=0) (ts:=[(14,.vs 3 (([(⟨1,[2,2],[1,2,3,4]⟩:api.Array),(⟨1,[2],[5,6]⟩:api.Array)]).map (api.Array.enc)))]) (hs:=[]) rfl (by decide) rfl rfl ⟨rfl,fun _ h=>by cases h⟩ ⟨(WV.all (k:=2) (by decide) rfl),trivial⟩)) ?_
 refine Z' (Arr.Call_ok et15) ?_
 refine V' ?_
 refine V' ?_
 refine C' h1 (fun h3=>?_) fun h3=>?_
 exact R' (E:=E1') h3
 obtain ⟨t23,et23,h4⟩:=letk_elim h3
 refine Nm.mk ⟨t23,by rw [et23,List.length_map],?_⟩
 refine C' h4 (fun h6=>?_) fun h6=>?_
 exact R' (E:=E1') h6
 obtain ⟨ch7,h7⟩:=chk_elim h6
 obtain ⟨_,et29,h8⟩:=bind_elim h7
 refine Side.mk ch7 ?_
 refine At.by et29 ?_
 refine C' h8 (fun h10=>?_) fun h10=>?_
 exact R' (E:=E1') h10
 obtain ⟨ch11,h11⟩:=chk_elim h10
 obtain ⟨_,et36,h12⟩:=bind_elim h11
 refine Side.mk ch11 ?_
 refine At.by et36 ?_
 refine N' h12 fun _ h13=>?_
 exact R' (E:=E1') h13
noncomputable def Arr.Same (a0 b1:api.Array):Option Bool :=
 letk (a0.Kind == b1.Kind) fun t9 =>
 bif t9 then
 Option.bind (Slcs.Equal___int_int_ a0.Shape b1.Shape) fun t15 =>
 bif t15 then
 Option.bind (Slcs.Equal___int_int_ a0.Elems b1.Elems) fun t22 =>
 some t22
 else
 some false
 else
 some false
theorem Arr.Same_ok {a0 b1:api.Array} {r:Bool} (h0:Arr.Same a0 b1 = some r):Gives Tryz.prog 21 [api.Array.enc a0,api.Array.enc b1] (.lit (.bool r)):=by
 unfold Arr.Same at h0
 refine W' [] Tryz.func21 ?_
 refine V' ?_
 refine V' ?_
 refine C' h0 (fun h2=>?_) fun h2=>?_
 exact R' (E:=E1') h2
 refine Gate.go (A' h2 Slcs.Equal___int_int__ok fun t15 h3=>?_)
 rcases t15 with _ | _
 have h4:=bif_f h3
 exact R' (E:=E1') h4
 have h4:=bif_t h3
 refine Gate.go (A' h4 Slcs.Equal___int_int__ok fun _ h5=>?_)
 exact R' (E:=E1') h5
noncomputable def Ref7.SameShape.s0 (a0 b1:List Int) (i5:Int):Option (Int ⊕ Bool) :=
 letk ((a0.length:Int)) fun t13 =>
 letk (decide (i5 < t13)) fun t14 =>
 bif t14 then
 chk (0 ≤ i5) <|
 Option.bind (a0[i5.toNat]?) fun t19 =>
 chk (0 ≤ i5) <|
 Option.bind (b1[i5.toNat]?) fun t23 =>
 letk (t19 != t23) fun t25 =>
 bif t25 then
 some (.inr false)
 else
 letk (IntKind.i64.wrap (i5 + (1:Int))) fun t16 =>
 some (.inl t16)
 else
 some (.inr true)
noncomputable def Ref7.SameShape.l0 (a0 b1:List Int) (i5:Int):Option Bool:=loopO (fun v:Int=>Ref7.SameShape.s0 a0 b1 v) i5
noncomputable def Ref7.SameShape (a0 b1:List Int):Option Bool :=
 letk ((a0.length:Int)) fun t7 =>
 letk ((b1.length:Int)) fun t9 =>
 letk (t7 != t9) fun t10 =>
 bif t10 then
 some false
 else
 Ref7.SameShape.l0 a0 b1 0
theorem Ref7.SameShape_ok {a0 b1:List Int} {r:Bool} (h0:Ref7.SameShape a0 b1 = some r):Gives Tryz.prog 22 [VI' a0,VI' b1] (.lit (.bool r)):=by
 unfold Ref7.SameShape at h0
 refine W' [] Tryz.func22 ?_
 obtain ⟨t7,et7,h1⟩:=letk_elim h0
 refine Nm.mk ⟨t7,by rw [et7,List.length_map],?_⟩
 obtain ⟨t9,et9,h2⟩:=letk_elim h1
 refine Nm.mk ⟨t9,by rw [et9,List.length_map],?_⟩
 refine C' h2 (fun h4=>?_) fun h4=>?_
 unfold Ref7.SameShape.l0 at h4
 refine LoopB.of (σ:=Int) (ρ:=Bool) (fun v:Int=>Ref7.SameShape.s0 a0 b1 v) (fun v=>(⟨26,[(0,VI' a0),(1,VI' b1),(5,J v)],[]⟩:St)) 0 h4 (B' [] rfl) ?_
 rintro K1 i5 x1 hs0_0 hl1 hr1
 replace hs0_0:Ref7.SameShape.s0 a0 b1 i5 = some x1:=hs0_0
 unfold Ref7.SameShape.s0 at hs0_0
 obtain ⟨t13,et13,hs0_1⟩:=letk_elim hs0_0
 refine Nm.mk ⟨t13,by rw [et13,List.length_map],?_⟩
 refine C' hs0_1 (fun hs0_3=>?_) fun hs0_3=>?_
 have ehs0_3u_0:=hr1 _ (Option.some.inj hs0_3).symm
 have hs0_3u:=congrArg some ehs0_3u_0
 exact R' (E:=E1') hs0_3u
 refine DrawB.ofG [none,none,none,none,none,none,none,none,none] Tryz_mixed (by kernel_rfl) (by kernel_rfl) ?_
 refine D' rfl (D' rfl ?_)
 obtain ⟨chs0_4,hs0_4⟩:=chk_elim hs0_3
 obtain ⟨t19,et19,hs0_5⟩:=bind_elim hs0_4
 refine DNodeB.of (.iptr (J t19)) ?_ ?_
 refine Side.mk chs0_4 ?_
 refine At.by et19 ?_
 rfl
 refine D' rfl (D' rfl (D' rfl ?_))
 obtain ⟨chs0_6,hs0_6⟩:=chk_elim hs0_5
 obtain ⟨t23,et23,hs0_7⟩:=bind_elim hs0_6
 refine DNodeB.of (.iptr (J t23)) ?_ ?_
 refine Side.mk chs0_6 ?_
 refine At.by et23 ?_
 rfl
 refine D' rfl ?_
 refine DN' hs0_7 (fun e=>n' e rfl) fun t25 hs0_8=>?_
 rcases t25 with _ | _
 have hs0_9:=bif_f hs0_8
 refine N' hs0_9 fun _ hs0_10=>?_
 exact B' [] ⟨_,hl1 _ (Option.some.inj hs0_10).symm,rfl⟩
 have hs0_9:=bif_t hs0_8
 have ehs0_9_0:=hr1 _ (Option.some.inj hs0_9).symm
 subst ehs0_9_0
 exact Returns.pure (r:=.lit (.bool false)) rfl rfl rfl rfl ⟨rfl,rfl⟩
 exact R' (E:=E1') h4
noncomputable def Law7.integer (n0:Int):Option api.Array :=
 some (⟨1,[],[n0]⟩:api.Array)
theorem Law7.integer_ok {n0:Int} {r:api.Array} (h0:Law7.integer n0 = some r):Gives Tryz.prog 56 [J n0] (api.Array.enc r):=by
 unfold Law7.integer at h0
 refine W' [] Tryz.func56 ?_
 refine V' ?_
 refine Gate.go ?_
 refine Nm.mk ⟨([n0]).map (eI .i64),rfl,?_⟩
 refine Gate.weak (Sees.of (Weak.objs (k:=6) (keep:=[0]) (frz:=[1]) (m:=0) (ts:=[(2,.ptr 0 0),(4,.vs 1 (([n0]).map (eI .i64)))]) (hs:=[.box [J 0,.nils,.nils]]) rfl (by decide) rfl rfl ⟨⟨_,rfl,WO.refl rfl⟩,⟨rfl,fun _ h=>by cases h⟩⟩ ⟨(.ptr _ _ 0 rfl),(WV.all (k:=1) (by decide) rfl),trivial⟩)) ?_
 refine V' ?_
 refine V' ?_
 have eh0_0:=Option.some.inj h0
 subst eh0_0
 exact Returns.frozen (r:=api.Array.enc ((⟨1,[],[n0]⟩:api.Array))) [] rfl rfl (WV.aggs ⟨.s,(.nilsVs _),.s,trivial⟩) ⟨rfl,rfl⟩
noncomputable def Law7.turned.j2 (n1 a2_0_2:Int) (a2_1_2 a2_2_2:List Int):Option Bool :=
 Option.bind (Law7.integer n1) fun t91 =>
 Option.bind (Arr.Call ⟨#[115,112,114,101,97,100]⟩ ([(⟨a2_0_2,a2_1_2,a2_2_2⟩:api.Array),t91])) fun (t93_0,t93_1) =>
 letk (t93_1 == (0:Int)) fun t97 =>
 bif t97 then
 letk ((t93_0.Elems.length:Int)) fun t101 =>
 letk ((a2_2_2.length:Int)) fun t105 =>
 letk (IntKind.i64.wrap (n1 * t105)) fun t106 =>
 letk (t101 == t106) fun t107 =>
 some t107
 else
 some false
noncomputable def Law7.turned.j1 (n1 a2_0_1:Int) (a2_1_1 a2_2_1:List Int):Option Bool :=
 letk ((a2_1_1.length:Int)) fun t78 =>
 letk (decide (t78 > (2:Int))) fun t79 =>
 bif t79 then
 some true
 else
 letk (decide (n1 < (0:Int))) fun t82 =>
 bif t82 then
 some true
 else
 letk (decide (n1 > (9:Int))) fun t86 =>
 bif t86 then
 some true
 else
 Law7.turned.j2 n1 a2_0_1 a2_1_1 a2_2_1
noncomputable def Law7.turned.j0 (n1 a2_0:Int) (a2_1 a2_2:List Int):Option Bool :=
 letk ((a2_1.length:Int)) fun t45 =>
 letk (t45 == (1:Int)) fun t46 =>
 bif t46 then
 Option.bind (Law7.integer n1) fun t50 =>
 Option.bind (Arr.Call ⟨#[99,115,104,105,102,116]⟩ ([(⟨a2_0,a2_1,a2_2⟩:api.Array),t50])) fun (t52_0,t52_1) =>
 letk (IntKind.i64.wrap (0 - n1)) fun t58 =>
 Option.bind (Law7.integer t58) fun t59 =>
 Option.bind (Arr.Call ⟨#[99,115,104,105,102,116]⟩ ([(⟨t52_0.Kind,t52_0.Shape,t52_0.Elems⟩:api.Array),t59])) fun (t61_0,t61_1) =>
 letk (t52_1 != (0:Int)) fun t65 =>
 bif t65 then
 some false
 else
 letk (t61_1 != (0:Int)) fun t68 =>
 bif t68 then
 some false
 else
 Option.bind (Arr.Same (⟨t61_0.Kind,t61_0.Shape,t61_0.Elems⟩:api.Array) (⟨a2_0,a2_1,a2_2⟩:api.Array)) fun t73 =>
 letk (!t73) fun t74 =>
 bif t74 then
 some false
 else
 Law7.turned.j1 n1 a2_0 a2_1 a2_2
 else
 Law7.turned.j1 n1 a2_0 a2_1 a2_2
noncomputable def Law7.turned (a0:api.Array) (n1:Int):Option Bool :=
 letk ((a0.Shape.length:Int)) fun t17 =>
 letk (t17 == (2:Int)) fun t18 =>
 bif t18 then
 Option.bind (Arr.Call ⟨#[116,114,97,110,115,112,111,115,101]⟩ ([(⟨a0.Kind,a0.Shape,a0.Elems⟩:api.Array)])) fun (t22_0,t22_1) =>
 Option.bind (Arr.Call ⟨#[116,114,97,110,115,112,111,115,101]⟩ ([(⟨t22_0.Kind,t22_0.Shape,t22_0.Elems⟩:api.Array)])) fun (t28_0,t28_1) =>
 letk (t22_1 != (0:Int)) fun t32 =>
 bif t32 then
 some false
 else
 letk (t28_1 != (0:Int)) fun t35 =>
 bif t35 then
 some false
 else
 Option.bind (Arr.Same (⟨t28_0.Kind,t28_0.Shape,t28_0.Elems⟩:api.Array) (⟨a0.Kind,a0.Shape,a0.Elems⟩:api.Array)) fun t40 =>
 letk (!t40) fun t41 =>
 bif t41 then
 some false
 else
 Law7.turned.j0 n1 a0.Kind a0.Shape a0.Elems
 else
 Law7.turned.j0 n1 a0.Kind a0.Shape a0.Elems
theorem Law7.turned_ok {a0:api.Array} {n1:Int} {r:Bool} (h0:Law7.turned a0 n1 = some r):Gives Tryz.prog 23 [api.Array.enc a0,J n1] (.lit (.bool r)):=by
 unfold Law7.turned at h0
 refine W' [(0,6),(0,11),(0,13)] Tryz.func23 ?_
 refine V' ?_
 refine CutN.of (fun s=>∃ a2_0 a2_1 a2_2,Law7.turned.j0 n1 a2_0 a2_1 a2_2 = some r ∧ s = ⟨109,[(1,J n1),(2,.ptr 0 0)],[.box [J a2_0,VI' a2_1,VI' a2_2]]⟩) ?_ ?_
 obtain ⟨t17,et17,h1⟩:=letk_elim h0
 refine Nm.mk ⟨t17,by rw [et17,List.length_map],?_⟩
 refine C' h1 (fun h3=>?_) fun h3=>?_
 exact B' [0] ⟨_,_,_,h3,rfl⟩
 refine Gate.go ?_
 refine Nm.mk ⟨([(⟨a0.Kind,a0.Shape,a0.Elems⟩:api.Array)]).map (api.Array.enc),rfl,?_⟩
 obtain ⟨⟨t22_0,t22_1⟩,et22,h4⟩:=bind_elim h3
 refine Gate.weak (Sees.of (Weak.objs (k:=109) (keep:=[0]) (frz:=[1]) (m:=0) (ts:=[(1,J n1),(2,.ptr 0 0),(21,.vs 3 (([(⟨a0.Kind,a0.Shape,a0.Elems⟩:api.Array)]).map (api.Array.enc)))]) (hs:=[.box [J a0.Kind,VI' a0.Shape,VI' a0.Elems]]) rfl (by decide) rfl rfl ⟨⟨_,rfl,WO.refl rfl⟩,⟨rfl,fun _ h=>by cases h⟩⟩ ⟨.s,(.ptr _ _ 0 rfl),(WV.all (k:=1) (by decide) rfl),trivial⟩)) ?_
 refine Z' (Arr.Call_ok et22) ?_
 refine V' ?_
 refine V' ?_
 refine Gate.go ?_
 refine Nm.mk ⟨([(⟨t22_0.Kind,t22_0.Shape,t22_0.Elems⟩:api.Array)]).map (api.Array.enc),rfl,?_⟩
 obtain ⟨⟨_,_⟩,et28,h5⟩:=bind_elim h4
 refine Gate.weak (Sees.of (Weak.objs (k:=109) (keep:=[0]) (frz:=[2]) (m:=0) (ts:=[(1,J n1),(2,.ptr 0 0),(6,J t22_1),(27,.vs 3 (([(⟨t22_0.Kind,t22_0.Shape,t22_0.Elems⟩:api.Array)]).map (api.Array.enc)))]) (hs:=[.box [J a0.Kind,VI' a0.Shape,VI' a0.Elems]]) rfl (by decide) rfl rfl ⟨⟨_,rfl,WO.refl rfl⟩,⟨rfl,fun _ h=>by cases h⟩⟩ ⟨.s,(.ptr _ _ 0 rfl),.s,(WV.all (k:=2) (by decide) rfl),trivial⟩)) ?_
 refine Z' (Arr.Call_ok et28) ?_
 refine V' ?_
 refine V' ?_
 refine C' h5 (fun h7=>?_) fun h7=>?_
 refine C' h7 (fun h9=>?_) fun h9=>?_
 refine Gate.go (A' h9 Arr.Same_ok fun _ h10=>?_)
 refine C' h10 (fun h12=>?_) fun h12=>?_
 exact B' [0] ⟨_,_,_,h12,rfl⟩
 exact R' (E:=E1') h12
 exact R' (E:=E1') h9
 exact R' (E:=E1') h7
 rintro s ⟨a2_0,a2_1,a2_2,hj0,rfl⟩
 unfold Law7.turned.j0 at hj0
 refine CutN.of (fun s=>∃ a2_0_1 a2_1_1 a2_2_1,Law7.turned.j1 n1 a2_0_1 a2_1_1 a2_2_1 = some r ∧ s = ⟨109,[(1,J n1),(2,.ptr 0 0)],[.box [J a2_0_1,VI' a2_1_1,VI' a2_2_1]]⟩) ?_ ?_
 obtain ⟨t45,et45,hj1⟩:=letk_elim hj0
 refine Nm.mk ⟨t45,by rw [et45,List.length_map],?_⟩
 refine C' hj1 (fun hj3=>?_) fun hj3=>?_
 exact B' [0] ⟨_,_,_,hj3,rfl⟩
 refine DrawB.ofFN 2 [.box [J a2_0,VI' a2_1,VI' a2_2],.arr 1 [],.arr 1 []] 1 3 [[0],[],[],[1],[1],[],[],[],[2],[2],[]] [[],[],[],[1],[1],[],[],[],[2],[2],[]] [none,none,none,some 1,none,none,none,none,some 2,none,none] Tryz_mixed (by kernel_rfl) rfl rfl rfl (by kernel_rfl) ?_
 refine FNode.rd (F:=[0]) (W:=[]) (.agg [J a2_0,VI' a2_1,VI' a2_2]) ?_ rfl rfl ?_
 rfl
 refine FNode.no (W:=[]) (J n1) ?_ rfl ?_
 rfl
 obtain ⟨t50,et50,hj4⟩:=bind_elim hj3
 refine FNode.no (W:=[]) (api.Array.enc t50) ?_ rfl ?_
 refine Z' (Law7.integer_ok et50) ?_
 rfl
 refine FNode.nw (F:=[1]) (W:=[1]) (.ref 3 0 ((([(⟨a2_0,a2_1,a2_2⟩:api.Array),t50]).map (api.Array.enc)).length)) (.ref 1 0 ((([(⟨a2_0,a2_1,a2_2⟩:api.Array),t50]).map (api.Array.enc)).length)) [.box [J a2_0,VI' a2_1,VI' a2_2],.arr 3 (([(⟨a2_0,a2_1,a2_2⟩:api.Array),t50]).map (api.Array.enc)),.arr 1 []] [.dead,.arr 1 [],.dead] (.arr 3 (([(⟨a2_0,a2_1,a2_2⟩:api.Array),t50]).map (api.Array.enc))) ?_ rfl rfl rfl rfl ⟨_,rfl⟩ (.inr ⟨0,(([(⟨a2_0,a2_1,a2_2⟩:api.Array),t50]).map (api.Array.enc)).length,rfl,rfl⟩) rfl rfl ?_
 refine Nm.mk ⟨([(⟨a2_0,a2_1,a2_2⟩:api.Array),t50]).map (api.Array.enc),rfl,?_⟩
 rfl
 obtain ⟨⟨t52_0,t52_1⟩,et52,hj5⟩:=bind_elim hj4
 refine FNode.fz (F:=[1]) (W:=[1]) 1 3 (([(⟨a2_0,a2_1,a2_2⟩:api.Array),t50]).map (api.Array.enc)) [(51,.vs 3 (([(⟨a2_0,a2_1,a2_2⟩:api.Array),t50]).map (api.Array.enc)))] (.tup [api.Array.enc t52_0,J t52_1]) [.box [J a2_0,VI' a2_1,VI' a2_2],.dead,.arr 1 []] rfl ⟨rfl,.inr ⟨rfl,rfl⟩,trivial⟩ ?_ rfl rfl rfl rfl rfl ?_
 refine Z' (Arr.Call_ok et52) ?_
 rfl
 refine FNode.no (W:=[]) (.tup [api.Array.enc t52_0,J t52_1]) ?_ rfl ?_
 rfl
 refine FNode.no (W:=[]) (api.Array.enc t52_0) ?_ rfl ?_
 rfl
 refine FNode.no (W:=[]) (J t52_1) ?_ rfl ?_
 rfl
 refine FNode.nw (F:=[2]) (W:=[2]) (.ptr 3 0) (.ptr 2 0) [.box [J a2_0,VI' a2_1,VI' a2_2],.dead,.box [J 0,.nils,.nils]] [.dead,.dead,.arr 1 []] (.box [J 0,.nils,.nils]) ?_ rfl rfl rfl rfl ⟨_,rfl⟩ (.inl ⟨0,rfl,rfl⟩) rfl rfl ?_
 refine V' ?_
 rfl
 refine FNode.pl (F:=[2]) (W:=[2]) (.undef) [.box [J a2_0,VI' a2_1,VI' a2_2],.dead,.box [J t52_0.Kind,VI' t52_0.Shape,VI' t52_0.Elems]] ?_ rfl rfl rfl rfl ?_
 refine V' ?_
 rfl
 refine FNode.no (W:=[]) (J t52_1) ?_ rfl ?_
 rfl
 refine L' [0,2] [1,2,9,10] ?_
 refine DrawB.ofFN 2 [.box [J a2_0,VI' a2_1,VI' a2_2],.box [J t52_0.Kind,VI' t52_0.Shape,VI' t52_0.Elems],.arr 1 [],.arr 1 []] 2 4 [[1],[],[],[],[2],[2],[],[],[],[3],[3],[]] [[],[],[],[],[2],[2],[],[],[],[3],[3],[]] [none,none,none,none,some 2,none,none,none,none,some 3,none,none] Tryz_mixed (by kernel_rfl) rfl rfl rfl (by kernel_rfl) ?_
 refine FNode.rd (F:=[1]) (W:=[]) (.agg [J t52_0.Kind,VI' t52_0.Shape,VI' t52_0.Elems]) ?_ rfl rfl ?_
 rfl
 refine FNode.no (W:=[]) (J n1) ?_ rfl ?_
 rfl
 obtain ⟨t58,et58,hj6⟩:=letk_elim hj5
 refine FNode.no (W:=[]) (J t58) ?_ rfl ?_
 refine Nm.mk ⟨t58,et58,?_⟩
 rfl
 obtain ⟨t59,et59,hj7⟩:=bind_elim hj6
 refine FNode.no (W:=[]) (api.Array.enc t59) ?_ rfl ?_
 refine Z' (Law7.integer_ok et59) ?_
 rfl
 refine FNode.nw (F:=[2]) (W:=[2]) (.ref 4 0 ((([(⟨t52_0.Kind,t52_0.Shape,t52_0.Elems⟩:api.Array),t59]).map (api.Array.enc)).length)) (.ref 2 0 ((([(⟨t52_0.Kind,t52_0.Shape,t52_0.Elems⟩:api.Array),t59]).map (api.Array.enc)).length)) [.box [J a2_0,VI' a2_1,VI' a2_2],.box [J t52_0.Kind,VI' t52_0.Shape,VI' t52_0.Elems],.arr 3 (([(⟨t52_0.Kind,t52_0.Shape,t52_0.Elems⟩:api.Array),t59]).map (api.Array.enc)),.arr 1 []] [.dead,.dead,.arr 1 [],.dead] (.arr 3 (([(⟨t52_0.Kind,t52_0.Shape,t52_0.Elems⟩:api.Array),t59]).map (api.Array.enc))) ?_ rfl rfl rfl rfl ⟨_,rfl⟩ (.inr ⟨0,(([(⟨t52_0.Kind,t52_0.Shape,t52_0.Elems⟩:api.Array),t59]).map (api.Array.enc)).length,rfl,rfl⟩) rfl rfl ?_
 refine Nm.mk ⟨([(⟨t52_0.Kind,t52_0.Shape,t52_0.Elems⟩:api.Array),t59]).map (api.Array.enc),rfl,?_⟩
 rfl
 obtain ⟨⟨t61_0,t61_1⟩,et61,hj8⟩:=bind_elim hj7
 refine FNode.fz (F:=[2]) (W:=[2]) 2 3 (([(⟨t52_0.Kind,t52_0.Shape,t52_0.Elems⟩:api.Array),t59]).map (api.Array.enc)) [(60,.vs 3 (([(⟨t52_0.Kind,t52_0.Shape,t52_0.Elems⟩:api.Array),t59]).map (api.Array.enc)))] (.tup [api.Array.enc t61_0,J t61_1]) [.box [J a2_0,VI' a2_1,VI' a2_2],.box [J t52_0.Kind,VI' t52_0.Shape,VI' t52_0.Elems],.dead,.arr 1 []] rfl ⟨rfl,.inr ⟨rfl,rfl⟩,trivial⟩ ?_ rfl rfl rfl rfl rfl ?_
 refine Z' (Arr.Call_ok et61) ?_
 rfl
 refine FNode.no (W:=[]) (.tup [api.Array.enc t61_0,J t61_1]) ?_ rfl ?_
 rfl
 refine FNode.no (W:=[]) (api.Array.enc t61_0) ?_ rfl ?_
 rfl
 refine FNode.no (W:=[]) (J t61_1) ?_ rfl ?_
 rfl
 refine FNode.nw (F:=[3]) (W:=[3]) (.ptr 4 0) (.ptr 3 0) [.box [J a2_0,VI' a2_1,VI' a2_2],.box [J t52_0.Kind,VI' t52_0.Shape,VI' t52_0.Elems],.dead,.box [J 0,.nils,.nils]] [.dead,.dead,.dead,.arr 1 []] (.box [J 0,.nils,.nils]) ?_ rfl rfl rfl rfl ⟨_,rfl⟩ (.inl ⟨0,rfl,rfl⟩) rfl rfl ?_
 refine V' ?_
 rfl
 refine FNode.pl (F:=[3]) (W:=[3]) (.undef) [.box [J a2_0,VI' a2_1,VI' a2_2],.box [J t52_0.Kind,VI' t52_0.Shape,VI' t52_0.Elems],.dead,.box [J t61_0.Kind,VI' t61_0.Shape,VI' t61_0.Elems]] ?_ rfl rfl rfl rfl ?_
 refine V' ?_
 rfl
 refine FNode.no (W:=[]) (J t61_1) ?_ rfl ?_
 rfl
 refine C' hj8 (fun hj10=>?_) fun hj10=>?_
 refine C' hj10 (fun hj12=>?_) fun hj12=>?_
 refine Gate.go (A' hj12 Arr.Same_ok fun _ hj13=>?_)
 refine C' hj13 (fun hj15=>?_) fun hj15=>?_
 exact B' [0] ⟨_,_,_,hj15,rfl⟩
 exact R' (E:=E1') hj15
 exact R' (E:=E1') hj12
 exact R' (E:=E1') hj10
 rintro s ⟨_,_,_,hj0,rfl⟩
 unfold Law7.turned.j1 at hj0
 refine CutN.of (fun s=>∃ a2_0_2 a2_1_2 a2_2_2,Law7.turned.j2 n1 a2_0_2 a2_1_2 a2_2_2 = some r ∧ s = ⟨109,[(1,J n1),(2,.ptr 0 0)],[.box [J a2_0_2,VI' a2_1_2,VI' a2_2_2]]⟩) ?_ ?_
 obtain ⟨t78,et78,hj1⟩:=letk_elim hj0
 refine Nm.mk ⟨t78,by rw [et78,List.length_map],?_⟩
 refine C' hj1 (fun hj3=>?_) fun hj3=>?_
 refine C' hj3 (fun hj5=>?_) fun hj5=>?_
 refine C' hj5 (fun hj7=>?_) fun hj7=>?_
 exact B' [0] ⟨_,_,_,hj7,rfl⟩
 exact R' (E:=E1') hj7
 exact R' (E:=E1') hj5
 exact R' (E:=E1') hj3
 rintro s ⟨a2_0_2,a2_1_2,a2_2_2,hj0,rfl⟩
 unfold Law7.turned.j2 at hj0
 refine DrawB.ofFN 2 [.box [J a2_0_2,VI' a2_1_2,VI' a2_2_2],.arr 1 [],.arr 1 []] 1 3 [[0],[],[],[1],[1],[],[],[],[2],[2],[]] [[],[],[],[1],[1],[],[],[],[2],[2],[]] [none,none,none,some 1,none,none,none,none,some 2,none,none] Tryz_mixed (by kernel_rfl) rfl rfl rfl (by kernel_rfl) ?_
 refine FNode.rd (F:=[0]) (W:=[]) (.agg [J a2_0_2,VI' a2_1_2,VI' a2_2_2]) ?_ rfl rfl ?_
 rfl
 refine FNode.no (W:=[]) (J n1) ?_ rfl ?_
 rfl
 obtain ⟨t91,et91,hj1⟩:=bind_elim hj0
 refine FNode.no (W:=[]) (api.Array.enc t91) ?_ rfl ?_
 refine Z' (Law7.integer_ok et91) ?_
 rfl
 refine FNode.nw (F:=[1]) (W:=[1]) (.ref 3 0 ((([(⟨a2_0_2,a2_1_2,a2_2_2⟩:api.Array),t91]).map (api.Array.enc)).length)) (.ref 1 0 ((([(⟨a2_0_2,a2_1_2,a2_2_2⟩:api.Array),t91]).map (api.Array.enc)).length)) [.box [J a2_0_2,VI' a2_1_2,VI' a2_2_2],.arr 3 (([(⟨a2_0_2,a2_1_2,a2_2_2⟩:api.Array),t91]).map (api.Array.enc)),.arr 1 []] [.dead,.arr 1 [],.dead] (.arr 3 (([(⟨a2_0_2,a2_1_2,a2_2_2⟩:api.Array),t91]).map (api.Array.enc))) ?_ rfl rfl rfl rfl ⟨_,rfl⟩ (.inr ⟨0,(([(⟨a2_0_2,a2_1_2,a2_2_2⟩:api.Array),t91]).map (api.Array.enc)).length,rfl,rfl⟩) rfl rfl ?_
 refine Nm.mk ⟨([(⟨a2_0_2,a2_1_2,a2_2_2⟩:api.Array),t91]).map (api.Array.enc),rfl,?_⟩
 rfl
 obtain ⟨⟨t93_0,t93_1⟩,et93,hj2⟩:=bind_elim hj1
 refine FNode.fz (F:=[1]) (W:=[1]) 1 3 (([(⟨a2_0_2,a2_1_2,a2_2_2⟩:api.Array),t91]).map (api.Array.enc)) [(92,.vs 3 (([(⟨a2_0_2,a2_1_2,a2_2_2⟩:api.Array),t91]).map (api.Array.enc)))] (.tup [api.Array.enc t93_0,J t93_1]) [.box [J a2_0_2,VI' a2_1_2,VI' a2_2_2],.dead,.arr 1 []] rfl ⟨rfl,.inr ⟨rfl,rfl⟩,trivial⟩ ?_ rfl rfl rfl rfl rfl ?_
 refine Z' (Arr.Call_ok et93) ?_
 rfl
 refine FNode.no (W:=[]) (.tup [api.Array.enc t93_0,J t93_1]) ?_ rfl ?_
 rfl
 refine FNode.no (W:=[]) (api.Array.enc t93_0) ?_ rfl ?_
 rfl
 refine FNode.no (W:=[]) (J t93_1) ?_ rfl ?_
 rfl
 refine FNode.nw (F:=[2]) (W:=[2]) (.ptr 3 0) (.ptr 2 0) [.box [J a2_0_2,VI' a2_1_2,VI' a2_2_2],.dead,.box [J 0,.nils,.nils]] [.dead,.dead,.arr 1 []] (.box [J 0,.nils,.nils]) ?_ rfl rfl rfl rfl ⟨_,rfl⟩ (.inl ⟨0,rfl,rfl⟩) rfl rfl ?_
 refine V' ?_
 rfl
 refine FNode.pl (F:=[2]) (W:=[2]) (.undef) [.box [J a2_0_2,VI' a2_1_2,VI' a2_2_2],.dead,.box [J t93_0.Kind,VI' t93_0.Shape,VI' t93_0.Elems]] ?_ rfl rfl rfl rfl ?_
 refine V' ?_
 rfl
 refine FNode.no (W:=[]) (J t93_1) ?_ rfl ?_
 rfl
 refine C' hj2 (fun hj4=>?_) fun hj4=>?_
 exact R' (E:=E1') hj4
 obtain ⟨t101,et101,hj5⟩:=letk_elim hj4
 refine Nm.mk ⟨t101,by rw [et101,List.length_map],?_⟩
 obtain ⟨t105,et105,hj6⟩:=letk_elim hj5
 refine Nm.mk ⟨t105,by rw [et105,List.length_map],?_⟩
 refine N' hj6 fun _ hj7=>?_
 refine N' hj7 fun _ hj8=>?_
 exact R' (E:=E1') hj8
noncomputable def Law7.ArrayShapes.j1 (n1 a2_0_1:Int) (a2_1_1 a2_2_1:List Int):Option Bool :=
 Option.bind (Law7.turned (⟨a2_0_1,a2_1_1,a2_2_1⟩:api.Array) n1) fun t75 =>
 bif t75 then
 Option.bind (Law7.Awake) fun t77 =>
 some t77
 else
 some false
noncomputable def Law7.ArrayShapes.j0 (n1 a2_0:Int) (a2_1 a2_2:List Int):Option Bool :=
 letk ((a2_1.length:Int)) fun t30 =>
 letk (decide (t30 > (0:Int))) fun t31 =>
 bif t31 then
 Option.bind (Arr.Call ⟨#[115,104,97,112,101]⟩ ([(⟨a2_0,a2_1,a2_2⟩:api.Array)])) fun (t35_0,_) =>
 Option.bind (Arr.Call ⟨#[114,101,115,104,97,112,101]⟩ ([(⟨a2_0,a2_1,a2_2⟩:api.Array),(⟨t35_0.Kind,t35_0.Shape,t35_0.Elems⟩:api.Array)])) fun (t42_0,t42_1) =>
 Option.bind (Arr.Call ⟨#[112,97,99,107]⟩ ([(⟨a2_0,a2_1,a2_2⟩:api.Array),(⟨2,([]:List Int),[1]⟩:api.Array)])) fun (t50_0,t50_1) =>
 letk (t42_1 != (0:Int)) fun t54 =>
 bif t54 then
 some false
 else
 letk (t50_1 != (0:Int)) fun t57 =>
 bif t57 then
 some false
 else
 Option.bind (Arr.Same (⟨t42_0.Kind,t42_0.Shape,t42_0.Elems⟩:api.Array) (⟨a2_0,a2_1,a2_2⟩:api.Array)) fun t62 =>
 letk (!t62) fun t63 =>
 bif t63 then
 some false
 else
 Option.bind (Ref7.SameShape t50_0.Elems a2_2) fun t70 =>
 letk (!t70) fun t71 =>
 bif t71 then
 some false
 else
 Law7.ArrayShapes.j1 n1 a2_0 a2_1 a2_2
 else
 Law7.ArrayShapes.j1 n1 a2_0 a2_1 a2_2
noncomputable def Law7.ArrayShapes (a0:api.Array) (n1:Int):Option Bool :=
 Option.bind (Law7.isLarge ([(⟨a0.Kind,a0.Shape,a0.Elems⟩:api.Array)])) fun t13 =>
 bif t13 then
 Option.bind (Law7.Awake) fun t27_3 =>
 some t27_3
 else
 Option.bind (Arr.Valid (⟨a0.Kind,a0.Shape,a0.Elems⟩:api.Array)) fun t16 =>
 letk (!t16) fun t17 =>
 bif t17 then
 Option.bind (Law7.Awake) fun t27_2 =>
 some t27_2
 else
 letk (decide (n1 < ((-1000):Int))) fun t21 =>
 bif t21 then
 Option.bind (Law7.Awake) fun t27_1 =>
 some t27_1
 else
 letk (decide (n1 > (1000:Int))) fun t25 =>
 bif t25 then
 Option.bind (Law7.Awake) fun t27 =>
 some t27
 else
 Law7.ArrayShapes.j0 n1 a0.Kind a0.Shape a0.Elems
theorem Law7.ArrayShapes_ok {a0:api.Array} {n1:Int} {r:Bool} (h0:Law7.ArrayShapes a0 n1 = some r):Gives Tryz.prog 5 [api.Array.enc a0,J n1] (.lit (.bool r)):=by
 unfold Law7.ArrayShapes at h0
 refine W' [(0,3),(0,9)] Tryz.func5 ?_
 refine V' ?_
 refine CutN.of (fun s=>∃ a2_0 a2_1 a2_2,Law7.ArrayShapes.j0 n1 a2_0 a2_1 a2_2 = some r ∧ s = ⟨79,[(1,J n1),(2,.ptr 0 0)],[.box [J a2_0,VI' a2_1,VI' a2_2]]⟩) ?_ ?_
 refine Gate.go ?_
 refine Nm.mk ⟨([(⟨a0.Kind,a0.Shape,a0.Elems⟩:api.Array)]).map (api.Array.enc),rfl,?_⟩
 obtain ⟨t13,et13,h1⟩:=bind_elim h0
 refine Gate.weak (Sees.of (Weak.objs (k:=79) (keep:=[0]) (frz:=[1]) (m:=0) (ts:=[(1,J n1),(2,.ptr 0 0),(12,.vs 3 (([(⟨a0.Kind,a0.Shape,a0.Elems⟩:api.Array)]).map (api.Array.enc)))]) (hs:=[.box [J a0.Kind,VI' a0.Shape,VI' a0.Elems]]) rfl (by decide) rfl rfl ⟨⟨_,rfl,WO.refl rfl⟩,⟨rfl,fun _ h=>by cases h⟩⟩ ⟨.s,(.ptr _ _ 0 rfl),(WV.all (k:=1) (by decide) rfl),trivial⟩)) ?_
 refine Z' (Law7.isLarge_ok et13) ?_
 rcases t13 with _ | _
 have h2:=bif_f h1
 refine Gate.go (A' h2 Arr.Valid_ok fun _ h3=>?_)
 refine C' h3 (fun h5=>?_) fun h5=>?_
 refine C' h5 (fun h7=>?_) fun h7=>?_
 refine C' h7 (fun h9=>?_) fun h9=>?_
 exact B' [0] ⟨_,_,_,h9,rfl⟩
 refine Gate.go (A' h9 Law7.Awake_ok fun _ h10=>?_)
 exact R' (E:=E1') h10
 refine Gate.go (A' h7 Law7.Awake_ok fun _ h8=>?_)
 exact R' (E:=E1') h8
 refine Gate.go (A' h5 Law7.Awake_ok fun _ h6=>?_)
 exact R' (E:=E1') h6
 have h2:=bif_t h1
 refine Gate.go (A' h2 Law7.Awake_ok fun _ h3=>?_)
 exact R' (E:=E1') h3
 rintro s ⟨a2_0,a2_1,a2_2,hj0,rfl⟩
 unfold Law7.ArrayShapes.j0 at hj0
 refine CutN.of (fun s=>∃ a2_0_1 a2_1_1 a2_2_1,Law7.ArrayShapes.j1 n1 a2_0_1 a2_1_1 a2_2_1 = some r ∧ s = ⟨79,[(1,J n1),(2,.ptr 0 0)],[.box [J a2_0_1,VI' a2_1_1,VI' a2_2_1]]⟩) ?_ ?_
 obtain ⟨t30,et30,hj1⟩:=letk_elim hj0
 refine Nm.mk ⟨t30,by rw [et30,List.length_map],?_⟩
 refine C' hj1 (fun hj3=>?_) fun hj3=>?_
 exact B' [0] ⟨_,_,_,hj3,rfl⟩
 refine Gate.go ?_
 refine Nm.mk ⟨([(⟨a2_0,a2_1,a2_2⟩:api.Array)]).map (api.Array.enc),rfl,?_⟩
 obtain ⟨⟨t35_0,_⟩,et35,hj4⟩:=bind_elim hj3
 refine Gate.weak (Sees.of (Weak.objs (k:=79) (keep:=[0]) (frz:=[1]) (m:=0) (ts:=[(1,J n1),(2,.ptr 0 0),(34,.vs 3 (([(⟨a2_0,a2_1,a2_2⟩:api.Array)]).map (api.Array.enc)))]) (hs:=[.box [J a2_0,VI' a2_1,VI' a2_2]]) rfl (by decide) rfl rfl ⟨⟨_,rfl,WO.refl rfl⟩,⟨rfl,fun _ h=>by cases h⟩⟩ ⟨.s,(.ptr _ _ 0 rfl),(WV.all (k:=1) (by decide) rfl),trivial⟩)) ?_
 refine Z' (Arr.Call_ok et35) ?_
 refine V' ?_
 refine V' ?_
 refine Gate.go ?_
 refine Nm.mk ⟨([(⟨a2_0,a2_1,a2_2⟩:api.Array),(⟨t35_0.Kind,t35_0.Shape,t35_0.Elems⟩:api.Array)]).map (api.Array.enc),rfl,?_⟩
 obtain ⟨⟨t42_0,t42_1⟩,et42,hj5⟩:=bind_elim hj4
 refine Gate.weak (Sees.of (Weak.objs (k:=79) (keep:=[0]) (frz:=[2]) (m:=0) (ts:=[(1,J n1),(2,.ptr 0 0),(41,.vs 3 (([(⟨a2_0,a2_1,a2_2⟩:api.Array),(⟨t35_0.Kind,t35_0.Shape,t35_0.Elems⟩:api.Array)]).map (api.Array.enc)))]) (hs:=[.box [J a2_0,VI' a2_1,VI' a2_2]]) rfl (by decide) rfl rfl ⟨⟨_,rfl,WO.refl rfl⟩,⟨rfl,fun _ h=>by cases h⟩⟩ ⟨.s,(.ptr _ _ 0 rfl),(WV.all (k:=2) (by decide) rfl),trivial⟩)) ?_
 refine Z' (Arr.Call_ok et42) ?_
 refine V' ?_
 refine V' ?_
 refine Gate.go ?_
 refine Nm.mk ⟨([1]).map (eI .i64),rfl,?_⟩
 refine Gate.weak (Sees.of (Weak.objs (k:=79) (keep:=[0,1]) (frz:=[2]) (m:=0) (ts:=[(1,J n1),(2,.ptr 0 0),(7,.ptr 1 0),(8,J t42_1),(46,.agg [J a2_0,VI' a2_1,VI' a2_2]),(47,.vs 1 (([1]).map (eI .i64)))]) (hs:=[.box [J a2_0,VI' a2_1,VI' a2_2],.box [J t42_0.Kind,VI' t42_0.Shape,VI' t42_0.Elems]]) rfl (by decide) rfl rfl ⟨⟨_,rfl,WO.refl rfl⟩,⟨⟨_,rfl,WO.refl rfl⟩,⟨rfl,fun _ h=>by cases h⟩⟩⟩ ⟨.s,(.ptr _ _ 0 rfl),(.ptr _ _ 1 rfl),.s,.s,(WV.all (k:=2) (by decide) rfl),trivial⟩)) ?_
 refine V' ?_
 refine Gate.weak (Sees.of (Weak.objs (k:=79) (keep:=[0,1]) (frz:=[]) (m:=0) (ts:=[(1,J n1),(2,.ptr 0 0),(7,.ptr 1 0),(8,J t42_1),(46,.agg [J a2_0,VI' a2_1,VI' a2_2]),(48,.agg [J 2,.vs 1 ((([]:List Int)).map (eI .i64)),.vs 1 (([1]).map (eI .i64))])]) (hs:=[.box [J a2_0,VI' a2_1,VI' a2_2],.box [J t42_0.Kind,VI' t42_0.Shape,VI' t42_0.Elems]]) rfl (by decide) rfl rfl ⟨⟨_,rfl,WO.refl rfl⟩,⟨⟨_,rfl,WO.refl rfl⟩,⟨rfl,fun _ h=>by cases h⟩⟩⟩ ⟨.s,(.ptr _ _ 0 rfl),(.ptr _ _ 1 rfl),.s,.s,(WV.aggs ⟨.s,(.nilsVs _),.s,trivial⟩),trivial⟩)) ?_
 refine Nm.mk ⟨([(⟨a2_0,a2_1,a2_2⟩:api.Array),(⟨2,([]:List Int),[1]⟩:api.Array)]).map (api.Array.enc),rfl,?_⟩
 obtain ⟨⟨_,_⟩,et50,hj6⟩:=bind_elim hj5
 refine Gate.weak (Sees.of (Weak.objs (k:=79) (keep:=[0,1]) (frz:=[2]) (m:=0) (ts:=[(1,J n1),(2,.ptr 0 0),(7,.ptr 1 0),(8,J t42_1),(49,.vs 3 (([(⟨a2_0,a2_1,a2_2⟩:api.Array),(⟨2,([]:List Int),[1]⟩:api.Array)]).map (api.Array.enc)))]) (hs:=[.box [J a2_0,VI' a2_1,VI' a2_2],.box [J t42_0.Kind,VI' t42_0.Shape,VI' t42_0.Elems]]) rfl (by decide) rfl rfl ⟨⟨_,rfl,WO.refl rfl⟩,⟨⟨_,rfl,WO.refl rfl⟩,⟨rfl,fun _ h=>by cases h⟩⟩⟩ ⟨.s,(.ptr _ _ 0 rfl),(.ptr _ _ 1 rfl),.s,(WV.all (k:=2) (by decide) rfl),trivial⟩)) ?_
 refine Z' (Arr.Call_ok et50) ?_
 refine V' ?_
 refine V' ?_
 refine C' hj6 (fun hj8=>?_) fun hj8=>?_
 refine C' hj8 (fun hj10=>?_) fun hj10=>?_
 refine Gate.go (A' hj10 Arr.Same_ok fun _ hj11=>?_)
 refine C' hj11 (fun hj13=>?_) fun hj13=>?_
 refine Gate.go (A' hj13 Ref7.SameShape_ok fun _ hj14=>?_)
 refine C' hj14 (fun hj16=>?_) fun hj16=>?_
 exact B' [0] ⟨_,_,_,hj16,rfl⟩
 exact R' (E:=E1') hj16
 exact R' (E:=E1') hj13
 exact R' (E:=E1') hj10
 exact R' (E:=E1') hj8
 rintro s ⟨_,_,_,hj0,rfl⟩
 unfold Law7.ArrayShapes.j1 at hj0
 refine Gate.go (A' hj0 Law7.turned_ok fun t75 hj1=>?_)
 rcases t75 with _ | _
 have hj2:=bif_f hj1
 exact R' (E:=E1') hj2
 have hj2:=bif_t hj1
 refine Gate.go (A' hj2 Law7.Awake_ok fun _ hj3=>?_)
 exact R' (E:=E1') hj3
end Go.Q
