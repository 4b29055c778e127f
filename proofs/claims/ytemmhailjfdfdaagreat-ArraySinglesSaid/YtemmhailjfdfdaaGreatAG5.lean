import Derived.Test.YtemmhailjfdfdaaGreatAG4
import Derived.Test.YtemmhailjfdfdaaGreatFX
import Derived.Test.YtemmhailjfdfdaaGreatFY
import Derived.Test.YtemmhailjfdfdaaGreatProg
namespace Go.Q
open Go Go.Proofs
set_option maxRecDepth 10000
set_option maxHeartbeats 2000000
noncomputable def Ref7.Count.s1 (shape0:List Int) (i4 n3_1 k5:Int):Option ((Int × Int) ⊕ ((Int × Int) ⊕ Int)) :=
 letk ((shape0.length:Int)) fun t37 =>
 letk (decide (k5 < t37)) fun t38 =>
 bif t38 then
 chk (0 ≤ k5) <|
 Option.bind (shape0[k5.toNat]?) fun t43 =>
 letk (t43 == (0:Int)) fun t45 =>
 bif t45 then
 letk (IntKind.i64.wrap (k5 + (1:Int))) fun t40_1 =>
 some (.inl (0,t40_1))
 else
 letk (IntKind.i64.wrap (k5 + (1:Int))) fun t40 =>
 some (.inl (n3_1,t40))
 else
 ((
 letk (IntKind.i64.wrap (i4 + (1:Int))) fun t11_1 =>
 some (.inl (n3_1,t11_1)))).map .inr
noncomputable def Ref7.Count.l1 (shape0:List Int) (i4 n3_1 k5:Int):Option ((Int × Int) ⊕ Int):=loopO (fun v:Int × Int=>Ref7.Count.s1 shape0 i4 v.1 v.2) (n3_1,k5)
noncomputable def Ref7.Count.j0 (shape0:List Int) (n3 i4:Int):Option ((Int × Int) ⊕ Int) :=
 chk (0 ≤ i4) <|
 Option.bind (shape0[i4.toNat]?) fun t27 =>
 letk (IntKind.i64.wrap (n3 * t27)) fun t29 =>
 letk (if 4001 < t29 then 4001 else t29) fun t30 =>
 letk (decide (t30 > (4000:Int))) fun t32 =>
 bif t32 then
 letk (IntKind.i64.wrap (i4 + (1:Int))) fun t34 =>
 Ref7.Count.l1 shape0 i4 t30 t34
 else
 letk (IntKind.i64.wrap (i4 + (1:Int))) fun t11 =>
 some (.inl (t30,t11))
noncomputable def Ref7.Count.s0 (shape0:List Int) (n3 i4:Int):Option ((Int × Int) ⊕ Int) :=
 letk ((shape0.length:Int)) fun t8 =>
 letk (decide (i4 < t8)) fun t9 =>
 bif t9 then
 chk (0 ≤ i4) <|
 Option.bind (shape0[i4.toNat]?) fun t14 =>
 letk (decide (t14 < (0:Int))) fun t16 =>
 bif t16 then
 some (.inr (-1))
 else
 chk (0 ≤ i4) <|
 Option.bind (shape0[i4.toNat]?) fun t20 =>
 letk (decide (t20 > (4000:Int))) fun t22 =>
 bif t22 then
 some (.inr (-1))
 else
 Ref7.Count.j0 shape0 n3 i4
 else
 ((
 letk (decide (n3 > (4000:Int))) fun t47 =>
 bif t47 then
 some (-1)
 else
 some n3)).map .inr
noncomputable def Ref7.Count.l0 (shape0:List Int) (n3 i4:Int):Option Int:=loopO (fun v:Int × Int=>Ref7.Count.s0 shape0 v.1 v.2) (n3,i4)
noncomputable def Ref7.Count (shape0:List Int):Option Int :=
 Ref7.Count.l0 shape0 1 0
theorem Ref7.Count_ok {shape0:List Int} {r:Int} (h0:Ref7.Count shape0 = some r):Gives Tryz.prog 63 [VI' shape0] (J r):=by
 unfold Ref7.Count at h0
 refine W' [(0,7)] Tryz.func63 ?_
 unfold Ref7.Count.l0 at h0
 refine LoopB.of (σ:=Int × Int) (ρ:=Int) (fun v:Int × Int=>Ref7.Count.s0 shape0 v.1 v.2) (fun v=>(⟨49,[(0,VI' shape0),(3,J v.1),(4,J v.2)],[]⟩:St)) (1,0) h0 (B' [] rfl) ?_
 rintro _ ⟨n3,i4⟩ x1 hs0_0 hl1 hr1
 replace hs0_0:Ref7.Count.s0 shape0 n3 i4 = some x1:=hs0_0
 unfold Ref7.Count.s0 at hs0_0
 obtain ⟨t8,et8,hs0_1⟩:=letk_elim hs0_0
 refine Nm.mk ⟨t8,by rw [et8,List.length_map],?_⟩
 refine C' hs0_1 (fun hs0_3=>?_) fun hs0_3=>?_
 obtain ⟨_,hs0_3u,ehs0_3_0⟩:=map_elim hs0_3
 have ehs0_3_0:=(hr1 _ ehs0_3_0.symm).symm
 subst ehs0_3_0
 refine C' hs0_3u (fun hs0_3u1=>?_) fun hs0_3u1=>?_
 exact R' (E:=E2') hs0_3u1
 exact R' (E:=E2') hs0_3u1
 refine CutN.of (fun s=>Ref7.Count.j0 shape0 n3 i4 = some x1 ∧ s = ⟨49,[(0,VI' shape0),(3,J n3),(4,J i4)],[]⟩) ?_ ?_
 obtain ⟨chs0_4,hs0_4⟩:=chk_elim hs0_3
 obtain ⟨_,et14,hs0_5⟩:=bind_elim hs0_4
 refine Side.mk chs0_4 ?_
 refine At.by et14 ?_
 refine C' hs0_5 (fun hs0_7=>?_) fun hs0_7=>?_
 obtain ⟨chs0_8,hs0_8⟩:=chk_elim hs0_7
 obtain ⟨_,et20,hs0_9⟩:=bind_elim hs0_8
 refine Side.mk chs0_8 ?_
 refine At.by et20 ?_
 refine C' hs0_9 (fun hs0_11=>?_) fun hs0_11=>?_
 exact B' [] ⟨hs0_11,rfl⟩
 have ehs0_11_0:=hr1 _ (Option.some.inj hs0_11).symm
 subst ehs0_11_0
 exact Returns.pure (r:=J ((-1))) rfl rfl rfl rfl ⟨rfl,rfl⟩
 have ehs0_7_0:=hr1 _ (Option.some.inj hs0_7).symm
 subst ehs0_7_0
 exact Returns.pure (r:=J ((-1))) rfl rfl rfl rfl ⟨rfl,rfl⟩
 rintro s ⟨hj0,rfl⟩
 unfold Ref7.Count.j0 at hj0
 obtain ⟨chj1,hj1⟩:=chk_elim hj0
 obtain ⟨_,et27,hj2⟩:=bind_elim hj1
 refine Side.mk chj1 ?_
 refine At.by et27 ?_
 refine N' hj2 fun _ hj3=>?_
 refine N' hj3 fun t30 hj4=>?_
 refine C' hj4 (fun hj6=>?_) fun hj6=>?_
 refine N' hj6 fun _ hj7=>?_
 exact B' [] ⟨_,hl1 _ (Option.some.inj hj7).symm,rfl⟩
 refine N' hj6 fun t34 hj7=>?_
 unfold Ref7.Count.l1 at hj7
 refine LoopB.of (σ:=Int × Int) (ρ:=(Int × Int) ⊕ Int) (fun v:Int × Int=>Ref7.Count.s1 shape0 i4 v.1 v.2) (fun v=>(⟨49,[(0,VI' shape0),(3,J v.1),(4,J i4),(5,J v.2)],[]⟩:St)) (t30,t34) hj7 (B' [] rfl) ?_
 rintro _ ⟨n3_1,k5⟩ x2 hs1_0 hl2 hr2
 replace hs1_0:Ref7.Count.s1 shape0 i4 n3_1 k5 = some x2:=hs1_0
 unfold Ref7.Count.s1 at hs1_0
 obtain ⟨t37,et37,hs1_1⟩:=letk_elim hs1_0
 refine Nm.mk ⟨t37,by rw [et37,List.length_map],?_⟩
 refine C' hs1_1 (fun hs1_3=>?_) fun hs1_3=>?_
 obtain ⟨_,hs1_3u,ehs1_3_0⟩:=map_elim hs1_3
 have ehs1_3_0:=(hr2 _ ehs1_3_0.symm).symm
 subst ehs1_3_0
 refine N' hs1_3u fun _ hs1_3u0=>?_
 exact B' [] ⟨_,hl1 _ (Option.some.inj hs1_3u0).symm,rfl⟩
 obtain ⟨chs1_4,hs1_4⟩:=chk_elim hs1_3
 obtain ⟨_,et43,hs1_5⟩:=bind_elim hs1_4
 refine Side.mk chs1_4 ?_
 refine At.by et43 ?_
 refine C' hs1_5 (fun hs1_7=>?_) fun hs1_7=>?_
 refine N' hs1_7 fun _ hs1_8=>?_
 exact B' [] ⟨_,hl2 _ (Option.some.inj hs1_8).symm,rfl⟩
 refine N' hs1_7 fun _ hs1_8=>?_
 exact B' [] ⟨_,hl2 _ (Option.some.inj hs1_8).symm,rfl⟩
noncomputable def Ref7.Bytes (kind0:Int):Option Int :=
 letk (kind0 == (3:Int)) fun t5 =>
 bif t5 then
 some 4
 else
 letk (kind0 == (4:Int)) fun t7 =>
 bif t7 then
 some 8
 else
 some 0
theorem Ref7.Bytes_ok {kind0 r:Int} (h0:Ref7.Bytes kind0 = some r):Gives Tryz.prog 93 [J kind0] (J r):=by
 unfold Ref7.Bytes at h0
 refine W' [] Tryz.func93 ?_
 refine C' h0 (fun h2=>?_) fun h2=>?_
 refine C' h2 (fun h4=>?_) fun h4=>?_
 exact R' (E:=E2') h4
 exact R' (E:=E2') h4
 exact R' (E:=E2') h2
noncomputable def Ref1.Valid (kind0 a1:Int):Option Bool :=
 letk (kind0 == (2:Int)) fun t7 =>
 bif t7 then
 letk (decide (a1 ≥ (0:Int))) fun t9 =>
 bif t9 then
 letk (decide (a1 < (65536:Int))) fun t12 =>
 some t12
 else
 some false
 else
 letk (kind0 == (4:Int)) fun t15 =>
 bif t15 then
 letk (decide (a1 ≥ (0:Int))) fun t17 =>
 bif t17 then
 letk (decide (a1 < (4294967296:Int))) fun t20 =>
 some t20
 else
 some false
 else
 letk (kind0 == (8:Int)) fun t23 =>
 some t23
theorem Ref1.Valid_ok {kind0 a1:Int} {r:Bool} (h0:Ref1.Valid kind0 a1 = some r):Gives Tryz.prog 118 [J kind0,J a1] (.lit (.bool r)):=by
 unfold Ref1.Valid at h0
 refine W' [] Tryz.func118 ?_
 refine C' h0 (fun h2=>?_) fun h2=>?_
 refine C' h2 (fun h4=>?_) fun h4=>?_
 refine N' h4 fun _ h5=>?_
 exact R' (E:=E1') h5
 refine C' h4 (fun h6=>?_) fun h6=>?_
 exact R' (E:=E1') h6
 refine N' h6 fun _ h7=>?_
 exact R' (E:=E1') h7
 refine C' h2 (fun h4=>?_) fun h4=>?_
 exact R' (E:=E1') h4
 refine N' h4 fun _ h5=>?_
 exact R' (E:=E1') h5
noncomputable def Ref7.IsValue (v0:api.Value):Option Bool :=
 letk (v0.Kind == (1:Int)) fun t6 =>
 bif t6 then
 letk (decide (v0.N ≥ ((-2147483647):Int))) fun t9 =>
 bif t9 then
 letk (decide (v0.N ≤ (2147483647:Int))) fun t13 =>
 some t13
 else
 some false
 else
 letk (v0.Kind == (2:Int)) fun t16 =>
 bif t16 then
 letk (v0.N == (0:Int)) fun t19 =>
 bif t19 then
 some true
 else
 letk (v0.N == (1:Int)) fun t23 =>
 some t23
 else
 Option.bind (Ref7.Bytes v0.Kind) fun t27 =>
 letk (decide (t27 > (0:Int))) fun t28 =>
 bif t28 then
 Option.bind (Ref7.Bytes v0.Kind) fun t32 =>
 Option.bind (Ref1.Valid t32 v0.N) fun t35 =>
 some t35
 else
 some false
theorem Ref7.IsValue_ok {v0:api.Value} {r:Bool} (h0:Ref7.IsValue v0 = some r):Gives Tryz.prog 66 [api.Value.enc v0] (.lit (.bool r)):=by
 unfold Ref7.IsValue at h0
 refine W' [] Tryz.func66 ?_
 refine V' ?_
 refine C' h0 (fun h2=>?_) fun h2=>?_
 refine C' h2 (fun h4=>?_) fun h4=>?_
 refine L' [0] [1] ?_
 refine DrawB.ofG [none,none,none,none,none,some 29,some 29,some 29,some 29,some 29,some 29,none,none] Tryz_mixed (by kernel_rfl) (by kernel_rfl) ?_
 refine D' rfl (D' rfl ?_)
 refine DC' h4 (fun e=>Z' (Ref7.Bytes_ok e) rfl) fun _ h5=>?_
 refine DN' h5 (fun e=>n' e rfl) fun t28 h6=>?_
 refine D' rfl ?_
 rcases t28 with _ | _
 have h7:=bif_f h6
 refine D' rfl (D' rfl ?_)
 exact R' (E:=E1') h7
 have h7:=bif_t h6
 refine D' rfl (D' rfl ?_)
 refine DC' h7 (fun e=>Z' (Ref7.Bytes_ok e) rfl) fun _ h8=>?_
 refine D' rfl (D' rfl ?_)
 refine DC' h8 (fun e=>Z' (Ref1.Valid_ok e) rfl) fun _ h9=>?_
 refine D' rfl (D' rfl ?_)
 exact R' (E:=E1') h9
 refine C' h4 (fun h6=>?_) fun h6=>?_
 refine N' h6 fun _ h7=>?_
 exact R' (E:=E1') h7
 exact R' (E:=E1') h6
 refine C' h2 (fun h4=>?_) fun h4=>?_
 exact R' (E:=E1') h4
 refine N' h4 fun _ h5=>?_
 exact R' (E:=E1') h5
noncomputable def Ref7.Valid.s1 (a1_0_2:Int) (a1_1_2 a1_2_2:List Int) (i4:Int):Option ((Int × (List Int) × (List Int) × Int) ⊕ Bool) :=
 letk ((a1_2_2.length:Int)) fun t52 =>
 letk (decide (i4 < t52)) fun t53 =>
 bif t53 then
 chk (0 ≤ i4) <|
 Option.bind (a1_2_2[i4.toNat]?) fun t61 =>
 Option.bind (Ref7.IsValue (⟨a1_0_2,t61⟩:api.Value)) fun t64 =>
 letk (!t64) fun t65 =>
 bif t65 then
 some (.inr false)
 else
 letk (IntKind.i64.wrap (i4 + (1:Int))) fun t55 =>
 some (.inl (a1_0_2,a1_1_2,a1_2_2,t55))
 else
 some (.inr true)
noncomputable def Ref7.Valid.l1 (a1_0_2:Int) (a1_1_2 a1_2_2:List Int) (i4:Int):Option Bool:=loopO (fun v:Int × (List Int) × (List Int) × Int=>Ref7.Valid.s1 v.1 v.2.1 v.2.2.1 v.2.2.2) (a1_0_2,a1_1_2,a1_2_2,i4)
noncomputable def Ref7.Valid.s0 (a1_0_1:Int) (a1_1_1 a1_2_1:List Int) (i3:Int):Option ((Int × (List Int) × (List Int) × Int) ⊕ Bool) :=
 letk ((a1_1_1.length:Int)) fun t31 =>
 letk (decide (i3 < t31)) fun t32 =>
 bif t32 then
 chk (0 ≤ i3) <|
 Option.bind (a1_1_1[i3.toNat]?) fun t38 =>
 letk (decide (t38 < (0:Int))) fun t40 =>
 bif t40 then
 some (.inr false)
 else
 chk (0 ≤ i3) <|
 Option.bind (a1_1_1[i3.toNat]?) fun t45 =>
 letk (decide (t45 > (4000:Int))) fun t47 =>
 bif t47 then
 some (.inr false)
 else
 letk (IntKind.i64.wrap (i3 + (1:Int))) fun t34 =>
 some (.inl (a1_0_1,a1_1_1,a1_2_1,t34))
 else
 (Ref7.Valid.l1 a1_0_1 a1_1_1 a1_2_1 0).map .inr
noncomputable def Ref7.Valid.l0 (a1_0_1:Int) (a1_1_1 a1_2_1:List Int) (i3:Int):Option Bool:=loopO (fun v:Int × (List Int) × (List Int) × Int=>Ref7.Valid.s0 v.1 v.2.1 v.2.2.1 v.2.2.2) (a1_0_1,a1_1_1,a1_2_1,i3)
noncomputable def Ref7.Valid.j0 (a1_0:Int) (a1_1 a1_2:List Int):Option Bool :=
 Ref7.Valid.l0 a1_0 a1_1 a1_2 0
noncomputable def Ref7.Valid (a0:api.Array):Option Bool :=
 letk (decide (a0.Kind < (1:Int))) fun t7 =>
 bif t7 then
 some false
 else
 letk (decide (a0.Kind > (4:Int))) fun t11 =>
 bif t11 then
 some false
 else
 letk ((a0.Shape.length:Int)) fun t16 =>
 letk (decide (t16 > (3:Int))) fun t17 =>
 bif t17 then
 some false
 else
 Option.bind (Ref7.Count a0.Shape) fun t22 =>
 letk ((a0.Elems.length:Int)) fun t25 =>
 letk (t22 != t25) fun t26 =>
 bif t26 then
 some false
 else
 Ref7.Valid.j0 a0.Kind a0.Shape a0.Elems
theorem Ref7.Valid_ok {a0:api.Array} {r:Bool} (h0:Ref7.Valid a0 = some r):Gives Tryz.prog 26 [api.Array.enc a0] (.lit (.bool r)):=by
 unfold Ref7.Valid at h0
 refine W' [(0,3)] Tryz.func26 ?_
 refine V' ?_
 refine CutN.of (fun s=>∃ a1_0 a1_1 a1_2,Ref7.Valid.j0 a1_0 a1_1 a1_2 = some r ∧ s = ⟨66,[(1,.ptr 0 0)],[.box [J a1_0,VI' a1_1,VI' a1_2]]⟩) ?_ ?_
 refine L' [0] [1] ?_
 refine DrawB.ofG [none,none,none,none,some 8,some 8,some 8,none,none,some 13,some 13,some 13,some 13,none,none,some 19,some 19,some 19,some 19,some 19,some 19,some 19,none] Tryz_mixed (by kernel_rfl) (by kernel_rfl) ?_
 refine D' rfl (D' rfl ?_)
 refine DN' h0 (fun e=>n' e rfl) fun t7 h1=>?_
 refine D' rfl ?_
 rcases t7 with _ | _
 have h2:=bif_f h1
 refine D' rfl (D' rfl ?_)
 refine DN' h2 (fun e=>n' e rfl) fun t11 h3=>?_
 refine D' rfl (D' rfl ?_)
 rcases t11 with _ | _
 have h4:=bif_f h3
 refine D' rfl (D' rfl ?_)
 obtain ⟨t16,et16,h5⟩:=letk_elim h4
 refine DNodeB.of (J t16) ?_ ?_
 refine Nm.mk ⟨t16,by rw [et16,List.length_map],?_⟩
 rfl
 refine DN' h5 (fun e=>n' e rfl) fun t17 h6=>?_
 refine D' rfl (D' rfl ?_)
 rcases t17 with _ | _
 have h7:=bif_f h6
 refine D' rfl (D' rfl ?_)
 refine DC' h7 (fun e=>Z' (Ref7.Count_ok e) rfl) fun _ h8=>?_
 refine D' rfl (D' rfl ?_)
 obtain ⟨t25,et25,h9⟩:=letk_elim h8
 refine DNodeB.of (J t25) ?_ ?_
 refine Nm.mk ⟨t25,by rw [et25,List.length_map],?_⟩
 rfl
 refine DN' h9 (fun e=>n' e rfl) fun t26 h10=>?_
 refine D' rfl ?_
 rcases t26 with _ | _
 have h11:=bif_f h10
 exact B' [0] ⟨_,_,_,h11,rfl⟩
 have h11:=bif_t h10
 exact R' (E:=E1') h11
 have h7:=bif_t h6
 refine D' rfl ?_
 exact R' (E:=E1') h7
 have h4:=bif_t h3
 refine D' rfl (D' rfl (D' rfl ?_))
 exact R' (E:=E1') h4
 have h2:=bif_t h1
 refine D' rfl (D' rfl (D' rfl (D' rfl (D' rfl ?_))))
 exact R' (E:=E1') h2
 rintro s ⟨a1_0,a1_1,a1_2,hj0,rfl⟩
 unfold Ref7.Valid.j0 at hj0
 unfold Ref7.Valid.l0 at hj0
 refine LoopB.of (σ:=Int × (List Int) × (List Int) × Int) (ρ:=Bool) (fun v:Int × (List Int) × (List Int) × Int=>Ref7.Valid.s0 v.1 v.2.1 v.2.2.1 v.2.2.2) (fun v=>(⟨66,[(1,.ptr 0 0),(3,J v.2.2.2)],[.box [J v.1,VI' v.2.1,VI' v.2.2.1]]⟩:St)) (a1_0,a1_1,a1_2,0) hj0 (B' [0] rfl) ?_
 rintro K1 ⟨a1_0_1,a1_1_1,a1_2_1,i3⟩ x1 hs0_0 hl1 hr1
 replace hs0_0:Ref7.Valid.s0 a1_0_1 a1_1_1 a1_2_1 i3 = some x1:=hs0_0
 unfold Ref7.Valid.s0 at hs0_0
 obtain ⟨t31,et31,hs0_1⟩:=letk_elim hs0_0
 refine Nm.mk ⟨t31,by rw [et31,List.length_map],?_⟩
 refine C' hs0_1 (fun hs0_3=>?_) fun hs0_3=>?_
 obtain ⟨_,hs0_3u,ehs0_3_0⟩:=map_elim hs0_3
 have ehs0_3_0:=(hr1 _ ehs0_3_0.symm).symm
 subst ehs0_3_0
 unfold Ref7.Valid.l1 at hs0_3u
 refine LoopB.of (σ:=Int × (List Int) × (List Int) × Int) (ρ:=Bool) (fun v:Int × (List Int) × (List Int) × Int=>Ref7.Valid.s1 v.1 v.2.1 v.2.2.1 v.2.2.2) (fun v=>(⟨66,[(1,.ptr 0 0),(4,J v.2.2.2)],[.box [J v.1,VI' v.2.1,VI' v.2.2.1]]⟩:St)) (a1_0_1,a1_1_1,a1_2_1,0) hs0_3u (B' [0] rfl) ?_
 rintro _ ⟨a1_0_2,a1_1_2,a1_2_2,i4⟩ x1 hs1_0 hl1 hr1
 replace hs1_0:Ref7.Valid.s1 a1_0_2 a1_1_2 a1_2_2 i4 = some x1:=hs1_0
 unfold Ref7.Valid.s1 at hs1_0
 obtain ⟨t52,et52,hs1_1⟩:=letk_elim hs1_0
 refine Nm.mk ⟨t52,by rw [et52,List.length_map],?_⟩
 refine C' hs1_1 (fun hs1_3=>?_) fun hs1_3=>?_
 have ehs1_3u_0:=hr1 _ (Option.some.inj hs1_3).symm
 have hs1_3u:=congrArg some ehs1_3u_0
 exact R' (E:=E1') hs1_3u
 refine DrawB.ofG [none,none,none,none,none,none,none,none,none,none] Tryz_mixed (by kernel_rfl) (by kernel_rfl) ?_
 refine D' rfl (D' rfl (D' rfl (D' rfl (D' rfl ?_))))
 obtain ⟨chs1_4,hs1_4⟩:=chk_elim hs1_3
 obtain ⟨t61,et61,hs1_5⟩:=bind_elim hs1_4
 refine DNodeB.of (.iptr (J t61)) ?_ ?_
 refine Side.mk chs1_4 ?_
 refine At.by et61 ?_
 rfl
 refine D' rfl ?_
 refine DNodeB.of (.agg [J a1_0_2,J t61]) ?_ ?_
 refine V' ?_
 rfl
 refine DC' hs1_5 (fun e=>Z' (Ref7.IsValue_ok e) rfl) fun _ hs1_6=>?_
 refine DN' hs1_6 (fun e=>n' e rfl) fun t65 hs1_7=>?_
 rcases t65 with _ | _
 have hs1_8:=bif_f hs1_7
 refine N' hs1_8 fun _ hs1_9=>?_
 exact B' [0] ⟨_,hl1 _ (Option.some.inj hs1_9).symm,rfl⟩
 have hs1_8:=bif_t hs1_7
 have ehs1_8_0:=hr1 _ (Option.some.inj hs1_8).symm
 subst ehs1_8_0
 exact Returns.pure (r:=.lit (.bool false)) rfl rfl rfl rfl ⟨rfl,rfl⟩
 obtain ⟨chs0_4,hs0_4⟩:=chk_elim hs0_3
 obtain ⟨_,et38,hs0_5⟩:=bind_elim hs0_4
 refine Side.mk chs0_4 ?_
 refine At.by et38 ?_
 refine C' hs0_5 (fun hs0_7=>?_) fun hs0_7=>?_
 obtain ⟨chs0_8,hs0_8⟩:=chk_elim hs0_7
 obtain ⟨_,et45,hs0_9⟩:=bind_elim hs0_8
 refine Side.mk chs0_8 ?_
 refine At.by et45 ?_
 refine C' hs0_9 (fun hs0_11=>?_) fun hs0_11=>?_
 refine N' hs0_11 fun _ hs0_12=>?_
 exact B' [0] ⟨_,hl1 _ (Option.some.inj hs0_12).symm,rfl⟩
 have ehs0_11_0:=hr1 _ (Option.some.inj hs0_11).symm
 subst ehs0_11_0
 exact Returns.pure (r:=.lit (.bool false)) rfl rfl rfl rfl ⟨rfl,rfl⟩
 have ehs0_7_0:=hr1 _ (Option.some.inj hs0_7).symm
 subst ehs0_7_0
 exact Returns.pure (r:=.lit (.bool false)) rfl rfl rfl rfl ⟨rfl,rfl⟩
noncomputable def Ref7.isKind (kind0:Int):Option Bool :=
 letk (decide (kind0 ≥ (1:Int))) fun t4 =>
 bif t4 then
 letk (decide (kind0 ≤ (4:Int))) fun t7 =>
 some t7
 else
 some false
theorem Ref7.isKind_ok {kind0:Int} {r:Bool} (h0:Ref7.isKind kind0 = some r):Gives Tryz.prog 71 [J kind0] (.lit (.bool r)):=by
 unfold Ref7.isKind at h0
 refine W' [] Tryz.func71 ?_
 refine C' h0 (fun h2=>?_) fun h2=>?_
 exact R' (E:=E1') h2
 refine N' h2 fun _ h3=>?_
 exact R' (E:=E1') h3
noncomputable def Ref7.isNumber (kind0:Int):Option Bool :=
 letk (kind0 == (1:Int)) fun t4 =>
 bif t4 then
 some true
 else
 letk (kind0 == (3:Int)) fun t7 =>
 bif t7 then
 some true
 else
 letk (kind0 == (4:Int)) fun t11 =>
 some t11
theorem Ref7.isNumber_ok {kind0:Int} {r:Bool} (h0:Ref7.isNumber kind0 = some r):Gives Tryz.prog 72 [J kind0] (.lit (.bool r)):=by
 unfold Ref7.isNumber at h0
 refine W' [] Tryz.func72 ?_
 refine C' h0 (fun h2=>?_) fun h2=>?_
 refine C' h2 (fun h4=>?_) fun h4=>?_
 refine N' h4 fun _ h5=>?_
 exact R' (E:=E1') h5
 exact R' (E:=E1') h4
 exact R' (E:=E1') h2
noncomputable def Ref7.Kind.j6 (op0:ByteArray) (a1 b2:Int) (t66:Bool):Option Int :=
 bif t66 then
 letk (a1 == (2:Int)) fun t70 =>
 bif t70 then
 letk (b2 == (2:Int)) fun t73 =>
 bif t73 then
 some 2
 else
 some 0
 else
 some 0
 else
 letk (op0.toList == (⟨#[46,110,111,116,46]⟩:ByteArray).toList) fun t76 =>
 bif t76 then
 letk (a1 == (2:Int)) fun t78 =>
 bif t78 then
 letk (b2 == (0:Int)) fun t81 =>
 bif t81 then
 some 2
 else
 some 0
 else
 some 0
 else
 some 0
noncomputable def Ref7.Kind.j5 (op0:ByteArray) (a1 b2:Int) (numbers7_4 t60:Bool):Option Int :=
 bif t60 then
 bif numbers7_4 then
 some 2
 else
 some 0
 else
 letk (op0.toList == (⟨#[46,97,110,100,46]⟩:ByteArray).toList) fun t67 =>
 bif t67 then
 Ref7.Kind.j6 op0 a1 b2 true
 else
 letk (op0.toList == (⟨#[46,111,114,46]⟩:ByteArray).toList) fun t68 =>
 Ref7.Kind.j6 op0 a1 b2 t68
noncomputable def Ref7.Kind.j4 (op0:ByteArray) (a1 b2:Int) (numbers7_3 t48:Bool):Option Int :=
 bif t48 then
 bif numbers7_3 then
 some 2
 else
 letk (a1 == (2:Int)) fun t54 =>
 bif t54 then
 letk (b2 == (2:Int)) fun t57 =>
 bif t57 then
 some 2
 else
 some 0
 else
 some 0
 else
 letk (op0.toList == (⟨#[60]⟩:ByteArray).toList) fun t61 =>
 bif t61 then
 Ref7.Kind.j5 op0 a1 b2 numbers7_3 true
 else
 letk (op0.toList == (⟨#[60,61]⟩:ByteArray).toList) fun t62 =>
 bif t62 then
 Ref7.Kind.j5 op0 a1 b2 numbers7_3 true
 else
 letk (op0.toList == (⟨#[62]⟩:ByteArray).toList) fun t63 =>
 bif t63 then
 Ref7.Kind.j5 op0 a1 b2 numbers7_3 true
 else
 letk (op0.toList == (⟨#[62,61]⟩:ByteArray).toList) fun t64 =>
 Ref7.Kind.j5 op0 a1 b2 numbers7_3 t64
noncomputable def Ref7.Kind.j3 (op0:ByteArray) (a1 b2:Int) (numbers7_2 t41:Bool):Option Int :=
 bif t41 then
 bif numbers7_2 then
 letk (if b2 > a1 then b2 else a1) fun t47 =>
 some t47
 else
 some 0
 else
 letk (op0.toList == (⟨#[61,61]⟩:ByteArray).toList) fun t49 =>
 bif t49 then
 Ref7.Kind.j4 op0 a1 b2 numbers7_2 true
 else
 letk (op0.toList == (⟨#[47,61]⟩:ByteArray).toList) fun t50 =>
 Ref7.Kind.j4 op0 a1 b2 numbers7_2 t50
noncomputable def Ref7.Kind.j2 (op0:ByteArray) (a1 b2:Int) (numbers7_1 t27:Bool):Option Int :=
 bif t27 then
 letk (b2 == (0:Int)) fun t31 =>
 bif t31 then
 Option.bind (Ref7.isNumber a1) fun t34 =>
 bif t34 then
 some a1
 else
 bif numbers7_1 then
 letk (if b2 > a1 then b2 else a1) fun t40_1 =>
 some t40_1
 else
 some 0
 else
 bif numbers7_1 then
 letk (if b2 > a1 then b2 else a1) fun t40 =>
 some t40
 else
 some 0
 else
 letk (op0.toList == (⟨#[42]⟩:ByteArray).toList) fun t42 =>
 bif t42 then
 Ref7.Kind.j3 op0 a1 b2 numbers7_1 true
 else
 letk (op0.toList == (⟨#[47]⟩:ByteArray).toList) fun t43 =>
 Ref7.Kind.j3 op0 a1 b2 numbers7_1 t43
noncomputable def Ref7.Kind.j1 (op0:ByteArray) (a1 b2:Int) (numbers7:Bool):Option Int :=
 letk (op0.toList == (⟨#[43]⟩:ByteArray).toList) fun t28 =>
 bif t28 then
 Ref7.Kind.j2 op0 a1 b2 numbers7 true
 else
 letk (op0.toList == (⟨#[45]⟩:ByteArray).toList) fun t29 =>
 Ref7.Kind.j2 op0 a1 b2 numbers7 t29
noncomputable def Ref7.Kind.j0 (op0:ByteArray) (a1 b2:Int):Option Int :=
 Option.bind (Ref7.isNumber a1) fun t21 =>
 bif t21 then
 Option.bind (Ref7.isNumber b2) fun t24 =>
 Ref7.Kind.j1 op0 a1 b2 t24
 else
 Ref7.Kind.j1 op0 a1 b2 false
noncomputable def Ref7.Kind (op0:ByteArray) (a1 b2:Int):Option Int :=
 Option.bind (Ref7.isKind a1) fun t9 =>
 letk (!t9) fun t10 =>
 bif t10 then
 some 0
 else
 letk (b2 != (0:Int)) fun t13 =>
 bif t13 then
 Option.bind (Ref7.isKind b2) fun t16 =>
 letk (!t16) fun t17 =>
 bif t17 then
 some 0
 else
 Ref7.Kind.j0 op0 a1 b2
 else
 Ref7.Kind.j0 op0 a1 b2
theorem Ref7.Kind_ok {op0:ByteArray} {a1 b2 r:Int} (h0:Ref7.Kind op0 a1 b2 = some r):Gives Tryz.prog 32 [.lit (.string op0),J a1,J b2] (J r):=by
 unfold Ref7.Kind at h0
 refine W' [(0,3),(0,4),(37,15),(51,27),(58,35),(70,47),(76,55)] Tryz.func32 ?_
 refine CutN.of (fun s=>Ref7.Kind.j0 op0 a1 b2 = some r ∧ s = ⟨83,[(0,.lit (.string op0)),(1,J a1),(2,J b2)],[]⟩) ?_ ?_
 refine Gate.go (A' h0 Ref7.isKind_ok fun _ h1=>?_)
 refine C' h1 (fun h3=>?_) fun h3=>?_
 refine C' h3 (fun h5=>?_) fun h5=>?_
 exact B' [] ⟨h5,rfl⟩
 refine Gate.go (A' h5 Ref7.isKind_ok fun _ h6=>?_)
 refine C' h6 (fun h8=>?_) fun h8=>?_
 exact B' [] ⟨h8,rfl⟩
 exact R' (E:=E2') h8
 exact R' (E:=E2') h3
 rintro s ⟨hj0,rfl⟩
 unfold Ref7.Kind.j0 at hj0
 refine CutN.of (fun s=>∃ numbers7,Ref7.Kind.j1 op0 a1 b2 numbers7 = some r ∧ s = ⟨83,[(0,.lit (.string op0)),(1,J a1),(2,J b2),(7,.lit (.bool numbers7))],[]⟩) ?_ ?_
 refine Gate.go (A' hj0 Ref7.isNumber_ok fun t21 hj1=>?_)
 rcases t21 with _ | _
 have hj2:=bif_f hj1
 exact B' [] ⟨_,hj2,rfl⟩
 have hj2:=bif_t hj1
 refine Gate.go (A' hj2 Ref7.isNumber_ok fun _ hj3=>?_)
 exact B' [] ⟨_,hj3,rfl⟩
 rintro s ⟨_,hj0,rfl⟩
 unfold Ref7.Kind.j1 at hj0
 refine CutN.of (fun s=>∃ numbers7_1 t27,Ref7.Kind.j2 op0 a1 b2 numbers7_1 t27 = some r ∧ s = ⟨83,[(1,J a1),(2,J b2),(7,.lit (.bool numbers7_1)),(26,.lit (.string op0)),(27,.lit (.bool t27))],[]⟩) ?_ ?_
 refine C' hj0 (fun hj2=>?_) fun hj2=>?_
 refine N' hj2 fun _ hj3=>?_
 exact B' [] ⟨_,_,hj3,rfl⟩
 exact B' [] ⟨_,_,hj2,rfl⟩
 rintro s ⟨numbers7_1,t27,hj0,rfl⟩
 unfold Ref7.Kind.j2 at hj0
 rcases t27 with _ | _
 have hj1:=bif_f hj0
 refine CutN.of (fun s=>∃ numbers7_2 t41,Ref7.Kind.j3 op0 a1 b2 numbers7_2 t41 = some r ∧ s = ⟨83,[(1,J a1),(2,J b2),(7,.lit (.bool numbers7_2)),(26,.lit (.string op0)),(41,.lit (.bool t41))],[]⟩) ?_ ?_
 refine C' hj1 (fun hj3=>?_) fun hj3=>?_
 refine N' hj3 fun _ hj4=>?_
 exact B' [] ⟨_,_,hj4,rfl⟩
 exact B' [] ⟨_,_,hj3,rfl⟩
 rintro s ⟨numbers7_2,t41,hj0,rfl⟩
 unfold Ref7.Kind.j3 at hj0
 rcases t41 with _ | _
 have hj1:=bif_f hj0
 refine CutN.of (fun s=>∃ numbers7_3 t48,Ref7.Kind.j4 op0 a1 b2 numbers7_3 t48 = some r ∧ s = ⟨83,[(1,J a1),(2,J b2),(7,.lit (.bool numbers7_3)),(26,.lit (.string op0)),(48,.lit (.bool t48))],[]⟩) ?_ ?_
 refine C' hj1 (fun hj3=>?_) fun hj3=>?_
 refine N' hj3 fun _ hj4=>?_
 exact B' [] ⟨_,_,hj4,rfl⟩
 exact B' [] ⟨_,_,hj3,rfl⟩
 rintro s ⟨numbers7_3,t48,hj0,rfl⟩
 unfold Ref7.Kind.j4 at hj0
 rcases t48 with _ | _
 have hj1:=bif_f hj0
 refine CutN.of (fun s=>∃ numbers7_4 t60,Ref7.Kind.j5 op0 a1 b2 numbers7_4 t60 = some r ∧ s = ⟨83,[(1,J a1),(2,J b2),(7,.lit (.bool numbers7_4)),(26,.lit (.string op0)),(60,.lit (.bool t60))],[]⟩) ?_ ?_
 refine C' hj1 (fun hj3=>?_) fun hj3=>?_
 refine C' hj3 (fun hj5=>?_) fun hj5=>?_
 refine C' hj5 (fun hj7=>?_) fun hj7=>?_
 refine N' hj7 fun _ hj8=>?_
 exact B' [] ⟨_,_,hj8,rfl⟩
 exact B' [] ⟨_,_,hj7,rfl⟩
 exact B' [] ⟨_,_,hj5,rfl⟩
 exact B' [] ⟨_,_,hj3,rfl⟩
 rintro s ⟨numbers7_4,t60,hj0,rfl⟩
 unfold Ref7.Kind.j5 at hj0
 rcases t60 with _ | _
 have hj1:=bif_f hj0
 refine CutN.of (fun s=>∃ t66,Ref7.Kind.j6 op0 a1 b2 t66 = some r ∧ s = ⟨83,[(1,J a1),(2,J b2),(26,.lit (.string op0)),(66,.lit (.bool t66))],[]⟩) ?_ ?_
 refine C' hj1 (fun hj3=>?_) fun hj3=>?_
 refine N' hj3 fun _ hj4=>?_
 exact B' [] ⟨_,hj4,rfl⟩
 exact B' [] ⟨_,hj3,rfl⟩
 rintro s ⟨t66,hj0,rfl⟩
 unfold Ref7.Kind.j6 at hj0
 rcases t66 with _ | _
 have hj1:=bif_f hj0
 refine C' hj1 (fun hj3=>?_) fun hj3=>?_
 exact R' (E:=E2') hj3
 refine C' hj3 (fun hj5=>?_) fun hj5=>?_
 exact R' (E:=E2') hj5
 refine C' hj5 (fun hj7=>?_) fun hj7=>?_
 exact R' (E:=E2') hj7
 exact R' (E:=E2') hj7
 have hj1:=bif_t hj0
 refine C' hj1 (fun hj3=>?_) fun hj3=>?_
 exact R' (E:=E2') hj3
 refine C' hj3 (fun hj5=>?_) fun hj5=>?_
 exact R' (E:=E2') hj5
 exact R' (E:=E2') hj5
 have hj1:=bif_t hj0
 rcases numbers7_4 with _ | _
 have hj2:=bif_f hj1
 exact R' (E:=E2') hj2
 have hj2:=bif_t hj1
 exact R' (E:=E2') hj2
 have hj1:=bif_t hj0
 rcases numbers7_3 with _ | _
 have hj2:=bif_f hj1
 refine C' hj2 (fun hj4=>?_) fun hj4=>?_
 exact R' (E:=E2') hj4
 refine C' hj4 (fun hj6=>?_) fun hj6=>?_
 exact R' (E:=E2') hj6
 exact R' (E:=E2') hj6
 have hj2:=bif_t hj1
 exact R' (E:=E2') hj2
 have hj1:=bif_t hj0
 rcases numbers7_2 with _ | _
 have hj2:=bif_f hj1
 exact R' (E:=E2') hj2
 have hj2:=bif_t hj1
 refine N' hj2 fun _ hj3=>?_
 exact R' (E:=E2') hj3
 have hj1:=bif_t hj0
 refine C' hj1 (fun hj3=>?_) fun hj3=>?_
 rcases numbers7_1 with _ | _
 have hj4:=bif_f hj3
 exact R' (E:=E2') hj4
 have hj4:=bif_t hj3
 refine N' hj4 fun _ hj5=>?_
 exact R' (E:=E2') hj5
 refine Gate.go (A' hj3 Ref7.isNumber_ok fun t34 hj4=>?_)
 rcases t34 with _ | _
 have hj5:=bif_f hj4
 rcases numbers7_1 with _ | _
 have hj6:=bif_f hj5
 exact R' (E:=E2') hj6
 have hj6:=bif_t hj5
 refine N' hj6 fun _ hj7=>?_
 exact R' (E:=E2') hj7
 have hj5:=bif_t hj4
 exact R' (E:=E2') hj5
noncomputable def Ref7.SameShape.s0 (a0 b1:List Int) (i5:Int):Option (Int ⊕ Bool) :=
 letk ((a0.length:Int)) fun t13 =>
 letk (decide (i5 < t13)) fun t14 =>
 bif t14 then
 chk (0 ≤ i5) <|
 Option.bind (a0[i5.toNat]?) fun t19 =>
 chk (0 ≤ i5) <|
 Option.bind (b1[i5.toNat]?) fun t23 =>
 letk (t19 != t23) fun t25 =>
 bif t25 then
 some (.inr false)
 else
 letk (IntKind.i64.wrap (i5 + (1:Int))) fun t16 =>
 some (.inl t16)
 else
 some (.inr true)
noncomputable def Ref7.SameShape.l0 (a0 b1:List Int) (i5:Int):Option Bool:=loopO (fun v:Int=>Ref7.SameShape.s0 a0 b1 v) i5
noncomputable def Ref7.SameShape (a0 b1:List Int):Option Bool :=
 letk ((a0.length:Int)) fun t7 =>
 letk ((b1.length:Int)) fun t9 =>
 letk (t7 != t9) fun t10 =>
 bif t10 then
 some false
 else
 Ref7.SameShape.l0 a0 b1 0
theorem Ref7.SameShape_ok {a0 b1:List Int} {r:Bool} (h0:Ref7.SameShape a0 b1 = some r):Gives Tryz.prog 22 [VI' a0,VI' b1] (.lit (.bool r)):=by
 unfold Ref7.SameShape at h0
 refine W' [] Tryz.func22 ?_
 obtain ⟨t7,et7,h1⟩:=letk_elim h0
 refine Nm.mk ⟨t7,by rw [et7,List.length_map],?_⟩
 obtain ⟨t9,et9,h2⟩:=letk_elim h1
 refine Nm.mk ⟨t9,by rw [et9,List.length_map],?_⟩
 refine C' h2 (fun h4=>?_) fun h4=>?_
 unfold Ref7.SameShape.l0 at h4
 refine LoopB.of (σ:=Int) (ρ:=Bool) (fun v:Int=>Ref7.SameShape.s0 a0 b1 v) (fun v=>(⟨26,[(0,VI' a0),(1,VI' b1),(5,J v)],[]⟩:St)) 0 h4 (B' [] rfl) ?_
 rintro K1 i5 x1 hs0_0 hl1 hr1
 replace hs0_0:Ref7.SameShape.s0 a0 b1 i5 = some x1:=hs0_0
 unfold Ref7.SameShape.s0 at hs0_0
 obtain ⟨t13,et13,hs0_1⟩:=letk_elim hs0_0
 refine Nm.mk ⟨t13,by rw [et13,List.length_map],?_⟩
 refine C' hs0_1 (fun hs0_3=>?_) fun hs0_3=>?_
 have ehs0_3u_0:=hr1 _ (Option.some.inj hs0_3).symm
 have hs0_3u:=congrArg some ehs0_3u_0
 exact R' (E:=E1') hs0_3u
 refine DrawB.ofG [none,none,none,none,none,none,none,none,none] Tryz_mixed (by kernel_rfl) (by kernel_rfl) ?_
 refine D' rfl (D' rfl ?_)
 obtain ⟨chs0_4,hs0_4⟩:=chk_elim hs0_3
 obtain ⟨t19,et19,hs0_5⟩:=bind_elim hs0_4
 refine DNodeB.of (.iptr (J t19)) ?_ ?_
 refine Side.mk chs0_4 ?_
 refine At.by et19 ?_
 rfl
 refine D' rfl (D' rfl (D' rfl ?_))
 obtain ⟨chs0_6,hs0_6⟩:=chk_elim hs0_5
 obtain ⟨t23,et23,hs0_7⟩:=bind_elim hs0_6
 refine DNodeB.of (.iptr (J t23)) ?_ ?_
 refine Side.mk chs0_6 ?_
 refine At.by et23 ?_
 rfl
 refine D' rfl ?_
 refine DN' hs0_7 (fun e=>n' e rfl) fun t25 hs0_8=>?_
 rcases t25 with _ | _
 have hs0_9:=bif_f hs0_8
 refine N' hs0_9 fun _ hs0_10=>?_
 exact B' [] ⟨_,hl1 _ (Option.some.inj hs0_10).symm,rfl⟩
 have hs0_9:=bif_t hs0_8
 have ehs0_9_0:=hr1 _ (Option.some.inj hs0_9).symm
 subst ehs0_9_0
 exact Returns.pure (r:=.lit (.bool false)) rfl rfl rfl rfl ⟨rfl,rfl⟩
 exact R' (E:=E1') h4
noncomputable def Ref7.At.j0 (i1_1 a2_0:Int) (a2_1 a2_2:List Int) (t4_0 t4_1:Int):Option api.Value :=
 chk (0 ≤ i1_1) <|
 Option.bind (a2_2[i1_1.toNat]?) fun t14 =>
 some (⟨a2_0,t14⟩:api.Value)
noncomputable def Ref7.At (a0:api.Array) (i1:Int):Option api.Value :=
 letk ((a0.Shape.length:Int)) fun t7 =>
 letk (t7 == (0:Int)) fun t8 =>
 bif t8 then
 Ref7.At.j0 0 a0.Kind a0.Shape a0.Elems 0 0
 else
 Ref7.At.j0 i1 a0.Kind a0.Shape a0.Elems 0 0
theorem Ref7.At_ok {a0:api.Array} {i1:Int} {r:api.Value} (h0:Ref7.At a0 i1 = some r):Gives Tryz.prog 65 [api.Array.enc a0,J i1] (api.Value.enc r):=by
 unfold Ref7.At at h0
 refine W' [(0,3)] Tryz.func65 ?_
 refine V' ?_
 refine V' ?_
 refine CutN.of (fun s=>∃ i1_1 a2_0 a2_1 a2_2 t4_0 t4_1,Ref7.At.j0 i1_1 a2_0 a2_1 a2_2 t4_0 t4_1 = some r ∧ s = ⟨17,[(1,J i1_1),(2,.ptr 0 0),(4,.ptr 1 0)],[.box [J a2_0,VI' a2_1,VI' a2_2],.box [J t4_0,J t4_1]]⟩) ?_ ?_
 obtain ⟨t7,et7,h1⟩:=letk_elim h0
 refine Nm.mk ⟨t7,by rw [et7,List.length_map],?_⟩
 refine C' h1 (fun h3=>?_) fun h3=>?_
 exact B' [0,1] ⟨_,_,_,_,_,_,h3,rfl⟩
 exact B' [0,1] ⟨_,_,_,_,_,_,h3,rfl⟩
 rintro s ⟨i1_1,a2_0,a2_1,a2_2,t4_0,t4_1,hj0,rfl⟩
 unfold Ref7.At.j0 at hj0
 refine DrawB.ofFN 0 [.box [J a2_0,VI' a2_1,VI' a2_2],.box [J t4_0,J t4_1]] 2 2 [[0],[0],[0],[0],[],[],[],[],[1]] [[],[],[],[],[],[],[],[],[1]] [none,none,none,none,none,none,none,none,none] Tryz_mixed (by kernel_rfl) rfl rfl rfl (by kernel_rfl) ?_
 refine FNode.rd (F:=[0]) (W:=[]) (.ptr 0 0) ?_ rfl rfl ?_
 rfl
 refine FNode.rd (F:=[0]) (W:=[]) (J a2_0) ?_ rfl rfl ?_
 rfl
 refine FNode.rd (F:=[0]) (W:=[]) (.ptr 0 2) ?_ rfl rfl ?_
 rfl
 refine FNode.rd (F:=[0]) (W:=[]) (VI' a2_2) ?_ rfl rfl ?_
 rfl
 refine FNode.no (W:=[]) (J i1_1) ?_ rfl ?_
 rfl
 obtain ⟨chj1,hj1⟩:=chk_elim hj0
 obtain ⟨t14,et14,hj2⟩:=bind_elim hj1
 refine FNode.no (W:=[]) (.iptr (J t14)) ?_ rfl ?_
 refine Side.mk chj1 ?_
 refine At.by et14 ?_
 rfl
 refine FNode.no (W:=[]) (J t14) ?_ rfl ?_
 rfl
 refine FNode.no (W:=[]) (.agg [J a2_0,J t14]) ?_ rfl ?_
 refine V' ?_
 rfl
 refine FNode.pl (F:=[1]) (W:=[1]) (.undef) [.box [J a2_0,VI' a2_1,VI' a2_2],.box [J a2_0,J t14]] ?_ rfl rfl rfl rfl ?_
 refine V' ?_
 rfl
 exact R' (E:=E11') hj2
noncomputable def Ref1.Digits (kind0:Int):Option Int :=
 letk (kind0 == (2:Int)) fun t5 =>
 bif t5 then
 some 11
 else
 letk (kind0 == (4:Int)) fun t7 =>
 bif t7 then
 some 24
 else
 letk (kind0 == (8:Int)) fun t9 =>
 bif t9 then
 some 53
 else
 some 0
theorem Ref1.Digits_ok {kind0 r:Int} (h0:Ref1.Digits kind0 = some r):Gives Tryz.prog 160 [J kind0] (J r):=by
 unfold Ref1.Digits at h0
 refine W' [] Tryz.func160 ?_
 refine C' h0 (fun h2=>?_) fun h2=>?_
 refine C' h2 (fun h4=>?_) fun h4=>?_
 refine C' h4 (fun h6=>?_) fun h6=>?_
 exact R' (E:=E2') h6
 exact R' (E:=E2') h6
 exact R' (E:=E2') h4
 exact R' (E:=E2') h2
noncomputable def Ref1.IsMode (mode0:Int):Option Bool :=
 letk (decide (mode0 ≥ (0:Int))) fun t4 =>
 bif t4 then
 letk (decide (mode0 ≤ (3:Int))) fun t7 =>
 some t7
 else
 some false
theorem Ref1.IsMode_ok {mode0:Int} {r:Bool} (h0:Ref1.IsMode mode0 = some r):Gives Tryz.prog 170 [J mode0] (.lit (.bool r)):=by
 unfold Ref1.IsMode at h0
 refine W' [] Tryz.func170 ?_
 refine C' h0 (fun h2=>?_) fun h2=>?_
 exact R' (E:=E1') h2
 refine N' h2 fun _ h3=>?_
 exact R' (E:=E1') h3
noncomputable def Ref1.bits (kind0 sign1 e2 f3:Int):Option Int :=
 Option.bind (Ref1.Digits kind0) fun t11 =>
 letk (IntKind.u64.wrap sign1) fun t13 =>
 letk (IntKind.i64.wrap ((8:Int) * kind0)) fun t15 =>
 letk (IntKind.i64.wrap (t15 - (1:Int))) fun t16 =>
 chk (0 ≤ t16) <|
 letk (IntKind.u64.wrap (t13 * 2 ^ (min t16.toNat (IntKind.u64).bits))) fun t17 =>
 letk (IntKind.u64.wrap e2) fun t19 =>
 letk (IntKind.i64.wrap (t11 - (1:Int))) fun t21 =>
 chk (0 ≤ t21) <|
 letk (IntKind.u64.wrap (t19 * 2 ^ (min t21.toNat (IntKind.u64).bits))) fun t22 =>
 letk (IntKind.u64.wrap (BitVec.ofInt (IntKind.u64).bits t17 ||| BitVec.ofInt (IntKind.u64).bits t22).toNat) fun t23 =>
 letk (IntKind.u64.wrap f3) fun t25 =>
 letk (IntKind.u64.wrap (BitVec.ofInt (IntKind.u64).bits t23 ||| BitVec.ofInt (IntKind.u64).bits t25).toNat) fun t26 =>
 letk (IntKind.i64.wrap t26) fun t27 =>
 some t27
theorem Ref1.bits_ok {kind0 sign1 e2 f3 r:Int} (h0:Ref1.bits kind0 sign1 e2 f3 = some r):Gives Tryz.prog 183 [J kind0,J sign1,J e2,J f3] (J r):=by
 unfold Ref1.bits at h0
 refine W' [] Tryz.func183 ?_
 refine Gate.go (A' h0 Ref1.Digits_ok fun _ h1=>?_)
 refine L' [] [0,1,2,3,9] ?_
 refine DrawB.ofG [none,none,none,none,none,none,none,none,none,none,none,none,none,none,none,none,none] Tryz_mixed (by kernel_rfl) (by kernel_rfl) ?_
 refine D' rfl ?_
 refine DN' h1 (fun e=>n' e rfl) fun _ h2=>?_
 refine D' rfl ?_
 refine DN' h2 (fun e=>n' e rfl) fun _ h3=>?_
 refine DN' h3 (fun e=>n' e rfl) fun _ h4=>?_
 refine DS' h4 (fun c e=>Side.mk c (n' e rfl)) fun _ h6=>?_
 refine D' rfl ?_
 refine DN' h6 (fun e=>n' e rfl) fun _ h7=>?_
 refine D' rfl ?_
 refine DN' h7 (fun e=>n' e rfl) fun _ h8=>?_
 refine DS' h8 (fun c e=>Side.mk c (n' e rfl)) fun _ h10=>?_
 refine DN' h10 (fun e=>n' e rfl) fun _ h11=>?_
 refine D' rfl ?_
 refine DN' h11 (fun e=>n' e rfl) fun _ h12=>?_
 refine DN' h12 (fun e=>n' e rfl) fun _ h13=>?_
 refine DN' h13 (fun e=>n' e rfl) fun _ h14=>?_
 refine D' rfl ?_
 exact R' (E:=E2') h14
noncomputable def Ref1.Zero (kind0 sign1:Int):Option Int :=
 Option.bind (Ref1.bits kind0 sign1 0 0) fun t7 =>
 some t7
theorem Ref1.Zero_ok {kind0 sign1 r:Int} (h0:Ref1.Zero kind0 sign1 = some r):Gives Tryz.prog 155 [J kind0,J sign1] (J r):=by
 unfold Ref1.Zero at h0
 refine W' [] Tryz.func155 ?_
 refine Gate.go (A' h0 Ref1.bits_ok fun _ h1=>?_)
 exact R' (E:=E2') h1
noncomputable def Ref1.Of.s0 (out3:List Int) (u4:Int):Option (((List Int) × Int) ⊕ ((List Int))) :=
 letk (decide (u4 > (0:Int))) fun t8 =>
 bif t8 then
 chk ((2:Int) ≠ 0) <|
 letk (u4.tmod (2:Int)) fun t13 =>
 letk (IntKind.u8.wrap t13) fun t14 =>
 chk ((out3.length + ([t14]).length) * 1 ≤ 140737488355328) <|
 letk (out3 ++ ([t14])) fun t16 =>
 chk ((2:Int) ≠ 0) <|
 letk (IntKind.u64.wrap (u4.tdiv (2:Int))) fun t10 =>
 some (.inl (t16,t10))
 else
 some (.inr out3)
noncomputable def Ref1.Of.l0 (out3:List Int) (u4:Int):Option ((List Int)):=loopO (fun v:(List Int) × Int=>Ref1.Of.s0 v.1 v.2) (out3,u4)
noncomputable def Ref1.Of (n0:Int):Option ((List Int)) :=
 letk (IntKind.u64.wrap n0) fun t6 =>
 Ref1.Of.l0 ([]) t6
theorem Ref1.Of_ok {n0:Int} {r:(List Int)} (h0:Ref1.Of n0 = some r):Gives Tryz.prog 171 [J n0] (.vs 1 (r.map (eI .u8))):=by
 unfold Ref1.Of at h0
 refine W' [] Tryz.func171 ?_
 refine N' h0 fun t6 h1=>?_
 unfold Ref1.Of.l0 at h1
 refine LoopB.of (σ:=(List Int) × Int) (ρ:=(List Int)) (fun v:(List Int) × Int=>Ref1.Of.s0 v.1 v.2) (fun v=>(⟨18,[(3,.ref 0 0 ((v.1.map (eI .u8)).length)),(4,U v.2)],[.arr 1 (v.1.map (eI .u8))]⟩:St)) ([],t6) h1 (BackS.by rfl (Sees.of (Weak.objs (keep:=[]) (frz:=[]) (m:=1) rfl (by decide) rfl rfl ⟨rfl,fun _ ho=>by simp only [List.mem_cons,List.not_mem_nil,or_false] at ho; exact ⟨_,ho⟩⟩ ⟨(.nilsRef 0 (by decide) (by decide)),.s,trivial⟩))) ?_
 rintro _ ⟨out3,u4⟩ x1 hs0_0 hl1 hr1
 replace hs0_0:Ref1.Of.s0 out3 u4 = some x1:=hs0_0
 unfold Ref1.Of.s0 at hs0_0
 refine C' hs0_0 (fun hs0_2=>?_) fun hs0_2=>?_
 have ehs0_2u_0:=hr1 _ (Option.some.inj hs0_2).symm
 have hs0_2u:=congrArg some ehs0_2u_0
 have ehs0_2u_0:=Option.some.inj hs0_2u
 subst ehs0_2u_0
 exact Returns.frozen (r:=.vs 1 (out3.map (eI .u8))) [0] rfl rfl (WV.all (k:=0) (by decide) rfl) ⟨rfl,rfl⟩
 refine S' hs0_2 fun hs0_3=>?_
 refine N' hs0_3 fun _ hs0_4=>?_
 refine N' hs0_4 fun t14 hs0_5=>?_
 refine Gate.go ?_
 refine Nm.mk ⟨([t14]).map (eI .u8),rfl,?_⟩
 obtain ⟨chs0_6,hs0_6⟩:=chk_elim hs0_5
 obtain ⟨t16,et16,hs0_7⟩:=letk_elim hs0_6
 refine Gate.go ?_
 refine Side.mk (full_le _) ?_
 refine Side.mk ⟨full_le _,one_map (fun _ _ hc=>by simp only [AV.cells,List.mem_singleton] at hc; subst hc; rfl)⟩ ?_
 refine Side.mk (side_rr (by decide) chs0_6) ?_
 refine Nm.mk ⟨t16.map (eI .u8),by rw [et16]; exact app_rr (m:=[t14]),?_⟩
 refine S' hs0_7 fun hs0_8=>?_
 refine N' hs0_8 fun _ hs0_9=>?_
 exact B' [2] ⟨_,hl1 _ (Option.some.inj hs0_9).symm,rfl⟩
noncomputable def Ref1.Up (a0:List Int) (n1:Int):Option ((List Int)) :=
 letk ((a0.length:Int)) fun t6 =>
 letk (t6 == (0:Int)) fun t7 =>
 bif t7 then
 some ([])
 else
 chk (0 ≤ n1 ∧ n1 ≤ n1 ∧ n1 ≤ 9223372036854775807 ∧ 1 * n1 ≤ 140737488355328) <|
 letk ((List.replicate n1.toNat 0:List Int)) fun t9 =>
 chk ((t9.length + a0.length) * 1 ≤ 140737488355328) <|
 letk (t9 ++ a0) fun t11 =>
 some t11
theorem Ref1.Up_ok {a0:List Int} {n1:Int} {r:(List Int)} (h0:Ref1.Up a0 n1 = some r):Gives Tryz.prog 151 [.vs 1 (a0.map (eI .u8)),J n1] (.vs 1 (r.map (eI .u8))):=by
 unfold Ref1.Up at h0
 refine W' [] Tryz.func151 ?_
 obtain ⟨t6,et6,h1⟩:=letk_elim h0
 refine Nm.mk ⟨t6,by rw [et6,List.length_map],?_⟩
 refine C' h1 (fun h3=>?_) fun h3=>?_
 refine S' h3 fun h4=>?_
 obtain ⟨t9,et9,h5⟩:=letk_elim h4
 refine Nm.mk ⟨t9.map (eI .u8),by rw [et9,List.map_replicate]; rfl,?_⟩
 obtain ⟨ch6,h6⟩:=chk_elim h5
 obtain ⟨t11,et11,h7⟩:=letk_elim h6
 refine Gate.go ?_
 refine Side.mk (full_le _) ?_
 refine Side.mk (one_map (fun _ _ hc=>by simp only [AV.cells,List.mem_singleton] at hc; subst hc; rfl)) ?_
 refine Side.mk (side_rv (by decide) ch6) ?_
 refine Nm.mk ⟨t11.map (eI .u8),by rw [et11]; exact app_rv,?_⟩
 have eh7_0:=Option.some.inj h7
 subst eh7_0
 exact Returns.frozen (r:=.vs 1 (t11.map (eI .u8))) [1] rfl rfl (WV.all (k:=1) (by decide) rfl) ⟨rfl,rfl⟩
 have eh3_0:=Option.some.inj h3
 subst eh3_0
 exact Returns.frozen (r:=.vs 1 (([]).map (eI .u8))) [] rfl rfl (.nilsVs _) ⟨rfl,rfl⟩
noncomputable def Ref1.Bias (kind0:Int):Option Int :=
 letk (kind0 == (2:Int)) fun t5 =>
 bif t5 then
 some 15
 else
 letk (kind0 == (4:Int)) fun t7 =>
 bif t7 then
 some 127
 else
 some 1023
theorem Ref1.Bias_ok {kind0 r:Int} (h0:Ref1.Bias kind0 = some r):Gives Tryz.prog 197 [J kind0] (J r):=by
 unfold Ref1.Bias at h0
 refine W' [] Tryz.func197 ?_
 refine C' h0 (fun h2=>?_) fun h2=>?_
 refine C' h2 (fun h4=>?_) fun h4=>?_
 exact R' (E:=E2') h4
 exact R' (E:=E2') h4
 exact R' (E:=E2') h2
noncomputable def Ref1.least (kind0:Int):Option Int :=
 Option.bind (Ref1.Bias kind0) fun t4 =>
 letk (IntKind.i64.wrap ((2:Int) - t4)) fun t5 =>
 Option.bind (Ref1.Digits kind0) fun t7 =>
 letk (IntKind.i64.wrap (t5 - t7)) fun t8 =>
 some t8
theorem Ref1.least_ok {kind0 r:Int} (h0:Ref1.least kind0 = some r):Gives Tryz.prog 196 [J kind0] (J r):=by
 unfold Ref1.least at h0
 refine W' [] Tryz.func196 ?_
 refine Gate.go (A' h0 Ref1.Bias_ok fun _ h1=>?_)
 refine N' h1 fun _ h2=>?_
 refine Gate.go (A' h2 Ref1.Digits_ok fun _ h3=>?_)
 refine N' h3 fun _ h4=>?_
 exact R' (E:=E2') h4
noncomputable def Ref1.Down (a0:List Int) (n1:Int):Option ((List Int)) :=
 letk ((a0.length:Int)) fun t7 =>
 letk (decide (n1 ≥ t7)) fun t8 =>
 bif t8 then
 some ([])
 else
 chk (0 ≤ n1 ∧ n1 ≤ (a0.length:Int)) <|
 letk ((a0.drop n1.toNat).take (a0.length - n1.toNat)) fun t12 =>
 chk (((([]:List Int)).length + t12.length) * 1 ≤ 140737488355328) <|
 letk ((([]:List Int)) ++ t12) fun t13 =>
 some t13
theorem Ref1.Down_ok {a0:List Int} {n1:Int} {r:(List Int)} (h0:Ref1.Down a0 n1 = some r):Gives Tryz.prog 172 [.vs 1 (a0.map (eI .u8)),J n1] (.vs 1 (r.map (eI .u8))):=by
 unfold Ref1.Down at h0
 refine W' [] Tryz.func172 ?_
 obtain ⟨t7,et7,h1⟩:=letk_elim h0
 refine Nm.mk ⟨t7,by rw [et7,List.length_map],?_⟩
 refine C' h1 (fun h3=>?_) fun h3=>?_
 refine Gate.go ?_
 refine Nm.mk ⟨(([]:List Int)).map (eI .u8),rfl,?_⟩
 obtain ⟨ch4,h4⟩:=chk_elim h3
 obtain ⟨t12,et12,h5⟩:=letk_elim h4
 refine Side.mk (by simpa only [List.length_map] using ch4) ?_
 refine Nm.mk ⟨t12.map (eI .u8),by rw [et12]; simp only [List.map_take,List.map_drop,List.length_map],?_⟩
 obtain ⟨ch6,h6⟩:=chk_elim h5
 obtain ⟨t13,et13,h7⟩:=letk_elim h6
 refine Gate.go ?_
 refine Side.mk (full_le _) ?_
 refine Side.mk (one_map (fun _ _ hc=>by simp only [AV.cells,List.mem_singleton] at hc; subst hc; rfl)) ?_
 refine Side.mk (side_rv (by decide) ch6) ?_
 refine Nm.mk ⟨t13.map (eI .u8),by rw [et13]; exact app_rv,?_⟩
 have eh7_0:=Option.some.inj h7
 subst eh7_0
 exact Returns.frozen (r:=.vs 1 (t13.map (eI .u8))) [1] rfl rfl (WV.all (k:=1) (by decide) rfl) ⟨rfl,rfl⟩
 have eh3_0:=Option.some.inj h3
 subst eh3_0
 exact Returns.frozen (r:=.vs 1 (([]).map (eI .u8))) [] rfl rfl (.nilsVs _) ⟨rfl,rfl⟩
noncomputable def Ref1.digit (a0:List Int) (i1:Int):Option Int :=
 letk (decide (i1 < (0:Int))) fun t6 =>
 bif t6 then
 some 0
 else
 letk ((a0.length:Int)) fun t10 =>
 letk (decide (i1 ≥ t10)) fun t11 =>
 bif t11 then
 some 0
 else
 chk (0 ≤ i1) <|
 Option.bind (a0[i1.toNat]?) fun t15 =>
 some t15
abbrev E15':Int → AV:=fun r=>(.lit (.int .u8 r))
theorem Ref1.digit_ok {a0:List Int} {i1 r:Int} (h0:Ref1.digit a0 i1 = some r):Gives Tryz.prog 174 [.vs 1 (a0.map (eI .u8)),J i1] (.lit (.int .u8 r)):=by
 unfold Ref1.digit at h0
 refine W' [] Tryz.func174 ?_
 refine C' h0 (fun h2=>?_) fun h2=>?_
 obtain ⟨t10,et10,h3⟩:=letk_elim h2
 refine Nm.mk ⟨t10,by rw [et10,List.length_map],?_⟩
 refine C' h3 (fun h5=>?_) fun h5=>?_
 obtain ⟨ch6,h6⟩:=chk_elim h5
 obtain ⟨_,et15,h7⟩:=bind_elim h6
 refine Side.mk ch6 ?_
 refine At.by et15 ?_
 exact R' (E:=E15') h7
 exact R' (E:=E15') h5
 exact R' (E:=E15') h2
noncomputable def Ref1.trim.j0 (a0:List Int) (n3:Int):Option ((List Int)) :=
 chk (0 ≤ n3 ∧ n3 ≤ (a0.length:Int)) <|
 letk ((a0.drop 0).take (n3.toNat - 0)) fun t21 =>
 chk (((([]:List Int)).length + t21.length) * 1 ≤ 140737488355328) <|
 letk ((([]:List Int)) ++ t21) fun t22 =>
 some t22
noncomputable def Ref1.trim.s0 (a0:List Int) (n3_1:Int):Option (Int ⊕ ((List Int))) :=
 letk (decide (n3_1 > (0:Int))) fun t7 =>
 bif t7 then
 letk (IntKind.i64.wrap (n3_1 - (1:Int))) fun t11 =>
 chk (0 ≤ t11) <|
 Option.bind (a0[t11.toNat]?) fun t12 =>
 letk (t12 == (0:Int)) fun t14 =>
 bif t14 then
 letk (IntKind.i64.wrap (n3_1 - (1:Int))) fun t17 =>
 some (.inl t17)
 else
 (Ref1.trim.j0 a0 n3_1).map .inr
 else
 (Ref1.trim.j0 a0 n3_1).map .inr
noncomputable def Ref1.trim.l0 (a0:List Int) (n3_1:Int):Option ((List Int)):=loopO (fun v:Int=>Ref1.trim.s0 a0 v) n3_1
noncomputable def Ref1.trim (a0:List Int):Option ((List Int)) :=
 letk ((a0.length:Int)) fun t5 =>
 Ref1.trim.l0 a0 t5
theorem Ref1.trim_ok {a0:List Int} {r:(List Int)} (h0:Ref1.trim a0 = some r):Gives Tryz.prog 198 [.vs 1 (a0.map (eI .u8))] (.vs 1 (r.map (eI .u8))):=by
 unfold Ref1.trim at h0
 refine W' [(0,4)] Tryz.func198 ?_
 obtain ⟨t5,et5,h1⟩:=letk_elim h0
 refine Nm.mk ⟨t5,by rw [et5,List.length_map],?_⟩
 refine CutN.of (fun s=>∃ n3,Ref1.trim.j0 a0 n3 = some r ∧ s = ⟨23,[(0,.vs 1 (a0.map (eI .u8))),(3,J n3)],[]⟩) ?_ ?_
 unfold Ref1.trim.l0 at h1
 refine LoopB.of (σ:=Int) (ρ:=(List Int)) (fun v:Int=>Ref1.trim.s0 a0 v) (fun v=>(⟨23,[(0,.vs 1 (a0.map (eI .u8))),(3,J v)],[]⟩:St)) t5 h1 (B' [] rfl) ?_
 rintro K1 n3_1 x1 hs0_0 hl1 hr1
 replace hs0_0:Ref1.trim.s0 a0 n3_1 = some x1:=hs0_0
 unfold Ref1.trim.s0 at hs0_0
 refine C' hs0_0 (fun hs0_2=>?_) fun hs0_2=>?_
 obtain ⟨_,hs0_2u,ehs0_2_0⟩:=map_elim hs0_2
 have ehs0_2_0:=(hr1 _ ehs0_2_0.symm).symm
 subst ehs0_2_0
 exact B' [] ⟨_,hs0_2u,rfl⟩
 refine N' hs0_2 fun _ hs0_3=>?_
 obtain ⟨chs0_4,hs0_4⟩:=chk_elim hs0_3
 obtain ⟨_,et12,hs0_5⟩:=bind_elim hs0_4
 refine Side.mk chs0_4 ?_
 refine At.by et12 ?_
 refine C' hs0_5 (fun hs0_7=>?_) fun hs0_7=>?_
 obtain ⟨_,hs0_7u,ehs0_7_0⟩:=map_elim hs0_7
 have ehs0_7_0:=(hr1 _ ehs0_7_0.symm).symm
 subst ehs0_7_0
 exact B' [] ⟨_,hs0_7u,rfl⟩
 refine N' hs0_7 fun _ hs0_8=>?_
 exact B' [] ⟨_,hl1 _ (Option.some.inj hs0_8).symm,rfl⟩
 rintro s ⟨_,hj0,rfl⟩
 unfold Ref1.trim.j0 at hj0
 refine Gate.go ?_
 refine Nm.mk ⟨(([]:List Int)).map (eI .u8),rfl,?_⟩
 obtain ⟨chj1,hj1⟩:=chk_elim hj0
 obtain ⟨t21,et21,hj2⟩:=letk_elim hj1
 refine Side.mk (by simpa only [List.length_map] using chj1) ?_
 refine Nm.mk ⟨t21.map (eI .u8),by rw [et21]; simp only [List.map_take,List.map_drop,List.length_map],?_⟩
 obtain ⟨chj3,hj3⟩:=chk_elim hj2
 obtain ⟨t22,et22,hj4⟩:=letk_elim hj3
 refine Gate.go ?_
 refine Side.mk (full_le _) ?_
 refine Side.mk (one_map (fun _ _ hc=>by simp only [AV.cells,List.mem_singleton] at hc; subst hc; rfl)) ?_
 refine Side.mk (side_rv (by decide) chj3) ?_
 refine Nm.mk ⟨t22.map (eI .u8),by rw [et22]; exact app_rv,?_⟩
 have ehj4_0:=Option.some.inj hj4
 subst ehj4_0
 exact Returns.frozen (r:=.vs 1 (t22.map (eI .u8))) [1] rfl rfl (WV.all (k:=1) (by decide) rfl) ⟨rfl,rfl⟩
noncomputable def Ref1.Minus.s0 (a0 b1 out5:List Int) (owed6 i7:Int):Option (((List Int) × Int × Int) ⊕ ((List Int))) :=
 letk ((a0.length:Int)) fun t11 =>
 letk (decide (i7 < t11)) fun t12 =>
 bif t12 then
 Option.bind (Ref1.digit a0 i7) fun t17 =>
 letk (IntKind.u8.wrap ((2:Int) + t17)) fun t18 =>
 Option.bind (Ref1.digit b1 i7) fun t21 =>
 letk (IntKind.u8.wrap (t18 - t21)) fun t22 =>
 letk (IntKind.u8.wrap (t22 - owed6)) fun t24 =>
 chk ((2:Int) ≠ 0) <|
 letk (t24.tmod (2:Int)) fun t27 =>
 chk ((out5.length + ([t27]).length) * 1 ≤ 140737488355328) <|
 letk (out5 ++ ([t27])) fun t29 =>
 chk ((2:Int) ≠ 0) <|
 letk (IntKind.u8.wrap (t24.tdiv (2:Int))) fun t31 =>
 letk (IntKind.u8.wrap ((1:Int) - t31)) fun t32 =>
 letk (IntKind.i64.wrap (i7 + (1:Int))) fun t14 =>
 some (.inl (t29,t32,t14))
 else
 ((
 Option.bind (Ref1.trim out5) fun t34 =>
 some t34)).map .inr
noncomputable def Ref1.Minus.l0 (a0 b1 out5:List Int) (owed6 i7:Int):Option ((List Int)):=loopO (fun v:(List Int) × Int × Int=>Ref1.Minus.s0 a0 b1 v.1 v.2.1 v.2.2) (out5,owed6,i7)
noncomputable def Ref1.Minus (a0 b1:List Int):Option ((List Int)) :=
 Ref1.Minus.l0 a0 b1 ([]) 0 0
abbrev E16':(List Int) → AV:=fun r=>(.vs 1 (r.map (eI .u8)))
theorem Ref1.Minus_ok {a0 b1:List Int} {r:(List Int)} (h0:Ref1.Minus a0 b1 = some r):Gives Tryz.prog 154 [.vs 1 (a0.map (eI .u8)),.vs 1 (b1.map (eI .u8))] (.vs 1 (r.map (eI .u8))):=by
 unfold Ref1.Minus at h0
 refine W' [] Tryz.func154 ?_
 unfold Ref1.Minus.l0 at h0
 refine LoopB.of (σ:=(List Int) × Int × Int) (ρ:=(List Int)) (fun v:(List Int) × Int × Int=>Ref1.Minus.s0 a0 b1 v.1 v.2.1 v.2.2) (fun v=>(⟨35,[(0,.vs 1 (a0.map (eI .u8))),(1,.vs 1 (b1.map (eI .u8))),(5,.ref 0 0 ((v.1.map (eI .u8)).length)),(6,.lit (.int .u8 v.2.1)),(7,J v.2.2)],[.arr 1 (v.1.map (eI .u8))]⟩:St)) ([],0,0) h0 (BackS.by rfl (Sees.of (Weak.objs (keep:=[]) (frz:=[]) (m:=1) rfl (by decide) rfl rfl ⟨rfl,fun _ ho=>by simp only [List.mem_cons,List.not_mem_nil,or_false] at ho; exact ⟨_,ho⟩⟩ ⟨.s,.s,(.nilsRef 0 (by decide) (by decide)),.s,.s,trivial⟩))) ?_
 rintro _ ⟨out5,owed6,i7⟩ x1 hs0_0 hl1 hr1
 replace hs0_0:Ref1.Minus.s0 a0 b1 out5 owed6 i7 = some x1:=hs0_0
 unfold Ref1.Minus.s0 at hs0_0
 obtain ⟨t11,et11,hs0_1⟩:=letk_elim hs0_0
 refine Nm.mk ⟨t11,by rw [et11,List.length_map],?_⟩
 refine C' hs0_1 (fun hs0_3=>?_) fun hs0_3=>?_
 obtain ⟨_,hs0_3u,ehs0_3_0⟩:=map_elim hs0_3
 have ehs0_3_0:=(hr1 _ ehs0_3_0.symm).symm
 subst ehs0_3_0
 obtain ⟨_,et34,hs0_3u0⟩:=bind_elim hs0_3u
 refine Gate.weak (Sees.of (Weak.objs (k:=35) (keep:=[]) (frz:=[0]) (m:=0) (ts:=[(33,.vs 1 (out5.map (eI .u8)))]) (hs:=[]) rfl (by decide) rfl rfl ⟨rfl,fun _ h=>by cases h⟩ ⟨(WV.all (k:=0) (by decide) rfl),trivial⟩)) ?_
 refine Z' (Ref1.trim_ok et34) ?_
 exact R' (E:=E16') hs0_3u0
 refine Gate.go (A' hs0_3 Ref1.digit_ok fun _ hs0_4=>?_)
 refine N' hs0_4 fun _ hs0_5=>?_
 refine Gate.go (A' hs0_5 Ref1.digit_ok fun _ hs0_6=>?_)
 refine N' hs0_6 fun _ hs0_7=>?_
 refine N' hs0_7 fun _ hs0_8=>?_
 refine S' hs0_8 fun hs0_9=>?_
 refine N' hs0_9 fun t27 hs0_10=>?_
 refine Gate.go ?_
 refine Nm.mk ⟨([t27]).map (eI .u8),rfl,?_⟩
 obtain ⟨chs0_11,hs0_11⟩:=chk_elim hs0_10
 obtain ⟨t29,et29,hs0_12⟩:=letk_elim hs0_11
 refine Gate.go ?_
 refine Side.mk (full_le _) ?_
 refine Side.mk ⟨full_le _,one_map (fun _ _ hc=>by simp only [AV.cells,List.mem_singleton] at hc; subst hc; rfl)⟩ ?_
 refine Side.mk (side_rr (by decide) chs0_11) ?_
 refine Nm.mk ⟨t29.map (eI .u8),by rw [et29]; exact app_rr (m:=[t27]),?_⟩
 refine S' hs0_12 fun hs0_13=>?_
 refine N' hs0_13 fun _ hs0_14=>?_
 refine N' hs0_14 fun _ hs0_15=>?_
 refine N' hs0_15 fun _ hs0_16=>?_
 exact B' [2] ⟨_,hl1 _ (Option.some.inj hs0_16).symm,rfl⟩
noncomputable def Ref1.Cmp.s0 (a0 b1:List Int) (i5:Int):Option (Int ⊕ Int) :=
 letk (decide (i5 ≥ (0:Int))) fun t13 =>
 bif t13 then
 Option.bind (Ref1.digit a0 i5) fun t18 =>
 Option.bind (Ref1.digit b1 i5) fun t21 =>
 letk (t18 != t21) fun t22 =>
 bif t22 then
 Option.bind (Ref1.digit a0 i5) fun t25 =>
 letk (IntKind.i64.wrap t25) fun t26 =>
 Option.bind (Ref1.digit b1 i5) fun t29 =>
 letk (IntKind.i64.wrap t29) fun t30 =>
 letk (IntKind.i64.wrap (t26 - t30)) fun t31 =>
 some (.inr t31)
 else
 letk (IntKind.i64.wrap (i5 - (1:Int))) fun t15 =>
 some (.inl t15)
 else
 some (.inr 0)
noncomputable def Ref1.Cmp.l0 (a0 b1:List Int) (i5:Int):Option Int:=loopO (fun v:Int=>Ref1.Cmp.s0 a0 b1 v) i5
noncomputable def Ref1.Cmp (a0 b1:List Int):Option Int :=
 letk ((a0.length:Int)) fun t7 =>
 letk ((b1.length:Int)) fun t9 =>
 letk (if t9 > t7 then t9 else t7) fun t10 =>
 letk (IntKind.i64.wrap (t10 - (1:Int))) fun t11 =>
 Ref1.Cmp.l0 a0 b1 t11
theorem Ref1.Cmp_ok {a0 b1:List Int} {r:Int} (h0:Ref1.Cmp a0 b1 = some r):Gives Tryz.prog 153 [.vs 1 (a0.map (eI .u8)),.vs 1 (b1.map (eI .u8))] (J r):=by
 unfold Ref1.Cmp at h0
 refine W' [] Tryz.func153 ?_
 obtain ⟨t7,et7,h1⟩:=letk_elim h0
 refine Nm.mk ⟨t7,by rw [et7,List.length_map],?_⟩
 obtain ⟨t9,et9,h2⟩:=letk_elim h1
 refine Nm.mk ⟨t9,by rw [et9,List.length_map],?_⟩
 refine N' h2 fun _ h3=>?_
 refine N' h3 fun t11 h4=>?_
 unfold Ref1.Cmp.l0 at h4
 refine LoopB.of (σ:=Int) (ρ:=Int) (fun v:Int=>Ref1.Cmp.s0 a0 b1 v) (fun v=>(⟨32,[(0,.vs 1 (a0.map (eI .u8))),(1,.vs 1 (b1.map (eI .u8))),(5,J v)],[]⟩:St)) t11 h4 (B' [] rfl) ?_
 rintro K1 i5 x1 hs0_0 hl1 hr1
 replace hs0_0:Ref1.Cmp.s0 a0 b1 i5 = some x1:=hs0_0
 unfold Ref1.Cmp.s0 at hs0_0
 refine C' hs0_0 (fun hs0_2=>?_) fun hs0_2=>?_
 have ehs0_2u_0:=hr1 _ (Option.some.inj hs0_2).symm
 have hs0_2u:=congrArg some ehs0_2u_0
 exact R' (E:=E2') hs0_2u
 refine Gate.go (A' hs0_2 Ref1.digit_ok fun _ hs0_3=>?_)
 refine Gate.go (A' hs0_3 Ref1.digit_ok fun _ hs0_4=>?_)
 refine C' hs0_4 (fun hs0_6=>?_) fun hs0_6=>?_
 refine N' hs0_6 fun _ hs0_7=>?_
 exact B' [] ⟨_,hl1 _ (Option.some.inj hs0_7).symm,rfl⟩
 refine Gate.go (A' hs0_6 Ref1.digit_ok fun _ hs0_7=>?_)
 refine N' hs0_7 fun _ hs0_8=>?_
 refine Gate.go (A' hs0_8 Ref1.digit_ok fun _ hs0_9=>?_)
 refine N' hs0_9 fun _ hs0_10=>?_
 refine N' hs0_10 fun t31 hs0_11=>?_
 have ehs0_11_0:=hr1 _ (Option.some.inj hs0_11).symm
 subst ehs0_11_0
 exact Returns.pure (r:=J t31) rfl rfl rfl rfl ⟨rfl,rfl⟩
noncomputable def Ref1.goesUp (mode0 sign1 half2:Int) (odd3:Bool):Option Bool :=
 letk (mode0 == (0:Int)) fun t11 =>
 bif t11 then
 letk (decide (half2 > (0:Int))) fun t13 =>
 bif t13 then
 some true
 else
 letk (half2 == (0:Int)) fun t16 =>
 bif t16 then
 some odd3
 else
 some false
 else
 letk (mode0 == (2:Int)) fun t22 =>
 bif t22 then
 letk (sign1 == (1:Int)) fun t24 =>
 some t24
 else
 letk (mode0 == (3:Int)) fun t26 =>
 bif t26 then
 letk (sign1 == (0:Int)) fun t28 =>
 some t28
 else
 some false
theorem Ref1.goesUp_ok {mode0 sign1 half2:Int} {odd3 r:Bool} (h0:Ref1.goesUp mode0 sign1 half2 odd3 = some r):Gives Tryz.prog 173 [J mode0,J sign1,J half2,.lit (.bool odd3)] (.lit (.bool r)):=by
 unfold Ref1.goesUp at h0
 refine W' [] Tryz.func173 ?_
 refine C' h0 (fun h2=>?_) fun h2=>?_
 refine C' h2 (fun h4=>?_) fun h4=>?_
 refine C' h4 (fun h6=>?_) fun h6=>?_
 exact R' (E:=E1') h6
 refine N' h6 fun _ h7=>?_
 exact R' (E:=E1') h7
 refine N' h4 fun _ h5=>?_
 exact R' (E:=E1') h5
 refine C' h2 (fun h4=>?_) fun h4=>?_
 refine C' h4 (fun h6=>?_) fun h6=>?_
 exact R' (E:=E1') h6
 exact R' (E:=E1') h6
 exact R' (E:=E1') h4
noncomputable def Ref1.Plus.j0 (a0 b1:List Int) (carry6 i7:Int) (out5_1:List Int):Option (((List Int) × Int × Int) ⊕ ((List Int))) :=
 Option.bind (Ref1.digit a0 i7) fun t27 =>
 Option.bind (Ref1.digit b1 i7) fun t30 =>
 letk (IntKind.u8.wrap (t27 + t30)) fun t31 =>
 letk (IntKind.u8.wrap (t31 + carry6)) fun t33 =>
 chk ((2:Int) ≠ 0) <|
 letk (t33.tmod (2:Int)) fun t36 =>
 chk ((out5_1.length + ([t36]).length) * 1 ≤ 140737488355328) <|
 letk (out5_1 ++ ([t36])) fun t38 =>
 chk ((2:Int) ≠ 0) <|
 letk (IntKind.u8.wrap (t33.tdiv (2:Int))) fun t40 =>
 letk (IntKind.i64.wrap (i7 + (1:Int))) fun t24 =>
 some (.inl (t38,t40,t24))
noncomputable def Ref1.Plus.s0 (a0 b1 out5:List Int) (carry6 i7:Int):Option (((List Int) × Int × Int) ⊕ ((List Int))) :=
 letk ((a0.length:Int)) fun t11 =>
 letk (decide (i7 < t11)) fun t12 =>
 bif t12 then
 Ref1.Plus.j0 a0 b1 carry6 i7 out5
 else
 letk ((b1.length:Int)) fun t16 =>
 letk (decide (i7 < t16)) fun t17 =>
 bif t17 then
 Ref1.Plus.j0 a0 b1 carry6 i7 out5
 else
 letk (decide (carry6 > (0:Int))) fun t21 =>
 bif t21 then
 Ref1.Plus.j0 a0 b1 carry6 i7 out5
 else
 ((
 Option.bind (Ref1.trim out5) fun t42 =>
 some t42)).map .inr
noncomputable def Ref1.Plus.l0 (a0 b1 out5:List Int) (carry6 i7:Int):Option ((List Int)):=loopO (fun v:(List Int) × Int × Int=>Ref1.Plus.s0 a0 b1 v.1 v.2.1 v.2.2) (out5,carry6,i7)
noncomputable def Ref1.Plus (a0 b1:List Int):Option ((List Int)) :=
 Ref1.Plus.l0 a0 b1 ([]) 0 0
theorem Ref1.Plus_ok {a0 b1:List Int} {r:(List Int)} (h0:Ref1.Plus a0 b1 = some r):Gives Tryz.prog 152 [.vs 1 (a0.map (eI .u8)),.vs 1 (b1.map (eI .u8))] (.vs 1 (r.map (eI .u8))):=by
 unfold Ref1.Plus at h0
 refine W' [(1,1)] Tryz.func152 ?_
 unfold Ref1.Plus.l0 at h0
 refine LoopB.of (σ:=(List Int) × Int × Int) (ρ:=(List Int)) (fun v:(List Int) × Int × Int=>Ref1.Plus.s0 a0 b1 v.1 v.2.1 v.2.2) (fun v=>(⟨43,[(0,.vs 1 (a0.map (eI .u8))),(1,.vs 1 (b1.map (eI .u8))),(5,.ref 0 0 ((v.1.map (eI .u8)).length)),(6,.lit (.int .u8 v.2.1)),(7,J v.2.2)],[.arr 1 (v.1.map (eI .u8))]⟩:St)) ([],0,0) h0 (BackS.by rfl (Sees.of (Weak.objs (keep:=[]) (frz:=[]) (m:=1) rfl (by decide) rfl rfl ⟨rfl,fun _ ho=>by simp only [List.mem_cons,List.not_mem_nil,or_false] at ho; exact ⟨_,ho⟩⟩ ⟨.s,.s,(.nilsRef 0 (by decide) (by decide)),.s,.s,trivial⟩))) ?_
 rintro _ ⟨out5,carry6,i7⟩ x1 hs0_0 hl1 hr1
 replace hs0_0:Ref1.Plus.s0 a0 b1 out5 carry6 i7 = some x1:=hs0_0
 unfold Ref1.Plus.s0 at hs0_0
 refine CutN.of (fun s=>∃ out5_1,Ref1.Plus.j0 a0 b1 carry6 i7 out5_1 = some x1 ∧ s = ⟨43,[(0,.vs 1 (a0.map (eI .u8))),(1,.vs 1 (b1.map (eI .u8))),(5,.ref 0 0 ((out5_1.map (eI .u8)).length)),(6,.lit (.int .u8 carry6)),(7,J i7)],[.arr 1 (out5_1.map (eI .u8))]⟩) ?_ ?_
 obtain ⟨t11,et11,hs0_1⟩:=letk_elim hs0_0
 refine Nm.mk ⟨t11,by rw [et11,List.length_map],?_⟩
 refine C' hs0_1 (fun hs0_3=>?_) fun hs0_3=>?_
 obtain ⟨t16,et16,hs0_4⟩:=letk_elim hs0_3
 refine Nm.mk ⟨t16,by rw [et16,List.length_map],?_⟩
 refine C' hs0_4 (fun hs0_6=>?_) fun hs0_6=>?_
 refine C' hs0_6 (fun hs0_8=>?_) fun hs0_8=>?_
 obtain ⟨_,hs0_8u,ehs0_8_0⟩:=map_elim hs0_8
 have ehs0_8_0:=(hr1 _ ehs0_8_0.symm).symm
 subst ehs0_8_0
 obtain ⟨_,et42,hs0_8u0⟩:=bind_elim hs0_8u
 refine Gate.weak (Sees.of (Weak.objs (k:=43) (keep:=[]) (frz:=[0]) (m:=0) (ts:=[(41,.vs 1 (out5.map (eI .u8)))]) (hs:=[]) rfl (by decide) rfl rfl ⟨rfl,fun _ h=>by cases h⟩ ⟨(WV.all (k:=0) (by decide) rfl),trivial⟩)) ?_
 refine Z' (Ref1.trim_ok et42) ?_
 exact R' (E:=E16') hs0_8u0
 exact B' [0] ⟨_,hs0_8,rfl⟩
 exact B' [0] ⟨_,hs0_6,rfl⟩
 exact B' [0] ⟨_,hs0_3,rfl⟩
 rintro s ⟨_,hj0,rfl⟩
 unfold Ref1.Plus.j0 at hj0
 refine Gate.go (A' hj0 Ref1.digit_ok fun _ hj1=>?_)
 refine Gate.go (A' hj1 Ref1.digit_ok fun _ hj2=>?_)
 refine N' hj2 fun _ hj3=>?_
 refine N' hj3 fun _ hj4=>?_
 refine S' hj4 fun hj5=>?_
 refine N' hj5 fun t36 hj6=>?_
 refine Gate.go ?_
 refine Nm.mk ⟨([t36]).map (eI .u8),rfl,?_⟩
 obtain ⟨chj7,hj7⟩:=chk_elim hj6
 obtain ⟨t38,et38,hj8⟩:=letk_elim hj7
 refine Gate.go ?_
 refine Side.mk (full_le _) ?_
 refine Side.mk ⟨full_le _,one_map (fun _ _ hc=>by simp only [AV.cells,List.mem_singleton] at hc; subst hc; rfl)⟩ ?_
 refine Side.mk (side_rr (by decide) chj7) ?_
 refine Nm.mk ⟨t38.map (eI .u8),by rw [et38]; exact app_rr (m:=[t36]),?_⟩
 refine S' hj8 fun hj9=>?_
 refine N' hj9 fun _ hj10=>?_
 refine N' hj10 fun _ hj11=>?_
 exact B' [2] ⟨_,hl1 _ (Option.some.inj hj11).symm,rfl⟩
noncomputable def Ref1.all (kind0:Int):Option Int :=
 letk (IntKind.i64.wrap ((8:Int) * kind0)) fun t4 =>
 Option.bind (Ref1.Digits kind0) fun t6 =>
 letk (IntKind.i64.wrap (t4 - t6)) fun t7 =>
 chk (0 ≤ t7) <|
 letk (IntKind.i64.wrap ((1:Int) * 2 ^ (min t7.toNat (IntKind.i64).bits))) fun t8 =>
 letk (IntKind.i64.wrap (t8 - (1:Int))) fun t9 =>
 some t9
theorem Ref1.all_ok {kind0 r:Int} (h0:Ref1.all kind0 = some r):Gives Tryz.prog 184 [J kind0] (J r):=by
 unfold Ref1.all at h0
 refine W' [] Tryz.func184 ?_
 refine N' h0 fun _ h1=>?_
 refine Gate.go (A' h1 Ref1.Digits_ok fun _ h2=>?_)
 refine N' h2 fun _ h3=>?_
 refine S' h3 fun h4=>?_
 refine N' h4 fun _ h5=>?_
 refine N' h5 fun _ h6=>?_
 exact R' (E:=E2') h6
noncomputable def Ref1.Infinite (kind0 sign1:Int):Option Int :=
 Option.bind (Ref1.all kind0) fun t8 =>
 Option.bind (Ref1.bits kind0 sign1 t8 0) fun t9 =>
 some t9
theorem Ref1.Infinite_ok {kind0 sign1 r:Int} (h0:Ref1.Infinite kind0 sign1 = some r):Gives Tryz.prog 136 [J kind0,J sign1] (J r):=by
 unfold Ref1.Infinite at h0
 refine W' [] Tryz.func136 ?_
 refine Gate.go (A' h0 Ref1.all_ok fun _ h1=>?_)
 refine Gate.go (A' h1 Ref1.bits_ok fun _ h2=>?_)
 exact R' (E:=E2') h2
noncomputable def Ref1.greatest (kind0 sign1:Int):Option Int :=
 Option.bind (Ref1.all kind0) fun t8 =>
 letk (IntKind.i64.wrap (t8 - (1:Int))) fun t9 =>
 Option.bind (Ref1.Digits kind0) fun t11 =>
 letk (IntKind.i64.wrap (t11 - (1:Int))) fun t12 =>
 chk (0 ≤ t12) <|
 letk (IntKind.i64.wrap ((1:Int) * 2 ^ (min t12.toNat (IntKind.i64).bits))) fun t13 =>
 letk (IntKind.i64.wrap (t13 - (1:Int))) fun t14 =>
 Option.bind (Ref1.bits kind0 sign1 t9 t14) fun t15 =>
 some t15
theorem Ref1.greatest_ok {kind0 sign1 r:Int} (h0:Ref1.greatest kind0 sign1 = some r):Gives Tryz.prog 199 [J kind0,J sign1] (J r):=by
 unfold Ref1.greatest at h0
 refine W' [] Tryz.func199 ?_
 refine Gate.go (A' h0 Ref1.all_ok fun _ h1=>?_)
 refine N' h1 fun _ h2=>?_
 refine Gate.go (A' h2 Ref1.Digits_ok fun _ h3=>?_)
 refine N' h3 fun _ h4=>?_
 refine S' h4 fun h5=>?_
 refine N' h5 fun _ h6=>?_
 refine N' h6 fun _ h7=>?_
 refine Gate.go (A' h7 Ref1.bits_ok fun _ h8=>?_)
 exact R' (E:=E2') h8
noncomputable def Ref1.Int_.j0 (a0:List Int) (u3 i4:Int):Option ((Int × Int) ⊕ Int) :=
 chk (0 ≤ i4) <|
 Option.bind (a0[i4.toNat]?) fun t18 =>
 letk (IntKind.u64.wrap t18) fun t20 =>
 chk (0 ≤ i4) <|
 letk (IntKind.u64.wrap (t20 * 2 ^ (min i4.toNat (IntKind.u64).bits))) fun t22 =>
 letk (IntKind.u64.wrap (BitVec.ofInt (IntKind.u64).bits u3 ||| BitVec.ofInt (IntKind.u64).bits t22).toNat) fun t23 =>
 letk (IntKind.i64.wrap (i4 + (1:Int))) fun t14 =>
 some (.inl (t23,t14))
noncomputable def Ref1.Int_.s0 (a0:List Int) (u3 i4:Int):Option ((Int × Int) ⊕ Int) :=
 letk ((a0.length:Int)) fun t7 =>
 letk (decide (i4 < t7)) fun t8 =>
 bif t8 then
 letk (decide (i4 < (64:Int))) fun t11 =>
 bif t11 then
 Ref1.Int_.j0 a0 u3 i4
 else
 ((
 letk (IntKind.i64.wrap u3) fun t25_1 =>
 some t25_1)).map .inr
 else
 ((
 letk (IntKind.i64.wrap u3) fun t25 =>
 some t25)).map .inr
noncomputable def Ref1.Int_.l0 (a0:List Int) (u3 i4:Int):Option Int:=loopO (fun v:Int × Int=>Ref1.Int_.s0 a0 v.1 v.2) (u3,i4)
noncomputable def Ref1.Int_ (a0:List Int):Option Int :=
 Ref1.Int_.l0 a0 0 0
theorem Ref1.Int__ok {a0:List Int} {r:Int} (h0:Ref1.Int_ a0 = some r):Gives Tryz.prog 175 [.vs 1 (a0.map (eI .u8))] (J r):=by
 unfold Ref1.Int_ at h0
 refine W' [(1,1)] Tryz.func175 ?_
 unfold Ref1.Int_.l0 at h0
 refine LoopB.of (σ:=Int × Int) (ρ:=Int) (fun v:Int × Int=>Ref1.Int_.s0 a0 v.1 v.2) (fun v=>(⟨26,[(0,.vs 1 (a0.map (eI .u8))),(3,U v.1),(4,J v.2)],[]⟩:St)) (0,0) h0 (B' [] rfl) ?_
 rintro _ ⟨u3,i4⟩ x1 hs0_0 hl1 hr1
 replace hs0_0:Ref1.Int_.s0 a0 u3 i4 = some x1:=hs0_0
 unfold Ref1.Int_.s0 at hs0_0
 refine CutN.of (fun s=>Ref1.Int_.j0 a0 u3 i4 = some x1 ∧ s = ⟨26,[(0,.vs 1 (a0.map (eI .u8))),(3,U u3),(4,J i4)],[]⟩) ?_ ?_
 obtain ⟨t7,et7,hs0_1⟩:=letk_elim hs0_0
 refine Nm.mk ⟨t7,by rw [et7,List.length_map],?_⟩
 refine C' hs0_1 (fun hs0_3=>?_) fun hs0_3=>?_
 obtain ⟨_,hs0_3u,ehs0_3_0⟩:=map_elim hs0_3
 have ehs0_3_0:=(hr1 _ ehs0_3_0.symm).symm
 subst ehs0_3_0
 refine N' hs0_3u fun _ hs0_3u0=>?_
 exact R' (E:=E2') hs0_3u0
 refine C' hs0_3 (fun hs0_5=>?_) fun hs0_5=>?_
 obtain ⟨_,hs0_5u,ehs0_5_0⟩:=map_elim hs0_5
 have ehs0_5_0:=(hr1 _ ehs0_5_0.symm).symm
 subst ehs0_5_0
 refine N' hs0_5u fun _ hs0_5u0=>?_
 exact R' (E:=E2') hs0_5u0
 exact B' [] ⟨hs0_5,rfl⟩
 rintro s ⟨hj0,rfl⟩
 unfold Ref1.Int_.j0 at hj0
 obtain ⟨chj1,hj1⟩:=chk_elim hj0
 obtain ⟨_,et18,hj2⟩:=bind_elim hj1
 refine Side.mk chj1 ?_
 refine At.by et18 ?_
 refine N' hj2 fun _ hj3=>?_
 refine S' hj3 fun hj4=>?_
 refine N' hj4 fun _ hj5=>?_
 refine N' hj5 fun _ hj6=>?_
 refine N' hj6 fun _ hj7=>?_
 exact B' [] ⟨_,hl1 _ (Option.some.inj hj7).symm,rfl⟩
end Go.Q
