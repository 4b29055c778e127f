import Derived.Test.YtemmhailjfdfdaaGreatAG2
import Derived.Test.YtemmhailjfdfdaaGreatFX
import Derived.Test.YtemmhailjfdfdaaGreatFY
import Derived.Test.YtemmhailjfdfdaaGreatProg
namespace Go.Q
open Go Go.Proofs
set_option maxRecDepth 10000
set_option maxHeartbeats 2000000
noncomputable def Flt.shape.add.j1 (mode1 s4_0_1 s4_1_1 x6_0_1 x6_1_1 x6_2_1 x6_3_1 y7_0_1 y7_1_1 y7_2_1 y7_3_1:Int):Option (Int × Int) :=
 Option.bind (Flt.shape.sum (⟨s4_0_1,s4_1_1⟩:float.shape) mode1 (⟨x6_0_1,x6_1_1,x6_2_1,x6_3_1⟩:float.number) (⟨y7_0_1,y7_1_1,y7_2_1,y7_3_1⟩:float.number)) fun (t130_0,t130_1) =>
 some (t130_0,t130_1)
noncomputable def Flt.shape.add.j0 (mode1 s4_0 s4_1 x6_0 x6_1 x6_2 x6_3 y7_0 y7_1 y7_2 y7_3:Int):Option (Int × Int) :=
 letk (decide (x6_3 < y7_3)) fun t123 =>
 bif t123 then
 Flt.shape.add.j1 mode1 s4_0 s4_1 y7_0 y7_1 y7_2 y7_3 x6_0 x6_1 x6_2 x6_3
 else
 Flt.shape.add.j1 mode1 s4_0 s4_1 x6_0 x6_1 x6_2 x6_3 y7_0 y7_1 y7_2 y7_3
noncomputable def Flt.shape.add.j5 (s0:float.shape) (mode1:Int) (x2 y3:float.number) (t75:Bool):Option (Int × Int) :=
 bif t75 then
 Option.bind (Flt.shape.none (⟨s0.p,s0.w⟩:float.shape) mode1) fun t86 =>
 some (t86,0)
 else
 letk (x2.class_ == (0:Int)) fun t90 =>
 bif t90 then
 Option.bind (Flt.shape.round (⟨s0.p,s0.w⟩:float.shape) mode1 y3.sign (⟨0,y3.m,y3.e,false⟩:float.exact)) fun (t100_0,t100_1) =>
 some (t100_0,t100_1)
 else
 letk (y3.class_ == (0:Int)) fun t106 =>
 bif t106 then
 Option.bind (Flt.shape.round (⟨s0.p,s0.w⟩:float.shape) mode1 x2.sign (⟨0,x2.m,x2.e,false⟩:float.exact)) fun (t116_0,t116_1) =>
 some (t116_0,t116_1)
 else
 Flt.shape.add.j0 mode1 s0.p s0.w x2.class_ x2.sign x2.m x2.e y3.class_ y3.sign y3.m y3.e
noncomputable def Flt.shape.add.j4 (s0:float.shape) (mode1:Int) (x2 y3:float.number) (t55:Bool):Option (Int × Int) :=
 bif t55 then
 Option.bind (Flt.shape.zero (⟨s0.p,s0.w⟩:float.shape) x2.sign) fun t74 =>
 some (t74,0)
 else
 letk (x2.class_ == (0:Int)) fun t78 =>
 bif t78 then
 letk (y3.class_ == (0:Int)) fun t82 =>
 Flt.shape.add.j5 s0 mode1 x2 y3 t82
 else
 Flt.shape.add.j5 s0 mode1 x2 y3 false
noncomputable def Flt.shape.add.j3 (s0:float.shape) (mode1:Int) (x2 y3:float.number) (t21:Bool):Option (Int × Int) :=
 bif t21 then
 Option.bind (Flt.shape.quiet (⟨s0.p,s0.w⟩:float.shape)) fun t38 =>
 some (t38,1)
 else
 letk (x2.class_ == (2:Int)) fun t42 =>
 bif t42 then
 Option.bind (Flt.shape.infinite (⟨s0.p,s0.w⟩:float.shape) x2.sign) fun t46 =>
 some (t46,0)
 else
 letk (y3.class_ == (2:Int)) fun t50 =>
 bif t50 then
 Option.bind (Flt.shape.infinite (⟨s0.p,s0.w⟩:float.shape) y3.sign) fun t54 =>
 some (t54,0)
 else
 letk (x2.class_ == (0:Int)) fun t58 =>
 bif t58 then
 letk (y3.class_ == (0:Int)) fun t62 =>
 bif t62 then
 letk (x2.sign == y3.sign) fun t69 =>
 Flt.shape.add.j4 s0 mode1 x2 y3 t69
 else
 Flt.shape.add.j4 s0 mode1 x2 y3 false
 else
 Flt.shape.add.j4 s0 mode1 x2 y3 false
noncomputable def Flt.shape.add.j2 (s0:float.shape) (mode1:Int) (x2 y3:float.number) (t10:Bool):Option (Int × Int) :=
 bif t10 then
 Option.bind (Flt.shape.quiet (⟨s0.p,s0.w⟩:float.shape)) fun t20 =>
 some (t20,0)
 else
 letk (x2.class_ == (2:Int)) fun t24 =>
 bif t24 then
 letk (y3.class_ == (2:Int)) fun t28 =>
 bif t28 then
 letk (x2.sign != y3.sign) fun t35 =>
 Flt.shape.add.j3 s0 mode1 x2 y3 t35
 else
 Flt.shape.add.j3 s0 mode1 x2 y3 false
 else
 Flt.shape.add.j3 s0 mode1 x2 y3 false
noncomputable def Flt.shape.add (s0:float.shape) (mode1:Int) (x2 y3:float.number):Option (Int × Int) :=
 letk (x2.class_ == (3:Int)) fun t13 =>
 bif t13 then
 Flt.shape.add.j2 s0 mode1 x2 y3 true
 else
 letk (y3.class_ == (3:Int)) fun t17 =>
 Flt.shape.add.j2 s0 mode1 x2 y3 t17
theorem Flt.shape.add_ok {s0:float.shape} {mode1:Int} {x2 y3:float.number} {r:Int × Int} (h0:Flt.shape.add s0 mode1 x2 y3 = some r):Gives Tryz.prog 192 [float.shape.enc s0,J mode1,float.number.enc x2,float.number.enc y3] (.tup [J r.1,J r.2]):=by
 unfold Flt.shape.add at h0
 refine W' [(0,17),(0,19),(20,5),(31,9),(65,21),(85,25)] Tryz.func192 ?_
 refine V' ?_
 refine V' ?_
 refine V' ?_
 refine CutN.of (fun s=>∃ s4_0 s4_1 x6_0 x6_1 x6_2 x6_3 y7_0 y7_1 y7_2 y7_3,Flt.shape.add.j0 mode1 s4_0 s4_1 x6_0 x6_1 x6_2 x6_3 y7_0 y7_1 y7_2 y7_3 = some r ∧ s = ⟨133,[(1,J mode1),(4,.ptr 0 0),(6,.ptr 1 0),(7,.ptr 2 0)],[.box [J s4_0,J s4_1],.box [J x6_0,J x6_1,U x6_2,J x6_3],.box [J y7_0,J y7_1,U y7_2,J y7_3]]⟩) ?_ ?_
 refine CutN.of (fun s=>∃ t10,Flt.shape.add.j2 s0 mode1 x2 y3 t10 = some r ∧ s = ⟨133,[(1,J mode1),(4,.ptr 0 0),(6,.ptr 1 0),(7,.ptr 2 0),(10,.lit (.bool t10))],[.box [J s0.p,J s0.w],.box [J x2.class_,J x2.sign,U x2.m,J x2.e],.box [J y3.class_,J y3.sign,U y3.m,J y3.e]]⟩) ?_ ?_
 refine C' h0 (fun h2=>?_) fun h2=>?_
 refine N' h2 fun _ h3=>?_
 exact B' [0,1,2] ⟨_,h3,rfl⟩
 exact B' [0,1,2] ⟨_,h2,rfl⟩
 rintro s ⟨t10,hj0,rfl⟩
 unfold Flt.shape.add.j2 at hj0
 rcases t10 with _ | _
 have hj1:=bif_f hj0
 refine CutN.of (fun s=>∃ t21,Flt.shape.add.j3 s0 mode1 x2 y3 t21 = some r ∧ s = ⟨133,[(1,J mode1),(4,.ptr 0 0),(6,.ptr 1 0),(7,.ptr 2 0),(21,.lit (.bool t21))],[.box [J s0.p,J s0.w],.box [J x2.class_,J x2.sign,U x2.m,J x2.e],.box [J y3.class_,J y3.sign,U y3.m,J y3.e]]⟩) ?_ ?_
 refine C' hj1 (fun hj3=>?_) fun hj3=>?_
 exact B' [0,1,2] ⟨_,hj3,rfl⟩
 refine C' hj3 (fun hj5=>?_) fun hj5=>?_
 exact B' [0,1,2] ⟨_,hj5,rfl⟩
 refine N' hj5 fun _ hj6=>?_
 exact B' [0,1,2] ⟨_,hj6,rfl⟩
 rintro s ⟨t21,hj0,rfl⟩
 unfold Flt.shape.add.j3 at hj0
 rcases t21 with _ | _
 have hj1:=bif_f hj0
 refine C' hj1 (fun hj3=>?_) fun hj3=>?_
 refine C' hj3 (fun hj5=>?_) fun hj5=>?_
 refine CutN.of (fun s=>∃ t55,Flt.shape.add.j4 s0 mode1 x2 y3 t55 = some r ∧ s = ⟨133,[(1,J mode1),(4,.ptr 0 0),(6,.ptr 1 0),(7,.ptr 2 0),(55,.lit (.bool t55))],[.box [J s0.p,J s0.w],.box [J x2.class_,J x2.sign,U x2.m,J x2.e],.box [J y3.class_,J y3.sign,U y3.m,J y3.e]]⟩) ?_ ?_
 refine C' hj5 (fun hj7=>?_) fun hj7=>?_
 exact B' [0,1,2] ⟨_,hj7,rfl⟩
 refine C' hj7 (fun hj9=>?_) fun hj9=>?_
 exact B' [0,1,2] ⟨_,hj9,rfl⟩
 refine N' hj9 fun _ hj10=>?_
 exact B' [0,1,2] ⟨_,hj10,rfl⟩
 rintro s ⟨t55,hj0,rfl⟩
 unfold Flt.shape.add.j4 at hj0
 rcases t55 with _ | _
 have hj1:=bif_f hj0
 refine CutN.of (fun s=>∃ t75,Flt.shape.add.j5 s0 mode1 x2 y3 t75 = some r ∧ s = ⟨133,[(1,J mode1),(4,.ptr 0 0),(6,.ptr 1 0),(7,.ptr 2 0),(75,.lit (.bool t75))],[.box [J s0.p,J s0.w],.box [J x2.class_,J x2.sign,U x2.m,J x2.e],.box [J y3.class_,J y3.sign,U y3.m,J y3.e]]⟩) ?_ ?_
 refine C' hj1 (fun hj3=>?_) fun hj3=>?_
 exact B' [0,1,2] ⟨_,hj3,rfl⟩
 refine N' hj3 fun _ hj4=>?_
 exact B' [0,1,2] ⟨_,hj4,rfl⟩
 rintro s ⟨t75,hj0,rfl⟩
 unfold Flt.shape.add.j5 at hj0
 rcases t75 with _ | _
 have hj1:=bif_f hj0
 refine C' hj1 (fun hj3=>?_) fun hj3=>?_
 refine C' hj3 (fun hj5=>?_) fun hj5=>?_
 exact B' [0,1,2] ⟨_,_,_,_,_,_,_,_,_,_,hj5,rfl⟩
 refine Gate.go ?_
 refine V' ?_
 obtain ⟨⟨_,_⟩,et116,hj6⟩:=bind_elim hj5
 refine Gate.go ?_
 refine Z' (Flt.shape.round_ok et116) ?_
 exact R' (E:=E3') hj6
 refine Gate.go ?_
 refine V' ?_
 obtain ⟨⟨_,_⟩,et100,hj4⟩:=bind_elim hj3
 refine Gate.go ?_
 refine Z' (Flt.shape.round_ok et100) ?_
 exact R' (E:=E3') hj4
 have hj1:=bif_t hj0
 refine Gate.go (A' hj1 Flt.shape.none_ok fun _ hj2=>?_)
 exact R' (E:=E3') hj2
 have hj1:=bif_t hj0
 refine Gate.go (A' hj1 Flt.shape.zero_ok fun _ hj2=>?_)
 exact R' (E:=E3') hj2
 refine Gate.go (A' hj5 Flt.shape.infinite_ok fun _ hj6=>?_)
 exact R' (E:=E3') hj6
 refine Gate.go (A' hj3 Flt.shape.infinite_ok fun _ hj4=>?_)
 exact R' (E:=E3') hj4
 have hj1:=bif_t hj0
 refine Gate.go (A' hj1 Flt.shape.quiet_ok fun _ hj2=>?_)
 exact R' (E:=E3') hj2
 have hj1:=bif_t hj0
 refine Gate.go (A' hj1 Flt.shape.quiet_ok fun _ hj2=>?_)
 exact R' (E:=E3') hj2
 rintro s ⟨_,_,_,_,_,_,_,_,_,_,hj0,rfl⟩
 unfold Flt.shape.add.j0 at hj0
 refine CutN.of (fun s=>∃ s4_0_1 s4_1_1 x6_0_1 x6_1_1 x6_2_1 x6_3_1 y7_0_1 y7_1_1 y7_2_1 y7_3_1,Flt.shape.add.j1 mode1 s4_0_1 s4_1_1 x6_0_1 x6_1_1 x6_2_1 x6_3_1 y7_0_1 y7_1_1 y7_2_1 y7_3_1 = some r ∧ s = ⟨133,[(1,J mode1),(4,.ptr 0 0),(6,.ptr 1 0),(7,.ptr 2 0)],[.box [J s4_0_1,J s4_1_1],.box [J x6_0_1,J x6_1_1,U x6_2_1,J x6_3_1],.box [J y7_0_1,J y7_1_1,U y7_2_1,J y7_3_1]]⟩) ?_ ?_
 refine C' hj0 (fun hj2=>?_) fun hj2=>?_
 exact B' [0,1,2] ⟨_,_,_,_,_,_,_,_,_,_,hj2,rfl⟩
 refine V' ?_
 refine V' ?_
 exact B' [0,1,2] ⟨_,_,_,_,_,_,_,_,_,_,hj2,rfl⟩
 rintro s ⟨_,_,_,_,_,_,_,_,_,_,hj0,rfl⟩
 unfold Flt.shape.add.j1 at hj0
 obtain ⟨⟨_,_⟩,et130,hj1⟩:=bind_elim hj0
 refine Gate.go ?_
 refine Z' (Flt.shape.sum_ok et130) ?_
 exact R' (E:=E3') hj1
noncomputable def Flt.Add (kind0 mode1 a2 b3:Int):Option (Int × Int × Int) :=
 Option.bind (Flt.two kind0 mode1 a2 b3) fun (t20_0,t20_1,t20_2,t20_3) =>
 letk (!t20_3) fun t26 =>
 bif t26 then
 some (0,0,2)
 else
 Option.bind (Flt.shape.add (⟨t20_0.p,t20_0.w⟩:float.shape) mode1 (⟨t20_1.class_,t20_1.sign,t20_1.m,t20_1.e⟩:float.number) (⟨t20_2.class_,t20_2.sign,t20_2.m,t20_2.e⟩:float.number)) fun (t32_0,t32_1) =>
 some (t32_0,t32_1,0)
theorem Flt.Add_ok {kind0 mode1 a2 b3:Int} {r:Int × Int × Int} (h0:Flt.Add kind0 mode1 a2 b3 = some r):Gives Tryz.prog 143 [J kind0,J mode1,J a2,J b3] (.tup [J r.1,J r.2.1,J r.2.2]):=by
 unfold Flt.Add at h0
 refine W' [] Tryz.func143 ?_
 obtain ⟨⟨_,_,_,_⟩,et20,h1⟩:=bind_elim h0
 refine Gate.go ?_
 refine Z' (Flt.two_ok et20) ?_
 refine V' ?_
 refine V' ?_
 refine V' ?_
 refine V' ?_
 refine V' ?_
 refine V' ?_
 refine C' h1 (fun h3=>?_) fun h3=>?_
 obtain ⟨⟨_,_⟩,et32,h4⟩:=bind_elim h3
 refine Gate.go ?_
 refine Z' (Flt.shape.add_ok et32) ?_
 exact R' (E:=E8') h4
 exact R' (E:=E8') h3
noncomputable def Flt.Sub (kind0 mode1 a2 b3:Int):Option (Int × Int × Int) :=
 Option.bind (Flt.two kind0 mode1 a2 b3) fun (t20_0,t20_1,t20_2,t20_3) =>
 letk (!t20_3) fun t26 =>
 bif t26 then
 some (0,0,2)
 else
 letk (IntKind.i64.wrap ((1:Int) - t20_2.sign)) fun t29 =>
 Option.bind (Flt.shape.add (⟨t20_0.p,t20_0.w⟩:float.shape) mode1 (⟨t20_1.class_,t20_1.sign,t20_1.m,t20_1.e⟩:float.number) (⟨t20_2.class_,t29,t20_2.m,t20_2.e⟩:float.number)) fun (t36_0,t36_1) =>
 some (t36_0,t36_1,0)
theorem Flt.Sub_ok {kind0 mode1 a2 b3:Int} {r:Int × Int × Int} (h0:Flt.Sub kind0 mode1 a2 b3 = some r):Gives Tryz.prog 144 [J kind0,J mode1,J a2,J b3] (.tup [J r.1,J r.2.1,J r.2.2]):=by
 unfold Flt.Sub at h0
 refine W' [] Tryz.func144 ?_
 obtain ⟨⟨_,_,_,_⟩,et20,h1⟩:=bind_elim h0
 refine Gate.go ?_
 refine Z' (Flt.two_ok et20) ?_
 refine V' ?_
 refine V' ?_
 refine V' ?_
 refine V' ?_
 refine V' ?_
 refine V' ?_
 refine C' h1 (fun h3=>?_) fun h3=>?_
 refine N' h3 fun _ h4=>?_
 refine V' ?_
 obtain ⟨⟨_,_⟩,et36,h5⟩:=bind_elim h4
 refine Gate.go ?_
 refine Z' (Flt.shape.add_ok et36) ?_
 exact R' (E:=E8') h5
 exact R' (E:=E8') h3
noncomputable def Flt.Mul.j0 (mode1 t34 s11_0 s11_1 x12_0 x12_1 x12_2 x12_3 y13_0 y13_1 y13_2 y13_3:Int):Option (Int × Int × Int) :=
 Option.bind (Bits.Mul64 x12_2 y13_2) fun (t96_0,t96_1) =>
 letk (IntKind.i64.wrap (x12_3 + y13_3)) fun t109 =>
 Option.bind (Flt.shape.round (⟨s11_0,s11_1⟩:float.shape) mode1 t34 (⟨t96_0,t96_1,t109,false⟩:float.exact)) fun (t111_0,t111_1) =>
 some (t111_0,t111_1,0)
noncomputable def Flt.Mul.j4 (mode1:Int) (t23_0:float.shape) (t23_1 t23_2:float.number) (t34:Int) (t79:Bool):Option (Int × Int × Int) :=
 bif t79 then
 Option.bind (Flt.shape.zero (⟨t23_0.p,t23_0.w⟩:float.shape) t34) fun t90 =>
 some (t90,0,0)
 else
 Flt.Mul.j0 mode1 t34 t23_0.p t23_0.w t23_1.class_ t23_1.sign t23_1.m t23_1.e t23_2.class_ t23_2.sign t23_2.m t23_2.e
noncomputable def Flt.Mul.j3 (mode1:Int) (t23_0:float.shape) (t23_1 t23_2:float.number) (t34:Int) (t67:Bool):Option (Int × Int × Int) :=
 bif t67 then
 Option.bind (Flt.shape.infinite (⟨t23_0.p,t23_0.w⟩:float.shape) t34) fun t78 =>
 some (t78,0,0)
 else
 letk (t23_1.class_ == (0:Int)) fun t82 =>
 bif t82 then
 Flt.Mul.j4 mode1 t23_0 t23_1 t23_2 t34 true
 else
 letk (t23_2.class_ == (0:Int)) fun t86 =>
 Flt.Mul.j4 mode1 t23_0 t23_1 t23_2 t34 t86
noncomputable def Flt.Mul.j2 (mode1:Int) (t23_0:float.shape) (t23_1 t23_2:float.number) (t34:Int) (t46:Bool):Option (Int × Int × Int) :=
 bif t46 then
 Option.bind (Flt.shape.quiet (⟨t23_0.p,t23_0.w⟩:float.shape)) fun t66 =>
 some (t66,1,0)
 else
 letk (t23_1.class_ == (2:Int)) fun t70 =>
 bif t70 then
 Flt.Mul.j3 mode1 t23_0 t23_1 t23_2 t34 true
 else
 letk (t23_2.class_ == (2:Int)) fun t74 =>
 Flt.Mul.j3 mode1 t23_0 t23_1 t23_2 t34 t74
noncomputable def Flt.Mul.j1 (mode1:Int) (t23_0:float.shape) (t23_1 t23_2:float.number) (t34:Int) (t35:Bool):Option (Int × Int × Int) :=
 bif t35 then
 Option.bind (Flt.shape.quiet (⟨t23_0.p,t23_0.w⟩:float.shape)) fun t45 =>
 some (t45,0,0)
 else
 letk (t23_1.class_ == (2:Int)) fun t49 =>
 bif t49 then
 letk (t23_2.class_ == (0:Int)) fun t53 =>
 bif t53 then
 Flt.Mul.j2 mode1 t23_0 t23_1 t23_2 t34 true
 else
 letk (t23_1.class_ == (0:Int)) fun t58_1 =>
 bif t58_1 then
 letk (t23_2.class_ == (2:Int)) fun t62_1 =>
 Flt.Mul.j2 mode1 t23_0 t23_1 t23_2 t34 t62_1
 else
 Flt.Mul.j2 mode1 t23_0 t23_1 t23_2 t34 false
 else
 letk (t23_1.class_ == (0:Int)) fun t58 =>
 bif t58 then
 letk (t23_2.class_ == (2:Int)) fun t62 =>
 Flt.Mul.j2 mode1 t23_0 t23_1 t23_2 t34 t62
 else
 Flt.Mul.j2 mode1 t23_0 t23_1 t23_2 t34 false
noncomputable def Flt.Mul (kind0 mode1 a2 b3:Int):Option (Int × Int × Int) :=
 Option.bind (Flt.two kind0 mode1 a2 b3) fun (t23_0,t23_1,t23_2,t23_3) =>
 letk (!t23_3) fun t29 =>
 bif t29 then
 some (0,0,2)
 else
 letk (IntKind.i64.wrap (BitVec.ofInt (IntKind.i64).bits t23_1.sign ^^^ BitVec.ofInt (IntKind.i64).bits t23_2.sign).toNat) fun t34 =>
 letk (t23_1.class_ == (3:Int)) fun t38 =>
 bif t38 then
 Flt.Mul.j1 mode1 t23_0 t23_1 t23_2 t34 true
 else
 letk (t23_2.class_ == (3:Int)) fun t42 =>
 Flt.Mul.j1 mode1 t23_0 t23_1 t23_2 t34 t42
theorem Flt.Mul_ok {kind0 mode1 a2 b3:Int} {r:Int × Int × Int} (h0:Flt.Mul kind0 mode1 a2 b3 = some r):Gives Tryz.prog 145 [J kind0,J mode1,J a2,J b3] (.tup [J r.1,J r.2.1,J r.2.2]):=by
 unfold Flt.Mul at h0
 refine W' [(0,13),(45,13),(56,17),(77,21),(89,25)] Tryz.func145 ?_
 obtain ⟨⟨t23_0,t23_1,t23_2,_⟩,et23,h1⟩:=bind_elim h0
 refine Gate.go ?_
 refine Z' (Flt.two_ok et23) ?_
 refine V' ?_
 refine V' ?_
 refine V' ?_
 refine V' ?_
 refine V' ?_
 refine V' ?_
 refine C' h1 (fun h3=>?_) fun h3=>?_
 refine N' h3 fun t34 h4=>?_
 refine CutN.of (fun s=>∃ s11_0 s11_1 x12_0 x12_1 x12_2 x12_3 y13_0 y13_1 y13_2 y13_3,Flt.Mul.j0 mode1 t34 s11_0 s11_1 x12_0 x12_1 x12_2 x12_3 y13_0 y13_1 y13_2 y13_3 = some r ∧ s = ⟨116,[(1,J mode1),(11,.ptr 0 0),(12,.ptr 1 0),(13,.ptr 2 0),(15,J t34)],[.box [J s11_0,J s11_1],.box [J x12_0,J x12_1,U x12_2,J x12_3],.box [J y13_0,J y13_1,U y13_2,J y13_3]]⟩) ?_ ?_
 refine CutN.of (fun s=>∃ t35,Flt.Mul.j1 mode1 t23_0 t23_1 t23_2 t34 t35 = some r ∧ s = ⟨116,[(1,J mode1),(11,.ptr 0 0),(12,.ptr 1 0),(13,.ptr 2 0),(15,J t34),(35,.lit (.bool t35))],[.box [J t23_0.p,J t23_0.w],.box [J t23_1.class_,J t23_1.sign,U t23_1.m,J t23_1.e],.box [J t23_2.class_,J t23_2.sign,U t23_2.m,J t23_2.e]]⟩) ?_ ?_
 refine C' h4 (fun h6=>?_) fun h6=>?_
 refine N' h6 fun _ h7=>?_
 exact B' [0,1,2] ⟨_,h7,rfl⟩
 exact B' [0,1,2] ⟨_,h6,rfl⟩
 rintro s ⟨t35,hj0,rfl⟩
 unfold Flt.Mul.j1 at hj0
 rcases t35 with _ | _
 have hj1:=bif_f hj0
 refine CutN.of (fun s=>∃ t46,Flt.Mul.j2 mode1 t23_0 t23_1 t23_2 t34 t46 = some r ∧ s = ⟨116,[(1,J mode1),(11,.ptr 0 0),(12,.ptr 1 0),(13,.ptr 2 0),(15,J t34),(46,.lit (.bool t46))],[.box [J t23_0.p,J t23_0.w],.box [J t23_1.class_,J t23_1.sign,U t23_1.m,J t23_1.e],.box [J t23_2.class_,J t23_2.sign,U t23_2.m,J t23_2.e]]⟩) ?_ ?_
 refine C' hj1 (fun hj3=>?_) fun hj3=>?_
 refine C' hj3 (fun hj5=>?_) fun hj5=>?_
 exact B' [0,1,2] ⟨_,hj5,rfl⟩
 refine N' hj5 fun _ hj6=>?_
 exact B' [0,1,2] ⟨_,hj6,rfl⟩
 refine C' hj3 (fun hj5=>?_) fun hj5=>?_
 refine C' hj5 (fun hj7=>?_) fun hj7=>?_
 exact B' [0,1,2] ⟨_,hj7,rfl⟩
 refine N' hj7 fun _ hj8=>?_
 exact B' [0,1,2] ⟨_,hj8,rfl⟩
 exact B' [0,1,2] ⟨_,hj5,rfl⟩
 rintro s ⟨t46,hj0,rfl⟩
 unfold Flt.Mul.j2 at hj0
 rcases t46 with _ | _
 have hj1:=bif_f hj0
 refine CutN.of (fun s=>∃ t67,Flt.Mul.j3 mode1 t23_0 t23_1 t23_2 t34 t67 = some r ∧ s = ⟨116,[(1,J mode1),(11,.ptr 0 0),(12,.ptr 1 0),(13,.ptr 2 0),(15,J t34),(67,.lit (.bool t67))],[.box [J t23_0.p,J t23_0.w],.box [J t23_1.class_,J t23_1.sign,U t23_1.m,J t23_1.e],.box [J t23_2.class_,J t23_2.sign,U t23_2.m,J t23_2.e]]⟩) ?_ ?_
 refine C' hj1 (fun hj3=>?_) fun hj3=>?_
 refine N' hj3 fun _ hj4=>?_
 exact B' [0,1,2] ⟨_,hj4,rfl⟩
 exact B' [0,1,2] ⟨_,hj3,rfl⟩
 rintro s ⟨t67,hj0,rfl⟩
 unfold Flt.Mul.j3 at hj0
 rcases t67 with _ | _
 have hj1:=bif_f hj0
 refine CutN.of (fun s=>∃ t79,Flt.Mul.j4 mode1 t23_0 t23_1 t23_2 t34 t79 = some r ∧ s = ⟨116,[(1,J mode1),(11,.ptr 0 0),(12,.ptr 1 0),(13,.ptr 2 0),(15,J t34),(79,.lit (.bool t79))],[.box [J t23_0.p,J t23_0.w],.box [J t23_1.class_,J t23_1.sign,U t23_1.m,J t23_1.e],.box [J t23_2.class_,J t23_2.sign,U t23_2.m,J t23_2.e]]⟩) ?_ ?_
 refine C' hj1 (fun hj3=>?_) fun hj3=>?_
 refine N' hj3 fun _ hj4=>?_
 exact B' [0,1,2] ⟨_,hj4,rfl⟩
 exact B' [0,1,2] ⟨_,hj3,rfl⟩
 rintro s ⟨t79,hj0,rfl⟩
 unfold Flt.Mul.j4 at hj0
 rcases t79 with _ | _
 have hj1:=bif_f hj0
 exact B' [0,1,2] ⟨_,_,_,_,_,_,_,_,_,_,hj1,rfl⟩
 have hj1:=bif_t hj0
 refine Gate.go (A' hj1 Flt.shape.zero_ok fun _ hj2=>?_)
 exact R' (E:=E8') hj2
 have hj1:=bif_t hj0
 refine Gate.go (A' hj1 Flt.shape.infinite_ok fun _ hj2=>?_)
 exact R' (E:=E8') hj2
 have hj1:=bif_t hj0
 refine Gate.go (A' hj1 Flt.shape.quiet_ok fun _ hj2=>?_)
 exact R' (E:=E8') hj2
 have hj1:=bif_t hj0
 refine Gate.go (A' hj1 Flt.shape.quiet_ok fun _ hj2=>?_)
 exact R' (E:=E8') hj2
 rintro s ⟨_,_,_,_,_,_,_,_,_,_,hj0,rfl⟩
 unfold Flt.Mul.j0 at hj0
 obtain ⟨⟨_,_⟩,et96,hj1⟩:=bind_elim hj0
 refine Gate.go ?_
 refine Z' (Bits.Mul64_ok et96) ?_
 refine N' hj1 fun _ hj2=>?_
 refine Gate.go ?_
 refine V' ?_
 obtain ⟨⟨_,_⟩,et111,hj3⟩:=bind_elim hj2
 refine Gate.go ?_
 refine Z' (Flt.shape.round_ok et111) ?_
 exact R' (E:=E8') hj3
 exact R' (E:=E8') h3
noncomputable def Flt.number.high (x0:float.number):Option float.number :=
 Option.bind (Bits.LeadingZeros64 x0.m) fun t6 =>
 chk (0 ≤ t6) <|
 letk (IntKind.u64.wrap (x0.m * 2 ^ (min t6.toNat (IntKind.u64).bits))) fun t10 =>
 letk (IntKind.i64.wrap (x0.e - t6)) fun t15 =>
 some (⟨x0.class_,x0.sign,t10,t15⟩:float.number)
abbrev E13':float.number → AV:=fun r=>(float.number.enc r)
theorem Flt.number.high_ok {x0 r:float.number} (h0:Flt.number.high x0 = some r):Gives Tryz.prog 177 [float.number.enc x0] (float.number.enc r):=by
 unfold Flt.number.high at h0
 refine W' [] Tryz.func177 ?_
 refine V' ?_
 refine V' ?_
 refine Gate.go (A' h0 Bits.LeadingZeros64_ok fun _ h1=>?_)
 refine S' h1 fun h2=>?_
 refine N' h2 fun _ h3=>?_
 refine V' ?_
 refine N' h3 fun _ h4=>?_
 refine V' ?_
 refine V' ?_
 exact R' (E:=E13') h4
noncomputable def Bits.Div64.j3 (t36 t39 t58 q115 t93 q018:Int):Option (Int × Int) :=
 letk (IntKind.u64.wrap (q115 * (4294967296:Int))) fun t122 =>
 letk (IntKind.u64.wrap (t122 + q018)) fun t124 =>
 letk (IntKind.u64.wrap (t93 * (4294967296:Int))) fun t126 =>
 letk (IntKind.u64.wrap (t126 + t58)) fun t128 =>
 letk (IntKind.u64.wrap (q018 * t39)) fun t131 =>
 letk (IntKind.u64.wrap (t128 - t131)) fun t132 =>
 chk (0 ≤ t36) <|
 letk ((IntKind.u64,t132.fdiv (2 ^ (min t36.toNat (IntKind.u64).bits))).2) fun t134 =>
 some (t124,t134)
noncomputable def Bits.Div64.j4 (t36 t39 t41 t43 t58 q115 t93 rhat16 q018_1:Int):Option ((Int × Int) ⊕ (Int × Int)) :=
 letk (IntKind.u64.wrap (q018_1 - (1:Int))) fun t115 =>
 letk (IntKind.u64.wrap (rhat16 + t41)) fun t118 =>
 letk (decide (t118 ≥ (4294967296:Int))) fun t120 =>
 bif t120 then
 (Bits.Div64.j3 t36 t39 t58 q115 t93 t115).map .inr
 else
 some (.inl (t118,t115))
noncomputable def Bits.Div64.s0 (t36 t39 t41 t43 t58 q115 t93 rhat16 q018_1:Int):Option ((Int × Int) ⊕ (Int × Int)) :=
 letk (decide (q018_1 ≥ (4294967296:Int))) fun t103 =>
 bif t103 then
 Bits.Div64.j4 t36 t39 t41 t43 t58 q115 t93 rhat16 q018_1
 else
 letk (IntKind.u64.wrap (q018_1 * t43)) fun t107 =>
 letk (IntKind.u64.wrap ((4294967296:Int) * rhat16)) fun t109 =>
 letk (IntKind.u64.wrap (t109 + t58)) fun t111 =>
 letk (decide (t107 > t111)) fun t112 =>
 bif t112 then
 Bits.Div64.j4 t36 t39 t41 t43 t58 q115 t93 rhat16 q018_1
 else
 (Bits.Div64.j3 t36 t39 t58 q115 t93 q018_1).map .inr
noncomputable def Bits.Div64.l0 (t36 t39 t41 t43 t58 q115 t93 rhat16 q018_1:Int):Option (Int × Int):=loopO (fun v:Int × Int=>Bits.Div64.s0 t36 t39 t41 t43 t58 q115 t93 v.1 v.2) (rhat16,q018_1)
noncomputable def Bits.Div64.j2 (t36 t39 t41 t43 t51 t56 t58 q115:Int):Option (Int × Int) :=
 letk (IntKind.u64.wrap (t51 * (4294967296:Int))) fun t87 =>
 letk (IntKind.u64.wrap (t87 + t56)) fun t89 =>
 letk (IntKind.u64.wrap (q115 * t39)) fun t92 =>
 letk (IntKind.u64.wrap (t89 - t92)) fun t93 =>
 chk (t41 ≠ 0) <|
 letk (IntKind.u64.wrap (t93.tdiv t41)) fun t96 =>
 letk (IntKind.u64.wrap (t96 * t41)) fun t100 =>
 letk (IntKind.u64.wrap (t93 - t100)) fun t101 =>
 Bits.Div64.l0 t36 t39 t41 t43 t58 q115 t93 t101 t96
noncomputable def Bits.Div64.j5 (t36 t39 t41 t43 t51 t56 t58 q115_1 rhat16_1:Int):Option ((Int × Int) ⊕ (Int × Int)) :=
 letk (IntKind.u64.wrap (q115_1 - (1:Int))) fun t80 =>
 letk (IntKind.u64.wrap (rhat16_1 + t41)) fun t83 =>
 letk (decide (t83 ≥ (4294967296:Int))) fun t85 =>
 bif t85 then
 (Bits.Div64.j2 t36 t39 t41 t43 t51 t56 t58 t80).map .inr
 else
 some (.inl (t80,t83))
noncomputable def Bits.Div64.s1 (t36 t39 t41 t43 t51 t56 t58 q115_1 rhat16_1:Int):Option ((Int × Int) ⊕ (Int × Int)) :=
 letk (decide (q115_1 ≥ (4294967296:Int))) fun t68 =>
 bif t68 then
 Bits.Div64.j5 t36 t39 t41 t43 t51 t56 t58 q115_1 rhat16_1
 else
 letk (IntKind.u64.wrap (q115_1 * t43)) fun t72 =>
 letk (IntKind.u64.wrap ((4294967296:Int) * rhat16_1)) fun t74 =>
 letk (IntKind.u64.wrap (t74 + t56)) fun t76 =>
 letk (decide (t72 > t76)) fun t77 =>
 bif t77 then
 Bits.Div64.j5 t36 t39 t41 t43 t51 t56 t58 q115_1 rhat16_1
 else
 (Bits.Div64.j2 t36 t39 t41 t43 t51 t56 t58 q115_1).map .inr
noncomputable def Bits.Div64.l1 (t36 t39 t41 t43 t51 t56 t58 q115_1 rhat16_1:Int):Option (Int × Int):=loopO (fun v:Int × Int=>Bits.Div64.s1 t36 t39 t41 t43 t51 t56 t58 v.1 v.2) (q115_1,rhat16_1)
noncomputable def Bits.Div64.j1 (hi0 lo1 y2:Int):Option (Int × Int) :=
 letk (hi0 == (0:Int)) fun t27 =>
 bif t27 then
 chk (y2 ≠ 0) <|
 letk (IntKind.u64.wrap (lo1.tdiv y2)) fun t30 =>
 chk (y2 ≠ 0) <|
 letk (lo1.tmod y2) fun t33 =>
 some (t30,t33)
 else
 Option.bind (Bits.LeadingZeros64 y2) fun t35 =>
 letk (IntKind.u64.wrap t35) fun t36 =>
 chk (0 ≤ t36) <|
 letk (IntKind.u64.wrap (y2 * 2 ^ (min t36.toNat (IntKind.u64).bits))) fun t39 =>
 chk (0 ≤ (32:Int)) <|
 letk ((IntKind.u64,t39.fdiv (2 ^ (min (32:Int).toNat (IntKind.u64).bits))).2) fun t41 =>
 letk (IntKind.u64.wrap (BitVec.ofInt (IntKind.u64).bits t39 &&& BitVec.ofInt (IntKind.u64).bits (4294967295:Int)).toNat) fun t43 =>
 chk (0 ≤ t36) <|
 letk (IntKind.u64.wrap (hi0 * 2 ^ (min t36.toNat (IntKind.u64).bits))) fun t46 =>
 letk (IntKind.u64.wrap ((64:Int) - t36)) fun t49 =>
 chk (0 ≤ t49) <|
 letk ((IntKind.u64,lo1.fdiv (2 ^ (min t49.toNat (IntKind.u64).bits))).2) fun t50 =>
 letk (IntKind.u64.wrap (BitVec.ofInt (IntKind.u64).bits t46 ||| BitVec.ofInt (IntKind.u64).bits t50).toNat) fun t51 =>
 chk (0 ≤ t36) <|
 letk (IntKind.u64.wrap (lo1 * 2 ^ (min t36.toNat (IntKind.u64).bits))) fun t54 =>
 chk (0 ≤ (32:Int)) <|
 letk ((IntKind.u64,t54.fdiv (2 ^ (min (32:Int).toNat (IntKind.u64).bits))).2) fun t56 =>
 letk (IntKind.u64.wrap (BitVec.ofInt (IntKind.u64).bits t54 &&& BitVec.ofInt (IntKind.u64).bits (4294967295:Int)).toNat) fun t58 =>
 chk (t41 ≠ 0) <|
 letk (IntKind.u64.wrap (t51.tdiv t41)) fun t61 =>
 letk (IntKind.u64.wrap (t61 * t41)) fun t65 =>
 letk (IntKind.u64.wrap (t51 - t65)) fun t66 =>
 Bits.Div64.l1 t36 t39 t41 t43 t51 t56 t58 t61 t66
noncomputable def Bits.Div64.j0 (hi0 lo1 y2:Int):Option (Int × Int) :=
 letk (decide (y2 ≤ hi0)) fun t24 =>
 bif t24 then
 none
 else
 Bits.Div64.j1 hi0 lo1 y2
noncomputable def Bits.Div64 (hi0 lo1 y2:Int):Option (Int × Int) :=
 letk (y2 == (0:Int)) fun t20 =>
 bif t20 then
 none
 else
 Bits.Div64.j0 hi0 lo1 y2
theorem Bits.Div64_ok {hi0 lo1 y2:Int} {r:Int × Int} (h0:Bits.Div64 hi0 lo1 y2 = some r):Gives Tryz.prog 194 [U hi0,U lo1,U y2] (.tup [U r.1,U r.2]):=by
 unfold Bits.Div64 at h0
 refine W' [(0,3),(0,5),(0,21),(0,28),(1,3),(1,1)] Tryz.func194 ?_
 refine CutN.of (fun s=>Bits.Div64.j0 hi0 lo1 y2 = some r ∧ s = ⟨135,[(0,U hi0),(1,U lo1),(2,U y2)],[]⟩) ?_ ?_
 refine C' h0 (fun h2=>?_) fun h2=>?_
 exact B' [] ⟨h2,rfl⟩
 cases h2
 rintro s ⟨hj0,rfl⟩
 unfold Bits.Div64.j0 at hj0
 refine CutN.of (fun s=>Bits.Div64.j1 hi0 lo1 y2 = some r ∧ s = ⟨135,[(0,U hi0),(1,U lo1),(2,U y2)],[]⟩) ?_ ?_
 refine C' hj0 (fun hj2=>?_) fun hj2=>?_
 exact B' [] ⟨hj2,rfl⟩
 cases hj2
 rintro s ⟨hj0,rfl⟩
 unfold Bits.Div64.j1 at hj0
 refine C' hj0 (fun hj2=>?_) fun hj2=>?_
 refine Gate.go (A' hj2 Bits.LeadingZeros64_ok fun _ hj3=>?_)
 refine N' hj3 fun t36 hj4=>?_
 obtain ⟨chj5,hj5⟩:=chk_elim hj4
 obtain ⟨t39,et39,hj6⟩:=letk_elim hj5
 refine Side.mk chj5 ?_
 refine Nm.mk ⟨t39,et39,?_⟩
 obtain ⟨chj7,hj7⟩:=chk_elim hj6
 obtain ⟨t41,et41,hj8⟩:=letk_elim hj7
 refine Side.mk chj7 ?_
 refine Nm.mk ⟨t41,et41,?_⟩
 refine N' hj8 fun t43 hj9=>?_
 refine S' hj9 fun hj10=>?_
 refine N' hj10 fun _ hj11=>?_
 refine N' hj11 fun _ hj12=>?_
 refine S' hj12 fun hj13=>?_
 refine N' hj13 fun _ hj14=>?_
 refine N' hj14 fun t51 hj15=>?_
 refine S' hj15 fun hj16=>?_
 refine N' hj16 fun _ hj17=>?_
 refine S' hj17 fun hj18=>?_
 refine N' hj18 fun t56 hj19=>?_
 refine N' hj19 fun t58 hj20=>?_
 refine S' hj20 fun hj21=>?_
 refine N' hj21 fun t61 hj22=>?_
 refine N' hj22 fun _ hj23=>?_
 refine N' hj23 fun t66 hj24=>?_
 refine CutN.of (fun s=>∃ q115,Bits.Div64.j2 t36 t39 t41 t43 t51 t56 t58 q115 = some r ∧ s = ⟨135,[(2,U t39),(8,U t36),(9,U t41),(10,U t43),(11,U t51),(13,U t56),(14,U t58),(15,U q115)],[]⟩) ?_ ?_
 unfold Bits.Div64.l1 at hj24
 refine LoopB.of (σ:=Int × Int) (ρ:=Int × Int) (fun v:Int × Int=>Bits.Div64.s1 t36 t39 t41 t43 t51 t56 t58 v.1 v.2) (fun v=>(⟨135,[(2,U t39),(8,U t36),(9,U t41),(10,U t43),(11,U t51),(13,U t56),(14,U t58),(15,U v.1),(16,U v.2)],[]⟩:St)) (t61,t66) hj24 (B' [] rfl) ?_
 rintro K1 ⟨q115_1,rhat16_1⟩ x1 hs1_0 hl1 hr1
 replace hs1_0:Bits.Div64.s1 t36 t39 t41 t43 t51 t56 t58 q115_1 rhat16_1 = some x1:=hs1_0
 unfold Bits.Div64.s1 at hs1_0
 refine CutN.of (fun s=>Bits.Div64.j5 t36 t39 t41 t43 t51 t56 t58 q115_1 rhat16_1 = some x1 ∧ s = ⟨135,[(2,U t39),(8,U t36),(9,U t41),(10,U t43),(11,U t51),(13,U t56),(14,U t58),(15,U q115_1),(16,U rhat16_1)],[]⟩) ?_ ?_
 refine C' hs1_0 (fun hs1_2=>?_) fun hs1_2=>?_
 refine N' hs1_2 fun _ hs1_3=>?_
 refine N' hs1_3 fun _ hs1_4=>?_
 refine N' hs1_4 fun _ hs1_5=>?_
 refine C' hs1_5 (fun hs1_7=>?_) fun hs1_7=>?_
 obtain ⟨_,hs1_7u,ehs1_7_0⟩:=map_elim hs1_7
 have ehs1_7_0:=(hr1 _ ehs1_7_0.symm).symm
 subst ehs1_7_0
 exact B' [] ⟨_,hs1_7u,rfl⟩
 exact B' [] ⟨hs1_7,rfl⟩
 exact B' [] ⟨hs1_2,rfl⟩
 rintro s ⟨hj0,rfl⟩
 unfold Bits.Div64.j5 at hj0
 refine N' hj0 fun _ hj1=>?_
 refine N' hj1 fun _ hj2=>?_
 refine C' hj2 (fun hj4=>?_) fun hj4=>?_
 exact B' [] ⟨_,hl1 _ (Option.some.inj hj4).symm,rfl⟩
 obtain ⟨yhj4_0,hj4u,ehj4_0⟩:=map_elim hj4
 have ehj4_0:=(hr1 _ ehj4_0.symm).symm
 subst ehj4_0
 exact B' [] ⟨_,hj4u,rfl⟩
 rintro s ⟨q115,hj0,rfl⟩
 unfold Bits.Div64.j2 at hj0
 refine N' hj0 fun _ hj1=>?_
 refine N' hj1 fun _ hj2=>?_
 refine N' hj2 fun _ hj3=>?_
 refine N' hj3 fun t93 hj4=>?_
 obtain ⟨chj5,hj5⟩:=chk_elim hj4
 obtain ⟨t96,et96,hj6⟩:=letk_elim hj5
 refine Side.mk chj5 ?_
 refine Nm.mk ⟨t96,et96,?_⟩
 refine N' hj6 fun _ hj7=>?_
 refine N' hj7 fun t101 hj8=>?_
 refine CutN.of (fun s=>∃ q018,Bits.Div64.j3 t36 t39 t58 q115 t93 q018 = some r ∧ s = ⟨135,[(2,U t39),(8,U t36),(14,U t58),(15,U q115),(17,U t93),(18,U q018)],[]⟩) ?_ ?_
 unfold Bits.Div64.l0 at hj8
 refine LoopB.of (σ:=Int × Int) (ρ:=Int × Int) (fun v:Int × Int=>Bits.Div64.s0 t36 t39 t41 t43 t58 q115 t93 v.1 v.2) (fun v=>(⟨135,[(2,U t39),(8,U t36),(9,U t41),(10,U t43),(14,U t58),(15,U q115),(16,U v.1),(17,U t93),(18,U v.2)],[]⟩:St)) (t101,t96) hj8 (B' [] rfl) ?_
 rintro _ ⟨rhat16,q018_1⟩ x1 hs0_0 hl1 hr1
 replace hs0_0:Bits.Div64.s0 t36 t39 t41 t43 t58 q115 t93 rhat16 q018_1 = some x1:=hs0_0
 unfold Bits.Div64.s0 at hs0_0
 refine CutN.of (fun s=>Bits.Div64.j4 t36 t39 t41 t43 t58 q115 t93 rhat16 q018_1 = some x1 ∧ s = ⟨135,[(2,U t39),(8,U t36),(9,U t41),(10,U t43),(14,U t58),(15,U q115),(16,U rhat16),(17,U t93),(18,U q018_1)],[]⟩) ?_ ?_
 refine C' hs0_0 (fun hs0_2=>?_) fun hs0_2=>?_
 refine N' hs0_2 fun _ hs0_3=>?_
 refine N' hs0_3 fun _ hs0_4=>?_
 refine N' hs0_4 fun _ hs0_5=>?_
 refine C' hs0_5 (fun hs0_7=>?_) fun hs0_7=>?_
 obtain ⟨_,hs0_7u,ehs0_7_0⟩:=map_elim hs0_7
 have ehs0_7_0:=(hr1 _ ehs0_7_0.symm).symm
 subst ehs0_7_0
 exact B' [] ⟨_,hs0_7u,rfl⟩
 exact B' [] ⟨hs0_7,rfl⟩
 exact B' [] ⟨hs0_2,rfl⟩
 rintro s ⟨hj0,rfl⟩
 unfold Bits.Div64.j4 at hj0
 refine N' hj0 fun _ hj1=>?_
 refine N' hj1 fun _ hj2=>?_
 refine C' hj2 (fun hj4=>?_) fun hj4=>?_
 exact B' [] ⟨_,hl1 _ (Option.some.inj hj4).symm,rfl⟩
 obtain ⟨_,hj4u,ehj4_0⟩:=map_elim hj4
 have ehj4_0:=(hr1 _ ehj4_0.symm).symm
 subst ehj4_0
 exact B' [] ⟨_,hj4u,rfl⟩
 rintro s ⟨_,hj0,rfl⟩
 unfold Bits.Div64.j3 at hj0
 refine N' hj0 fun _ hj1=>?_
 refine N' hj1 fun _ hj2=>?_
 refine N' hj2 fun _ hj3=>?_
 refine N' hj3 fun _ hj4=>?_
 refine N' hj4 fun _ hj5=>?_
 refine N' hj5 fun _ hj6=>?_
 refine S' hj6 fun hj7=>?_
 refine N' hj7 fun _ hj8=>?_
 exact R' (E:=E12') hj8
 refine DrawB.ofG [none,none,none,none,none,none,none,none] Tryz_mixed (by kernel_rfl) (by kernel_rfl) ?_
 refine D' rfl (D' rfl ?_)
 refine DS' hj2 (fun c e=>Side.mk c (n' e rfl)) fun _ hj4=>?_
 refine D' rfl (D' rfl ?_)
 refine DS' hj4 (fun c e=>Side.mk c (n' e rfl)) fun _ hj6=>?_
 refine D' rfl (D' rfl ?_)
 exact R' (E:=E12') hj6
noncomputable def Flt.Div.j0 (mode1 t34 s11_0 s11_1 x12_0 x12_1 x12_2 x12_3 y13_0 y13_1 y13_2 y13_3:Int):Option (Int × Int × Int) :=
 Option.bind (Flt.number.high (⟨x12_0,x12_1,x12_2,x12_3⟩:float.number)) fun t86 =>
 Option.bind (Flt.number.high (⟨y13_0,y13_1,y13_2,y13_3⟩:float.number)) fun t88 =>
 chk (0 ≤ (1:Int)) <|
 letk ((IntKind.u64,t86.m.fdiv (2 ^ (min (1:Int).toNat (IntKind.u64).bits))).2) fun t92 =>
 chk (0 ≤ (63:Int)) <|
 letk (IntKind.u64.wrap (t86.m * 2 ^ (min (63:Int).toNat (IntKind.u64).bits))) fun t95 =>
 Option.bind (Bits.Div64 t92 t95 t88.m) fun (t98_0,t98_1) =>
 letk (IntKind.i64.wrap (t86.e - t88.e)) fun t110 =>
 letk (IntKind.i64.wrap (t110 - (63:Int))) fun t111 =>
 letk (t98_1 != (0:Int)) fun t113 =>
 Option.bind (Flt.shape.round (⟨s11_0,s11_1⟩:float.shape) mode1 t34 (⟨0,t98_0,t111,t113⟩:float.exact)) fun (t115_0,t115_1) =>
 some (t115_0,t115_1,0)
noncomputable def Flt.Div.j3 (mode1:Int) (t23_0:float.shape) (t23_1 t23_2:float.number) (t34:Int) (t66:Bool):Option (Int × Int × Int) :=
 bif t66 then
 Option.bind (Flt.shape.zero (⟨t23_0.p,t23_0.w⟩:float.shape) t34) fun t77 =>
 some (t77,0,0)
 else
 letk (t23_2.class_ == (0:Int)) fun t81 =>
 bif t81 then
 Option.bind (Flt.shape.infinite (⟨t23_0.p,t23_0.w⟩:float.shape) t34) fun t84 =>
 some (t84,2,0)
 else
 Flt.Div.j0 mode1 t34 t23_0.p t23_0.w t23_1.class_ t23_1.sign t23_1.m t23_1.e t23_2.class_ t23_2.sign t23_2.m t23_2.e
noncomputable def Flt.Div.j2 (mode1:Int) (t23_0:float.shape) (t23_1 t23_2:float.number) (t34:Int) (t46:Bool):Option (Int × Int × Int) :=
 bif t46 then
 Option.bind (Flt.shape.quiet (⟨t23_0.p,t23_0.w⟩:float.shape)) fun t58 =>
 some (t58,1,0)
 else
 letk (t23_1.class_ == (2:Int)) fun t62 =>
 bif t62 then
 Option.bind (Flt.shape.infinite (⟨t23_0.p,t23_0.w⟩:float.shape) t34) fun t65 =>
 some (t65,0,0)
 else
 letk (t23_1.class_ == (0:Int)) fun t69 =>
 bif t69 then
 Flt.Div.j3 mode1 t23_0 t23_1 t23_2 t34 true
 else
 letk (t23_2.class_ == (2:Int)) fun t73 =>
 Flt.Div.j3 mode1 t23_0 t23_1 t23_2 t34 t73
noncomputable def Flt.Div.j1 (mode1:Int) (t23_0:float.shape) (t23_1 t23_2:float.number) (t34:Int) (t35:Bool):Option (Int × Int × Int) :=
 bif t35 then
 Option.bind (Flt.shape.quiet (⟨t23_0.p,t23_0.w⟩:float.shape)) fun t45 =>
 some (t45,0,0)
 else
 letk (t23_1.class_ == t23_2.class_) fun t51 =>
 bif t51 then
 letk (t23_1.class_ != (1:Int)) fun t55 =>
 Flt.Div.j2 mode1 t23_0 t23_1 t23_2 t34 t55
 else
 Flt.Div.j2 mode1 t23_0 t23_1 t23_2 t34 false
noncomputable def Flt.Div (kind0 mode1 a2 b3:Int):Option (Int × Int × Int) :=
 Option.bind (Flt.two kind0 mode1 a2 b3) fun (t23_0,t23_1,t23_2,t23_3) =>
 letk (!t23_3) fun t29 =>
 bif t29 then
 some (0,0,2)
 else
 letk (IntKind.i64.wrap (BitVec.ofInt (IntKind.i64).bits t23_1.sign ^^^ BitVec.ofInt (IntKind.i64).bits t23_2.sign).toNat) fun t34 =>
 letk (t23_1.class_ == (3:Int)) fun t38 =>
 bif t38 then
 Flt.Div.j1 mode1 t23_0 t23_1 t23_2 t34 true
 else
 letk (t23_2.class_ == (3:Int)) fun t42 =>
 Flt.Div.j1 mode1 t23_0 t23_1 t23_2 t34 t42
theorem Flt.Div_ok {kind0 mode1 a2 b3:Int} {r:Int × Int × Int} (h0:Flt.Div kind0 mode1 a2 b3 = some r):Gives Tryz.prog 146 [J kind0,J mode1,J a2,J b3] (.tup [J r.1,J r.2.1,J r.2.2]):=by
 unfold Flt.Div at h0
 refine W' [(0,15),(45,13),(56,17),(76,25)] Tryz.func146 ?_
 obtain ⟨⟨t23_0,t23_1,t23_2,_⟩,et23,h1⟩:=bind_elim h0
 refine Gate.go ?_
 refine Z' (Flt.two_ok et23) ?_
 refine V' ?_
 refine V' ?_
 refine V' ?_
 refine V' ?_
 refine V' ?_
 refine V' ?_
 refine C' h1 (fun h3=>?_) fun h3=>?_
 refine N' h3 fun t34 h4=>?_
 refine CutN.of (fun s=>∃ s11_0 s11_1 x12_0 x12_1 x12_2 x12_3 y13_0 y13_1 y13_2 y13_3,Flt.Div.j0 mode1 t34 s11_0 s11_1 x12_0 x12_1 x12_2 x12_3 y13_0 y13_1 y13_2 y13_3 = some r ∧ s = ⟨120,[(1,J mode1),(11,.ptr 0 0),(12,.ptr 1 0),(13,.ptr 2 0),(15,J t34)],[.box [J s11_0,J s11_1],.box [J x12_0,J x12_1,U x12_2,J x12_3],.box [J y13_0,J y13_1,U y13_2,J y13_3]]⟩) ?_ ?_
 refine CutN.of (fun s=>∃ t35,Flt.Div.j1 mode1 t23_0 t23_1 t23_2 t34 t35 = some r ∧ s = ⟨120,[(1,J mode1),(11,.ptr 0 0),(12,.ptr 1 0),(13,.ptr 2 0),(15,J t34),(35,.lit (.bool t35))],[.box [J t23_0.p,J t23_0.w],.box [J t23_1.class_,J t23_1.sign,U t23_1.m,J t23_1.e],.box [J t23_2.class_,J t23_2.sign,U t23_2.m,J t23_2.e]]⟩) ?_ ?_
 refine C' h4 (fun h6=>?_) fun h6=>?_
 refine N' h6 fun _ h7=>?_
 exact B' [0,1,2] ⟨_,h7,rfl⟩
 exact B' [0,1,2] ⟨_,h6,rfl⟩
 rintro s ⟨t35,hj0,rfl⟩
 unfold Flt.Div.j1 at hj0
 rcases t35 with _ | _
 have hj1:=bif_f hj0
 refine CutN.of (fun s=>∃ t46,Flt.Div.j2 mode1 t23_0 t23_1 t23_2 t34 t46 = some r ∧ s = ⟨120,[(1,J mode1),(11,.ptr 0 0),(12,.ptr 1 0),(13,.ptr 2 0),(15,J t34),(46,.lit (.bool t46))],[.box [J t23_0.p,J t23_0.w],.box [J t23_1.class_,J t23_1.sign,U t23_1.m,J t23_1.e],.box [J t23_2.class_,J t23_2.sign,U t23_2.m,J t23_2.e]]⟩) ?_ ?_
 refine C' hj1 (fun hj3=>?_) fun hj3=>?_
 exact B' [0,1,2] ⟨_,hj3,rfl⟩
 refine N' hj3 fun _ hj4=>?_
 exact B' [0,1,2] ⟨_,hj4,rfl⟩
 rintro s ⟨t46,hj0,rfl⟩
 unfold Flt.Div.j2 at hj0
 rcases t46 with _ | _
 have hj1:=bif_f hj0
 refine C' hj1 (fun hj3=>?_) fun hj3=>?_
 refine CutN.of (fun s=>∃ t66,Flt.Div.j3 mode1 t23_0 t23_1 t23_2 t34 t66 = some r ∧ s = ⟨120,[(1,J mode1),(11,.ptr 0 0),(12,.ptr 1 0),(13,.ptr 2 0),(15,J t34),(66,.lit (.bool t66))],[.box [J t23_0.p,J t23_0.w],.box [J t23_1.class_,J t23_1.sign,U t23_1.m,J t23_1.e],.box [J t23_2.class_,J t23_2.sign,U t23_2.m,J t23_2.e]]⟩) ?_ ?_
 refine C' hj3 (fun hj5=>?_) fun hj5=>?_
 refine N' hj5 fun _ hj6=>?_
 exact B' [0,1,2] ⟨_,hj6,rfl⟩
 exact B' [0,1,2] ⟨_,hj5,rfl⟩
 rintro s ⟨t66,hj0,rfl⟩
 unfold Flt.Div.j3 at hj0
 rcases t66 with _ | _
 have hj1:=bif_f hj0
 refine C' hj1 (fun hj3=>?_) fun hj3=>?_
 exact B' [0,1,2] ⟨_,_,_,_,_,_,_,_,_,_,hj3,rfl⟩
 refine Gate.go (A' hj3 Flt.shape.infinite_ok fun _ hj4=>?_)
 exact R' (E:=E8') hj4
 have hj1:=bif_t hj0
 refine Gate.go (A' hj1 Flt.shape.zero_ok fun _ hj2=>?_)
 exact R' (E:=E8') hj2
 refine Gate.go (A' hj3 Flt.shape.infinite_ok fun _ hj4=>?_)
 exact R' (E:=E8') hj4
 have hj1:=bif_t hj0
 refine Gate.go (A' hj1 Flt.shape.quiet_ok fun _ hj2=>?_)
 exact R' (E:=E8') hj2
 have hj1:=bif_t hj0
 refine Gate.go (A' hj1 Flt.shape.quiet_ok fun _ hj2=>?_)
 exact R' (E:=E8') hj2
 rintro s ⟨s11_0,s11_1,x12_0,x12_1,x12_2,x12_3,y13_0,y13_1,y13_2,y13_3,hj0,rfl⟩
 unfold Flt.Div.j0 at hj0
 refine DrawB.ofFN 0 [.box [J s11_0,J s11_1],.box [J x12_0,J x12_1,U x12_2,J x12_3],.box [J y13_0,J y13_1,U y13_2,J y13_3]] 3 3 [[1],[],[2],[],[1],[2]] [[],[],[],[],[1],[2]] [none,none,none,none,none,none] Tryz_mixed (by kernel_rfl) rfl rfl rfl (by kernel_rfl) ?_
 refine FNode.rd (F:=[1]) (W:=[]) (.agg [J x12_0,J x12_1,U x12_2,J x12_3]) ?_ rfl rfl ?_
 rfl
 obtain ⟨t86,et86,hj1⟩:=bind_elim hj0
 refine FNode.no (W:=[]) (float.number.enc t86) ?_ rfl ?_
 refine Z' (Flt.number.high_ok et86) ?_
 rfl
 refine FNode.rd (F:=[2]) (W:=[]) (.agg [J y13_0,J y13_1,U y13_2,J y13_3]) ?_ rfl rfl ?_
 rfl
 obtain ⟨t88,et88,hj2⟩:=bind_elim hj1
 refine FNode.no (W:=[]) (float.number.enc t88) ?_ rfl ?_
 refine Z' (Flt.number.high_ok et88) ?_
 rfl
 refine FNode.pl (F:=[1]) (W:=[1]) (.undef) [.box [J s11_0,J s11_1],.box [J t86.class_,J t86.sign,U t86.m,J t86.e],.box [J y13_0,J y13_1,U y13_2,J y13_3]] ?_ rfl rfl rfl rfl ?_
 refine V' ?_
 rfl
 refine FNode.pl (F:=[2]) (W:=[2]) (.undef) [.box [J s11_0,J s11_1],.box [J t86.class_,J t86.sign,U t86.m,J t86.e],.box [J t88.class_,J t88.sign,U t88.m,J t88.e]] ?_ rfl rfl rfl rfl ?_
 refine V' ?_
 rfl
 refine S' hj2 fun hj3=>?_
 refine N' hj3 fun _ hj4=>?_
 refine S' hj4 fun hj5=>?_
 refine N' hj5 fun _ hj6=>?_
 obtain ⟨⟨_,_⟩,et98,hj7⟩:=bind_elim hj6
 refine Gate.go ?_
 refine Z' (Bits.Div64_ok et98) ?_
 refine N' hj7 fun _ hj8=>?_
 refine N' hj8 fun _ hj9=>?_
 refine N' hj9 fun _ hj10=>?_
 refine Gate.go ?_
 refine V' ?_
 obtain ⟨⟨_,_⟩,et115,hj11⟩:=bind_elim hj10
 refine Gate.go ?_
 refine Z' (Flt.shape.round_ok et115) ?_
 exact R' (E:=E8') hj11
 exact R' (E:=E8') h3
noncomputable def Arr.reckon (op0:ByteArray) (a1 b2:api.Value):Option (api.Value × Int) :=
 letk (if b2.Kind > a1.Kind then b2.Kind else a1.Kind) fun t17 =>
 Option.bind (Arr.to t17 (⟨a1.Kind,a1.N⟩:api.Value)) fun (t21_0,_) =>
 Option.bind (Arr.to t17 (⟨b2.Kind,b2.N⟩:api.Value)) fun (t27_0,_) =>
 letk (t17 == (1:Int)) fun t31 =>
 bif t31 then
 letk (op0.toList == (⟨#[43]⟩:ByteArray).toList) fun t34 =>
 bif t34 then
 letk (IntKind.i64.wrap (t21_0.N + t27_0.N)) fun t39 =>
 Option.bind (Arr.integer t39) fun (t40_0,t40_1) =>
 some ((⟨t40_0.Kind,t40_0.N⟩:api.Value),t40_1)
 else
 letk (op0.toList == (⟨#[45]⟩:ByteArray).toList) fun t44 =>
 bif t44 then
 letk (IntKind.i64.wrap (t21_0.N - t27_0.N)) fun t49 =>
 Option.bind (Arr.integer t49) fun (t50_0,t50_1) =>
 some ((⟨t50_0.Kind,t50_0.N⟩:api.Value),t50_1)
 else
 letk (op0.toList == (⟨#[42]⟩:ByteArray).toList) fun t54 =>
 bif t54 then
 letk (IntKind.i64.wrap (t21_0.N * t27_0.N)) fun t59 =>
 Option.bind (Arr.integer t59) fun (t60_0,t60_1) =>
 some ((⟨t60_0.Kind,t60_0.N⟩:api.Value),t60_1)
 else
 letk (t27_0.N == (0:Int)) fun t65 =>
 bif t65 then
 some ((⟨0,0⟩:api.Value),90)
 else
 chk (t27_0.N ≠ 0) <|
 letk (IntKind.i64.wrap (t21_0.N.tdiv t27_0.N)) fun t71 =>
 Option.bind (Arr.integer t71) fun (t72_0,t72_1) =>
 some ((⟨t72_0.Kind,t72_0.N⟩:api.Value),t72_1)
 else
 letk (op0.toList == (⟨#[43]⟩:ByteArray).toList) fun t78 =>
 bif t78 then
 Option.bind (Arr.bytes t17) fun t82_3 =>
 Option.bind (Flt.Add t82_3 0 t21_0.N t27_0.N) fun (t87_5_0,_,_) =>
 some ((⟨t17,t87_5_0⟩:api.Value),0)
 else
 letk (op0.toList == (⟨#[45]⟩:ByteArray).toList) fun t78_1 =>
 bif t78_1 then
 Option.bind (Arr.bytes t17) fun t82_2 =>
 Option.bind (Flt.Sub t82_2 0 t21_0.N t27_0.N) fun (t87_4_0,_,_) =>
 some ((⟨t17,t87_4_0⟩:api.Value),0)
 else
 letk (op0.toList == (⟨#[42]⟩:ByteArray).toList) fun t78_2 =>
 bif t78_2 then
 Option.bind (Arr.bytes t17) fun t82_1 =>
 Option.bind (Flt.Mul t82_1 0 t21_0.N t27_0.N) fun (t87_3_0,_,_) =>
 some ((⟨t17,t87_3_0⟩:api.Value),0)
 else
 letk (op0.toList == (⟨#[47]⟩:ByteArray).toList) fun t78_3 =>
 bif t78_3 then
 Option.bind (Arr.bytes t17) fun t82 =>
 Option.bind (Flt.Div t82 0 t21_0.N t27_0.N) fun (t87_0,_,_) =>
 some ((⟨t17,t87_0⟩:api.Value),0)
 else
 none
theorem Arr.reckon_ok {op0:ByteArray} {a1 b2:api.Value} {r:api.Value × Int} (h0:Arr.reckon op0 a1 b2 = some r):Gives Tryz.prog 110 [.lit (.string op0),api.Value.enc a1,api.Value.enc b2] (.tup [api.Value.enc r.1,J r.2]):=by
 unfold Arr.reckon at h0
 refine W' [] Tryz.func110 ?_
 refine V' ?_
 refine V' ?_
 refine V' ?_
 refine N' h0 fun _ h1=>?_
 obtain ⟨⟨_,_⟩,et21,h2⟩:=bind_elim h1
 refine Gate.go ?_
 refine Z' (Arr.to_ok et21) ?_
 refine V' ?_
 obtain ⟨⟨_,_⟩,et27,h3⟩:=bind_elim h2
 refine Gate.go ?_
 refine Z' (Arr.to_ok et27) ?_
 refine V' ?_
 refine C' h3 (fun h5=>?_) fun h5=>?_
 refine MapB.of ?_
 refine ⟨SRM.start rfl rfl rfl (Nat.le_of_ble_eq_true rfl) ?_⟩
 refine SRM.ins (kind:=.string) rfl rfl rfl (by decide) rfl rfl (.inl rfl) (fun _=>rfl) (fun _=>rfl) rfl ?_
 refine SRM.ins (kind:=.string) rfl rfl rfl (by decide) rfl rfl (.inl rfl) (fun _=>rfl) (fun _=>rfl) rfl ?_
 refine SRM.ins (kind:=.string) rfl rfl rfl (by decide) rfl rfl (.inl rfl) (fun _=>rfl) (fun _=>rfl) rfl ?_
 refine SRM.ins (kind:=.string) rfl rfl rfl (by decide) rfl rfl (.inl rfl) (fun _=>rfl) (fun _=>rfl) rfl ?_
 refine SRM.mv (.inl rfl) rfl rfl (Nat.le_of_ble_eq_true rfl) (by decide) ?_
 refine SRM.op rfl (by decide) ?_
 refine ⟨rfl,?_⟩
 obtain ⟨t78,et78,h6⟩:=letk_elim h5
 rcases t78 with _ | _
 have h7:=bif_f h6
 obtain ⟨t78_1,et78_1,h8⟩:=letk_elim h7
 rcases t78_1 with _ | _
 have h9:=bif_f h8
 obtain ⟨t78_2,et78_2,h10⟩:=letk_elim h9
 rcases t78_2 with _ | _
 have h11:=bif_f h10
 obtain ⟨t78_3,et78_3,h12⟩:=letk_elim h11
 rcases t78_3 with _ | _
 have h13:=bif_f h12
 cases h13
 have h13:=bif_t h12
 refine SRM.look (i:=3) (kind:=.string) (v:=.func (.func 146) #[] #[]) (av:=.fn (.func 146) [] []) rfl rfl (by decide) rfl rfl (.inl rfl) rfl (fun _ _ _=>rel_fn0 _) ((findE_str op0 [(⟨#[43]⟩,.func (.func 143) #[] #[]),(⟨#[45]⟩,.func (.func 144) #[] #[]),(⟨#[42]⟩,.func (.func 145) #[] #[]),(⟨#[47]⟩,.func (.func 146) #[] #[])] 0).trans (congrArg some (by simp only [findS,← et78,← et78_1,← et78_2,← et78_3,cond]))) ?_
 refine L' [0,1,2] [4,5,6,8,9] ?_
 refine DrawB.ofG [none,none,none,none,none,none,none,none,none,none,none,none,none,none,none] Tryz_mixed (by kernel_rfl) (by kernel_rfl) ?_
 refine D' rfl (D' rfl ?_)
 refine DC' h13 (fun e=>Z' (Arr.bytes_ok e) rfl) fun _ h14=>?_
 refine D' rfl (D' rfl (D' rfl (D' rfl ?_)))
 obtain ⟨⟨t87_0,t87_1,t87_2⟩,et87,h15⟩:=bind_elim h14
 refine DNodeB.of (.tup [J t87_0,J t87_1,J t87_2]) ?_ ?_
 refine Z' (Flt.Div_ok et87) ?_
 rfl
 refine D' rfl (D' rfl (D' rfl (D' rfl (D' rfl (D' rfl (D' rfl ?_))))))
 refine Gate.go ?_
 refine V' ?_
 refine V' ?_
 exact R' (E:=E10') h15
 have h11:=bif_t h10
 refine SRM.look (i:=2) (kind:=.string) (v:=.func (.func 145) #[] #[]) (av:=.fn (.func 145) [] []) rfl rfl (by decide) rfl rfl (.inl rfl) rfl (fun _ _ _=>rel_fn0 _) ((findE_str op0 [(⟨#[43]⟩,.func (.func 143) #[] #[]),(⟨#[45]⟩,.func (.func 144) #[] #[]),(⟨#[42]⟩,.func (.func 145) #[] #[]),(⟨#[47]⟩,.func (.func 146) #[] #[])] 0).trans (congrArg some (by simp only [findS,← et78,← et78_1,← et78_2,cond]))) ?_
 refine L' [0,1,2] [4,5,6,8,9] ?_
 refine DrawB.ofG [none,none,none,none,none,none,none,none,none,none,none,none,none,none,none] Tryz_mixed (by kernel_rfl) (by kernel_rfl) ?_
 refine D' rfl (D' rfl ?_)
 refine DC' h11 (fun e=>Z' (Arr.bytes_ok e) rfl) fun _ h12=>?_
 refine D' rfl (D' rfl (D' rfl (D' rfl ?_)))
 obtain ⟨⟨t87_3_0,t87_3_1,t87_3_2⟩,et87_3,h13⟩:=bind_elim h12
 refine DNodeB.of (.tup [J t87_3_0,J t87_3_1,J t87_3_2]) ?_ ?_
 refine Z' (Flt.Mul_ok et87_3) ?_
 rfl
 refine D' rfl (D' rfl (D' rfl (D' rfl (D' rfl (D' rfl (D' rfl ?_))))))
 refine Gate.go ?_
 refine V' ?_
 refine V' ?_
 exact R' (E:=E10') h13
 have h9:=bif_t h8
 refine SRM.look (i:=1) (kind:=.string) (v:=.func (.func 144) #[] #[]) (av:=.fn (.func 144) [] []) rfl rfl (by decide) rfl rfl (.inl rfl) rfl (fun _ _ _=>rel_fn0 _) ((findE_str op0 [(⟨#[43]⟩,.func (.func 143) #[] #[]),(⟨#[45]⟩,.func (.func 144) #[] #[]),(⟨#[42]⟩,.func (.func 145) #[] #[]),(⟨#[47]⟩,.func (.func 146) #[] #[])] 0).trans (congrArg some (by simp only [findS,← et78,← et78_1,cond]))) ?_
 refine L' [0,1,2] [4,5,6,8,9] ?_
 refine DrawB.ofG [none,none,none,none,none,none,none,none,none,none,none,none,none,none,none] Tryz_mixed (by kernel_rfl) (by kernel_rfl) ?_
 refine D' rfl (D' rfl ?_)
 refine DC' h9 (fun e=>Z' (Arr.bytes_ok e) rfl) fun _ h10=>?_
 refine D' rfl (D' rfl (D' rfl (D' rfl ?_)))
 obtain ⟨⟨t87_4_0,t87_4_1,t87_4_2⟩,et87_4,h11⟩:=bind_elim h10
 refine DNodeB.of (.tup [J t87_4_0,J t87_4_1,J t87_4_2]) ?_ ?_
 refine Z' (Flt.Sub_ok et87_4) ?_
 rfl
 refine D' rfl (D' rfl (D' rfl (D' rfl (D' rfl (D' rfl (D' rfl ?_))))))
 refine Gate.go ?_
 refine V' ?_
 refine V' ?_
 exact R' (E:=E10') h11
 have h7:=bif_t h6
 refine SRM.look (i:=0) (kind:=.string) (v:=.func (.func 143) #[] #[]) (av:=.fn (.func 143) [] []) rfl rfl (by decide) rfl rfl (.inl rfl) rfl (fun _ _ _=>rel_fn0 _) ((findE_str op0 [(⟨#[43]⟩,.func (.func 143) #[] #[]),(⟨#[45]⟩,.func (.func 144) #[] #[]),(⟨#[42]⟩,.func (.func 145) #[] #[]),(⟨#[47]⟩,.func (.func 146) #[] #[])] 0).trans (congrArg some (by simp only [findS,← et78,cond]))) ?_
 refine L' [0,1,2] [4,5,6,8,9] ?_
 refine DrawB.ofG [none,none,none,none,none,none,none,none,none,none,none,none,none,none,none] Tryz_mixed (by kernel_rfl) (by kernel_rfl) ?_
 refine D' rfl (D' rfl ?_)
 refine DC' h7 (fun e=>Z' (Arr.bytes_ok e) rfl) fun _ h8=>?_
 refine D' rfl (D' rfl (D' rfl (D' rfl ?_)))
 obtain ⟨⟨t87_5_0,t87_5_1,t87_5_2⟩,et87_5,h9⟩:=bind_elim h8
 refine DNodeB.of (.tup [J t87_5_0,J t87_5_1,J t87_5_2]) ?_ ?_
 refine Z' (Flt.Add_ok et87_5) ?_
 rfl
 refine D' rfl (D' rfl (D' rfl (D' rfl (D' rfl (D' rfl (D' rfl ?_))))))
 refine Gate.go ?_
 refine V' ?_
 refine V' ?_
 exact R' (E:=E10') h9
 refine C' h5 (fun h7=>?_) fun h7=>?_
 refine C' h7 (fun h9=>?_) fun h9=>?_
 refine C' h9 (fun h11=>?_) fun h11=>?_
 refine C' h11 (fun h13=>?_) fun h13=>?_
 refine S' h13 fun h14=>?_
 refine N' h14 fun _ h15=>?_
 obtain ⟨⟨_,_⟩,et72,h16⟩:=bind_elim h15
 refine Gate.go ?_
 refine Z' (Arr.integer_ok et72) ?_
 refine V' ?_
 exact R' (E:=E10') h16
 refine Gate.go ?_
 refine V' ?_
 refine V' ?_
 exact R' (E:=E10') h13
 refine N' h11 fun _ h12=>?_
 obtain ⟨⟨_,_⟩,et60,h13⟩:=bind_elim h12
 refine Gate.go ?_
 refine Z' (Arr.integer_ok et60) ?_
 refine V' ?_
 exact R' (E:=E10') h13
 refine N' h9 fun _ h10=>?_
 obtain ⟨⟨_,_⟩,et50,h11⟩:=bind_elim h10
 refine Gate.go ?_
 refine Z' (Arr.integer_ok et50) ?_
 refine V' ?_
 exact R' (E:=E10') h11
 refine N' h7 fun _ h8=>?_
 obtain ⟨⟨_,_⟩,et40,h9⟩:=bind_elim h8
 refine Gate.go ?_
 refine Z' (Arr.integer_ok et40) ?_
 refine V' ?_
 exact R' (E:=E10') h9
noncomputable def Flt.shape.place (s0:float.shape) (a1:Int):Option Int :=
 letk (IntKind.u64.wrap a1) fun t7 =>
 letk (IntKind.i64.wrap (s0.p + s0.w)) fun t12 =>
 letk (IntKind.i64.wrap (t12 - (1:Int))) fun t13 =>
 chk (0 ≤ t13) <|
 letk (IntKind.u64.wrap ((1:Int) * 2 ^ (min t13.toNat (IntKind.u64).bits))) fun t14 =>
 letk (IntKind.u64.wrap (t14 - (1:Int))) fun t15 =>
 letk (IntKind.u64.wrap (BitVec.ofInt (IntKind.u64).bits t7 &&& BitVec.ofInt (IntKind.u64).bits t15).toNat) fun t16 =>
 letk (IntKind.i64.wrap t16) fun t17 =>
 letk (IntKind.u64.wrap a1) fun t19 =>
 letk (IntKind.i64.wrap (s0.p + s0.w)) fun t24 =>
 letk (IntKind.i64.wrap (t24 - (1:Int))) fun t25 =>
 chk (0 ≤ t25) <|
 letk ((IntKind.u64,t19.fdiv (2 ^ (min t25.toNat (IntKind.u64).bits))).2) fun t26 =>
 letk (IntKind.u64.wrap (BitVec.ofInt (IntKind.u64).bits t26 &&& BitVec.ofInt (IntKind.u64).bits (1:Int)).toNat) fun t27 =>
 letk (t27 == (1:Int)) fun t28 =>
 bif t28 then
 letk (IntKind.i64.wrap (0 - t17)) fun t30 =>
 some t30
 else
 some t17
theorem Flt.shape.place_ok {s0:float.shape} {a1 r:Int} (h0:Flt.shape.place s0 a1 = some r):Gives Tryz.prog 195 [float.shape.enc s0,J a1] (J r):=by
 unfold Flt.shape.place at h0
 refine W' [] Tryz.func195 ?_
 refine V' ?_
 refine N' h0 fun _ h1=>?_
 refine N' h1 fun _ h2=>?_
 refine N' h2 fun _ h3=>?_
 refine S' h3 fun h4=>?_
 refine N' h4 fun _ h5=>?_
 refine N' h5 fun _ h6=>?_
 refine N' h6 fun _ h7=>?_
 refine N' h7 fun _ h8=>?_
 refine N' h8 fun _ h9=>?_
 refine N' h9 fun _ h10=>?_
 refine N' h10 fun _ h11=>?_
 refine S' h11 fun h12=>?_
 refine N' h12 fun _ h13=>?_
 refine N' h13 fun _ h14=>?_
 refine C' h14 (fun h16=>?_) fun h16=>?_
 exact R' (E:=E2') h16
 refine N' h16 fun _ h17=>?_
 exact R' (E:=E2') h17
noncomputable def Flt.Compare.j0 (a1 b2:Int) (t18_0:float.shape):Option (Int × Int) :=
 Option.bind (Flt.shape.place (⟨t18_0.p,t18_0.w⟩:float.shape) a1) fun t46 =>
 Option.bind (Flt.shape.place (⟨t18_0.p,t18_0.w⟩:float.shape) b2) fun t49 =>
 letk (decide (t46 < t49)) fun t53 =>
 bif t53 then
 some ((-1),0)
 else
 letk (decide (t46 > t49)) fun t57 =>
 bif t57 then
 some (1,0)
 else
 some (0,0)
noncomputable def Flt.Compare.j1 (a1 b2:Int) (t18_0:float.shape) (t18_1 t18_2:float.number) (t26:Bool):Option (Int × Int) :=
 bif t26 then
 some (2,0)
 else
 letk (t18_1.class_ == (0:Int)) fun t38 =>
 bif t38 then
 letk (t18_2.class_ == (0:Int)) fun t42 =>
 bif t42 then
 some (0,0)
 else
 Flt.Compare.j0 a1 b2 t18_0
 else
 Flt.Compare.j0 a1 b2 t18_0
noncomputable def Flt.Compare (kind0 a1 b2:Int):Option (Int × Int) :=
 Option.bind (Flt.two kind0 0 a1 b2) fun (t18_0,t18_1,t18_2,t18_3) =>
 letk (!t18_3) fun t25 =>
 bif t25 then
 some (0,2)
 else
 letk (t18_1.class_ == (3:Int)) fun t29 =>
 bif t29 then
 Flt.Compare.j1 a1 b2 t18_0 t18_1 t18_2 true
 else
 letk (t18_2.class_ == (3:Int)) fun t33 =>
 Flt.Compare.j1 a1 b2 t18_0 t18_1 t18_2 t33
theorem Flt.Compare_ok {kind0 a1 b2:Int} {r:Int × Int} (h0:Flt.Compare kind0 a1 b2 = some r):Gives Tryz.prog 147 [J kind0,J a1,J b2] (.tup [J r.1,J r.2]):=by
 unfold Flt.Compare at h0
 refine W' [(0,8),(36,11)] Tryz.func147 ?_
 obtain ⟨⟨t18_0,t18_1,t18_2,_⟩,et18,h1⟩:=bind_elim h0
 refine Gate.go ?_
 refine Z' (Flt.two_ok et18) ?_
 refine V' ?_
 refine V' ?_
 refine V' ?_
 refine V' ?_
 refine V' ?_
 refine V' ?_
 refine CutN.of (fun s=>Flt.Compare.j0 a1 b2 t18_0 = some r ∧ s = ⟨58,[(1,J a1),(2,J b2),(8,.ptr 0 0)],[.box [J t18_0.p,J t18_0.w]]⟩) ?_ ?_
 refine C' h1 (fun h3=>?_) fun h3=>?_
 refine CutN.of (fun s=>∃ t26,Flt.Compare.j1 a1 b2 t18_0 t18_1 t18_2 t26 = some r ∧ s = ⟨58,[(1,J a1),(2,J b2),(8,.ptr 0 0),(9,.ptr 1 0),(10,.ptr 2 0),(26,.lit (.bool t26))],[.box [J t18_0.p,J t18_0.w],.box [J t18_1.class_,J t18_1.sign,U t18_1.m,J t18_1.e],.box [J t18_2.class_,J t18_2.sign,U t18_2.m,J t18_2.e]]⟩) ?_ ?_
 refine C' h3 (fun h5=>?_) fun h5=>?_
 refine N' h5 fun _ h6=>?_
 exact B' [0,1,2] ⟨_,h6,rfl⟩
 exact B' [0,1,2] ⟨_,h5,rfl⟩
 rintro s ⟨t26,hj0,rfl⟩
 unfold Flt.Compare.j1 at hj0
 rcases t26 with _ | _
 have hj1:=bif_f hj0
 refine C' hj1 (fun hj3=>?_) fun hj3=>?_
 exact B' [0] ⟨hj3,rfl⟩
 refine C' hj3 (fun hj5=>?_) fun hj5=>?_
 exact B' [0] ⟨hj5,rfl⟩
 exact R' (E:=E3') hj5
 have hj1:=bif_t hj0
 exact R' (E:=E3') hj1
 exact R' (E:=E3') h3
 rintro s ⟨hj0,rfl⟩
 unfold Flt.Compare.j0 at hj0
 refine DrawB.ofG [none,none,none,none,none,none,none,none] Tryz_mixed (by kernel_rfl) (by kernel_rfl) ?_
 refine D' rfl (D' rfl ?_)
 refine DC' hj0 (fun e=>Z' (Flt.shape.place_ok e) rfl) fun _ hj1=>?_
 refine D' rfl (D' rfl ?_)
 refine DC' hj1 (fun e=>Z' (Flt.shape.place_ok e) rfl) fun _ hj2=>?_
 refine D' rfl (D' rfl ?_)
 refine C' hj2 (fun hj4=>?_) fun hj4=>?_
 refine C' hj4 (fun hj6=>?_) fun hj6=>?_
 exact R' (E:=E3') hj6
 exact R' (E:=E3') hj6
 exact R' (E:=E3') hj4
noncomputable def Arr.compared (a0 b1:api.Value):Option Int :=
 letk (if b1.Kind > a0.Kind then b1.Kind else a0.Kind) fun t12 =>
 Option.bind (Arr.to t12 (⟨a0.Kind,a0.N⟩:api.Value)) fun (t16_0,_) =>
 Option.bind (Arr.to t12 (⟨b1.Kind,b1.N⟩:api.Value)) fun (t22_0,_) =>
 letk (t12 == (1:Int)) fun t26 =>
 bif t26 then
 letk (IntKind.i64.wrap (t16_0.N - t22_0.N)) fun t31 =>
 letk (if ((-1)) > t31 then (-1) else t31) fun t32 =>
 letk (if 1 < t32 then 1 else t32) fun t33 =>
 some t33
 else
 Option.bind (Arr.bytes t12) fun t36 =>
 Option.bind (Flt.Compare t36 t16_0.N t22_0.N) fun (t41_0,_) =>
 some t41_0
theorem Arr.compared_ok {a0 b1:api.Value} {r:Int} (h0:Arr.compared a0 b1 = some r):Gives Tryz.prog 112 [api.Value.enc a0,api.Value.enc b1] (J r):=by
 unfold Arr.compared at h0
 refine W' [] Tryz.func112 ?_
 refine V' ?_
 refine V' ?_
 refine N' h0 fun _ h1=>?_
 obtain ⟨⟨_,_⟩,et16,h2⟩:=bind_elim h1
 refine Gate.go ?_
 refine Z' (Arr.to_ok et16) ?_
 refine V' ?_
 obtain ⟨⟨_,_⟩,et22,h3⟩:=bind_elim h2
 refine Gate.go ?_
 refine Z' (Arr.to_ok et22) ?_
 refine V' ?_
 refine C' h3 (fun h5=>?_) fun h5=>?_
 refine L' [0,1] [2,3,5] ?_
 refine DrawB.ofG [none,none,none,none,none,none,none,none,none,none,none,none] Tryz_mixed (by kernel_rfl) (by kernel_rfl) ?_
 refine D' rfl ?_
 refine DC' h5 (fun e=>Z' (Arr.bytes_ok e) rfl) fun _ h6=>?_
 refine D' rfl (D' rfl (D' rfl (D' rfl ?_)))
 obtain ⟨⟨t41_0,t41_1⟩,et41,h7⟩:=bind_elim h6
 refine DNodeB.of (.tup [J t41_0,J t41_1]) ?_ ?_
 refine Z' (Flt.Compare_ok et41) ?_
 rfl
 refine D' rfl (D' rfl (D' rfl (D' rfl (D' rfl ?_))))
 exact R' (E:=E2') h7
 refine N' h5 fun _ h6=>?_
 refine N' h6 fun _ h7=>?_
 refine N' h7 fun _ h8=>?_
 exact R' (E:=E2') h8
noncomputable def Arr.holds (op0:ByteArray) (n1:Int):Option Bool :=
 letk (op0.toList == (⟨#[61,61]⟩:ByteArray).toList) fun t7 =>
 bif t7 then
 letk (n1 == (0:Int)) fun t9 =>
 some t9
 else
 letk (op0.toList == (⟨#[47,61]⟩:ByteArray).toList) fun t11 =>
 bif t11 then
 letk (n1 != (0:Int)) fun t13 =>
 some t13
 else
 letk (op0.toList == (⟨#[60]⟩:ByteArray).toList) fun t15 =>
 bif t15 then
 letk (n1 == ((-1):Int)) fun t17 =>
 some t17
 else
 letk (op0.toList == (⟨#[60,61]⟩:ByteArray).toList) fun t19 =>
 bif t19 then
 letk (n1 == ((-1):Int)) fun t21 =>
 bif t21 then
 some true
 else
 letk (n1 == (0:Int)) fun t24 =>
 some t24
 else
 letk (op0.toList == (⟨#[62]⟩:ByteArray).toList) fun t27 =>
 bif t27 then
 letk (n1 == (1:Int)) fun t29 =>
 some t29
 else
 letk (n1 == (0:Int)) fun t31 =>
 bif t31 then
 some true
 else
 letk (n1 == (1:Int)) fun t34 =>
 some t34
theorem Arr.holds_ok {op0:ByteArray} {n1:Int} {r:Bool} (h0:Arr.holds op0 n1 = some r):Gives Tryz.prog 111 [.lit (.string op0),J n1] (.lit (.bool r)):=by
 unfold Arr.holds at h0
 refine W' [] Tryz.func111 ?_
 refine C' h0 (fun h2=>?_) fun h2=>?_
 refine C' h2 (fun h4=>?_) fun h4=>?_
 refine C' h4 (fun h6=>?_) fun h6=>?_
 refine C' h6 (fun h8=>?_) fun h8=>?_
 refine C' h8 (fun h10=>?_) fun h10=>?_
 refine C' h10 (fun h12=>?_) fun h12=>?_
 refine N' h12 fun _ h13=>?_
 exact R' (E:=E1') h13
 exact R' (E:=E1') h12
 refine N' h10 fun _ h11=>?_
 exact R' (E:=E1') h11
 refine C' h8 (fun h10=>?_) fun h10=>?_
 refine N' h10 fun _ h11=>?_
 exact R' (E:=E1') h11
 exact R' (E:=E1') h10
 refine N' h6 fun _ h7=>?_
 exact R' (E:=E1') h7
 refine N' h4 fun _ h5=>?_
 exact R' (E:=E1') h5
 refine N' h2 fun _ h3=>?_
 exact R' (E:=E1') h3
end Go.Q
