import Derived.Test.YtemmhailjfdfdaaGreatAG5
import Derived.Test.YtemmhailjfdfdaaGreatFX
import Derived.Test.YtemmhailjfdfdaaGreatFY
import Derived.Test.YtemmhailjfdfdaaGreatProg
namespace Go.Q
open Go Go.Proofs
set_option maxRecDepth 10000
set_option maxHeartbeats 2000000
noncomputable def Ref1.Rounded.j3 (kind0 mode1 sign2 t23 flags16 q15:Int) (kept17_1:List Int):Option (Int × Int) :=
 letk ((kept17_1.length:Int)) fun t112 =>
 letk (IntKind.i64.wrap (t112 + q15)) fun t114 =>
 Option.bind (Ref1.Bias kind0) fun t116 =>
 letk (IntKind.i64.wrap (t116 + (1:Int))) fun t117 =>
 letk (decide (t114 > t117)) fun t118 =>
 bif t118 then
 Option.bind (Ref1.goesUp mode1 sign2 1 true) fun t121 =>
 bif t121 then
 Option.bind (Ref1.Infinite kind0 sign2) fun t124 =>
 some (t124,20)
 else
 Option.bind (Ref1.greatest kind0 sign2) fun t127 =>
 some (t127,20)
 else
 Option.bind (Ref1.Int_ kept17_1) fun t129 =>
 letk ((kept17_1.length:Int)) fun t131 =>
 letk (decide (t131 < t23)) fun t133 =>
 bif t133 then
 Option.bind (Ref1.bits kind0 sign2 0 t129) fun t137 =>
 some (t137,flags16)
 else
 Option.bind (Ref1.least kind0) fun t143 =>
 letk (IntKind.i64.wrap (q15 - t143)) fun t144 =>
 letk (IntKind.i64.wrap (t144 + (1:Int))) fun t145 =>
 letk (IntKind.i64.wrap (t23 - (1:Int))) fun t148 =>
 chk (0 ≤ t148) <|
 letk (IntKind.i64.wrap ((1:Int) * 2 ^ (min t148.toNat (IntKind.i64).bits))) fun t149 =>
 letk (IntKind.i64.wrap (t129 - t149)) fun t150 =>
 Option.bind (Ref1.bits kind0 sign2 t145 t150) fun t151 =>
 some (t151,flags16)
noncomputable def Ref1.Rounded.j2 (kind0 mode1 sign2 t23 t36 flags16:Int) (kept17:List Int):Option (Int × Int) :=
 letk ((kept17.length:Int)) fun t104 =>
 letk (decide (t104 > t23)) fun t106 =>
 bif t106 then
 Option.bind (Ref1.Down kept17 1) fun t108 =>
 letk (IntKind.i64.wrap (t36 + (1:Int))) fun t110 =>
 Ref1.Rounded.j3 kind0 mode1 sign2 t23 flags16 t110 t108
 else
 Ref1.Rounded.j3 kind0 mode1 sign2 t23 flags16 t36 kept17
noncomputable def Ref1.Rounded.j5 (kind0 mode1 sign2 t23 t36:Int) (t50:(List Int)) (flags16_1 half20:Int):Option (Int × Int) :=
 Option.bind (Ref1.digit t50 0) fun t97 =>
 letk (t97 == (1:Int)) fun t98 =>
 Option.bind (Ref1.goesUp mode1 sign2 half20 t98) fun t99 =>
 bif t99 then
 Option.bind (Ref1.Of 1) fun t101 =>
 Option.bind (Ref1.Plus t50 t101) fun t102 =>
 Ref1.Rounded.j2 kind0 mode1 sign2 t23 t36 flags16_1 t102
 else
 Ref1.Rounded.j2 kind0 mode1 sign2 t23 t36 flags16_1 t50
noncomputable def Ref1.Rounded.j4 (kind0 mode1 sign2 t23 t36 e4_1:Int) (t50 t57:(List Int)) (more5_3:Bool) (flags16_1:Int):Option (Int × Int) :=
 letk (decide (t36 > e4_1)) fun t79 =>
 bif t79 then
 Option.bind (Ref1.Of 1) fun t81 =>
 letk (IntKind.i64.wrap (t36 - e4_1)) fun t84 =>
 letk (IntKind.i64.wrap (t84 - (1:Int))) fun t85 =>
 Option.bind (Ref1.Up t81 t85) fun t86 =>
 Option.bind (Ref1.Cmp t57 t86) fun t87 =>
 letk (t87 == (0:Int)) fun t89 =>
 bif t89 then
 bif more5_3 then
 Ref1.Rounded.j5 kind0 mode1 sign2 t23 t36 t50 flags16_1 1
 else
 Ref1.Rounded.j5 kind0 mode1 sign2 t23 t36 t50 flags16_1 t87
 else
 Ref1.Rounded.j5 kind0 mode1 sign2 t23 t36 t50 flags16_1 t87
 else
 Ref1.Rounded.j5 kind0 mode1 sign2 t23 t36 t50 flags16_1 ((-1))
noncomputable def Ref1.Rounded.j1 (kind0 mode1 sign2 t23 t36:Int) (n3_1:List Int) (e4_1:Int) (t50 t57:(List Int)) (more5_2 exact19:Bool):Option (Int × Int) :=
 letk (!exact19) fun t66 =>
 bif t66 then
 letk ((n3_1.length:Int)) fun t68 =>
 letk (IntKind.i64.wrap (t68 + e4_1)) fun t70 =>
 Option.bind (Ref1.Bias kind0) fun t72 =>
 letk (IntKind.i64.wrap ((1:Int) - t72)) fun t73 =>
 letk (decide (t70 ≤ t73)) fun t74 =>
 bif t74 then
 letk (IntKind.i64.wrap ((16:Int) + (8:Int))) fun t76 =>
 Ref1.Rounded.j4 kind0 mode1 sign2 t23 t36 e4_1 t50 t57 more5_2 t76
 else
 Ref1.Rounded.j4 kind0 mode1 sign2 t23 t36 e4_1 t50 t57 more5_2 16
 else
 Ref1.Rounded.j2 kind0 mode1 sign2 t23 t36 0 t50
noncomputable def Ref1.Rounded.j0 (kind0 mode1 sign2 t23 t36:Int) (n3_1:List Int) (e4_1:Int) (more5_1:Bool):Option (Int × Int) :=
 letk (IntKind.i64.wrap (t36 - e4_1)) fun t49 =>
 Option.bind (Ref1.Down n3_1 t49) fun t50 =>
 letk (IntKind.i64.wrap (t36 - e4_1)) fun t55 =>
 Option.bind (Ref1.Up t50 t55) fun t56 =>
 Option.bind (Ref1.Minus n3_1 t56) fun t57 =>
 letk ((t57.length:Int)) fun t59 =>
 letk (t59 == (0:Int)) fun t60 =>
 bif t60 then
 letk (!more5_1) fun t63 =>
 Ref1.Rounded.j1 kind0 mode1 sign2 t23 t36 n3_1 e4_1 t50 t57 more5_1 t63
 else
 Ref1.Rounded.j1 kind0 mode1 sign2 t23 t36 n3_1 e4_1 t50 t57 more5_1 false
noncomputable def Ref1.Rounded (kind0 mode1 sign2:Int) (n3:List Int) (e4:Int) (more5:Bool):Option (Int × Int) :=
 Option.bind (Ref1.Digits kind0) fun t23 =>
 Option.bind (Ref1.Up n3 2) fun t25 =>
 letk (IntKind.i64.wrap (e4 - (2:Int))) fun t27 =>
 letk ((t25.length:Int)) fun t29 =>
 letk (IntKind.i64.wrap (t29 + t27)) fun t31 =>
 letk (IntKind.i64.wrap (t31 - t23)) fun t33 =>
 Option.bind (Ref1.least kind0) fun t35 =>
 letk (if t35 > t33 then t35 else t33) fun t36 =>
 letk (decide (t36 < t27)) fun t39 =>
 bif t39 then
 letk (IntKind.i64.wrap (t27 - t36)) fun t43 =>
 Option.bind (Ref1.Up t25 t43) fun t44 =>
 Ref1.Rounded.j0 kind0 mode1 sign2 t23 t36 t44 t36 more5
 else
 Ref1.Rounded.j0 kind0 mode1 sign2 t23 t36 t25 t27 more5
theorem Ref1.Rounded_ok {kind0 mode1 sign2:Int} {n3:List Int} {e4:Int} {more5:Bool} {r:Int × Int} (h0:Ref1.Rounded kind0 mode1 sign2 n3 e4 more5 = some r):Gives Tryz.prog 156 [J kind0,J mode1,J sign2,.vs 1 (n3.map (eI .u8)),J e4,.lit (.bool more5)] (.tup [J r.1,J r.2]):=by
 unfold Ref1.Rounded at h0
 refine W' [(0,7),(0,10),(0,21),(0,23),(0,14),(0,19)] Tryz.func156 ?_
 refine Gate.go (A' h0 Ref1.Digits_ok fun t23 h1=>?_)
 refine Gate.go (A' h1 Ref1.Up_ok fun _ h2=>?_)
 refine N' h2 fun _ h3=>?_
 obtain ⟨t29,et29,h4⟩:=letk_elim h3
 refine Nm.mk ⟨t29,by rw [et29,List.length_map],?_⟩
 refine N' h4 fun _ h5=>?_
 refine N' h5 fun _ h6=>?_
 refine Gate.go (A' h6 Ref1.least_ok fun _ h7=>?_)
 refine N' h7 fun t36 h8=>?_
 refine CutN.of (fun s=>∃ n3_1 e4_1 more5_1,Ref1.Rounded.j0 kind0 mode1 sign2 t23 t36 n3_1 e4_1 more5_1 = some r ∧ s = ⟨153,[(0,J kind0),(1,J mode1),(2,J sign2),(3,.vs 1 (n3_1.map (eI .u8))),(4,J e4_1),(5,.lit (.bool more5_1)),(14,J t23),(15,J t36),(16,J 0)],[]⟩) ?_ ?_
 refine C' h8 (fun h10=>?_) fun h10=>?_
 exact B' [] ⟨_,_,_,h10,rfl⟩
 refine N' h10 fun _ h11=>?_
 refine Gate.go (A' h11 Ref1.Up_ok fun _ h12=>?_)
 exact B' [] ⟨_,_,_,h12,rfl⟩
 rintro s ⟨n3_1,e4_1,_,hj0,rfl⟩
 unfold Ref1.Rounded.j0 at hj0
 refine N' hj0 fun _ hj1=>?_
 refine Gate.go (A' hj1 Ref1.Down_ok fun t50 hj2=>?_)
 refine N' hj2 fun _ hj3=>?_
 refine Gate.go (A' hj3 Ref1.Up_ok fun _ hj4=>?_)
 refine Gate.go (A' hj4 Ref1.Minus_ok fun t57 hj5=>?_)
 refine CutN.of (fun s=>∃ more5_2 exact19,Ref1.Rounded.j1 kind0 mode1 sign2 t23 t36 n3_1 e4_1 t50 t57 more5_2 exact19 = some r ∧ s = ⟨153,[(0,J kind0),(1,J mode1),(2,J sign2),(3,.vs 1 (n3_1.map (eI .u8))),(4,J e4_1),(5,.lit (.bool more5_2)),(14,J t23),(15,J t36),(16,J 0),(17,.vs 1 (t50.map (eI .u8))),(18,.vs 1 (t57.map (eI .u8))),(19,.lit (.bool exact19))],[]⟩) ?_ ?_
 obtain ⟨t59,et59,hj6⟩:=letk_elim hj5
 refine Nm.mk ⟨t59,by rw [et59,List.length_map],?_⟩
 refine C' hj6 (fun hj8=>?_) fun hj8=>?_
 exact B' [] ⟨_,_,hj8,rfl⟩
 refine N' hj8 fun _ hj9=>?_
 exact B' [] ⟨_,_,hj9,rfl⟩
 rintro s ⟨_,_,hj0,rfl⟩
 unfold Ref1.Rounded.j1 at hj0
 refine CutN.of (fun s=>∃ flags16 kept17,Ref1.Rounded.j2 kind0 mode1 sign2 t23 t36 flags16 kept17 = some r ∧ s = ⟨153,[(0,J kind0),(1,J mode1),(2,J sign2),(14,J t23),(15,J t36),(16,J flags16),(17,.vs 1 (kept17.map (eI .u8)))],[]⟩) ?_ ?_
 refine C' hj0 (fun hj2=>?_) fun hj2=>?_
 exact B' [] ⟨_,_,hj2,rfl⟩
 refine CutN.of (fun s=>∃ more5_3 flags16_1,Ref1.Rounded.j4 kind0 mode1 sign2 t23 t36 e4_1 t50 t57 more5_3 flags16_1 = some r ∧ s = ⟨153,[(0,J kind0),(1,J mode1),(2,J sign2),(4,J e4_1),(5,.lit (.bool more5_3)),(14,J t23),(15,J t36),(16,J flags16_1),(17,.vs 1 (t50.map (eI .u8))),(18,.vs 1 (t57.map (eI .u8)))],[]⟩) ?_ ?_
 obtain ⟨t68,et68,hj3⟩:=letk_elim hj2
 refine Nm.mk ⟨t68,by rw [et68,List.length_map],?_⟩
 refine N' hj3 fun _ hj4=>?_
 refine Gate.go (A' hj4 Ref1.Bias_ok fun _ hj5=>?_)
 refine N' hj5 fun _ hj6=>?_
 refine C' hj6 (fun hj8=>?_) fun hj8=>?_
 exact B' [] ⟨_,_,hj8,rfl⟩
 refine N' hj8 fun _ hj9=>?_
 exact B' [] ⟨_,_,hj9,rfl⟩
 rintro s ⟨more5_3,flags16_1,hj0,rfl⟩
 unfold Ref1.Rounded.j4 at hj0
 refine CutN.of (fun s=>∃ half20,Ref1.Rounded.j5 kind0 mode1 sign2 t23 t36 t50 flags16_1 half20 = some r ∧ s = ⟨153,[(0,J kind0),(1,J mode1),(2,J sign2),(14,J t23),(15,J t36),(16,J flags16_1),(17,.vs 1 (t50.map (eI .u8))),(20,J half20)],[]⟩) ?_ ?_
 refine C' hj0 (fun hj2=>?_) fun hj2=>?_
 exact B' [] ⟨_,hj2,rfl⟩
 refine Gate.go (A' hj2 Ref1.Of_ok fun _ hj3=>?_)
 refine N' hj3 fun _ hj4=>?_
 refine N' hj4 fun _ hj5=>?_
 refine Gate.go (A' hj5 Ref1.Up_ok fun _ hj6=>?_)
 refine Gate.go (A' hj6 Ref1.Cmp_ok fun _ hj7=>?_)
 refine C' hj7 (fun hj9=>?_) fun hj9=>?_
 exact B' [] ⟨_,hj9,rfl⟩
 rcases more5_3 with _ | _
 have hj10:=bif_f hj9
 exact B' [] ⟨_,hj10,rfl⟩
 have hj10:=bif_t hj9
 exact B' [] ⟨_,hj10,rfl⟩
 rintro s ⟨_,hj0,rfl⟩
 unfold Ref1.Rounded.j5 at hj0
 refine Gate.go (A' hj0 Ref1.digit_ok fun _ hj1=>?_)
 refine N' hj1 fun _ hj2=>?_
 refine Gate.go (A' hj2 Ref1.goesUp_ok fun t99 hj3=>?_)
 rcases t99 with _ | _
 have hj4:=bif_f hj3
 exact B' [] ⟨_,_,hj4,rfl⟩
 have hj4:=bif_t hj3
 refine Gate.go (A' hj4 Ref1.Of_ok fun _ hj5=>?_)
 refine Gate.go (A' hj5 Ref1.Plus_ok fun _ hj6=>?_)
 exact B' [] ⟨_,_,hj6,rfl⟩
 rintro s ⟨flags16,_,hj0,rfl⟩
 unfold Ref1.Rounded.j2 at hj0
 refine CutN.of (fun s=>∃ q15 kept17_1,Ref1.Rounded.j3 kind0 mode1 sign2 t23 flags16 q15 kept17_1 = some r ∧ s = ⟨153,[(0,J kind0),(1,J mode1),(2,J sign2),(14,J t23),(15,J q15),(16,J flags16),(17,.vs 1 (kept17_1.map (eI .u8)))],[]⟩) ?_ ?_
 obtain ⟨t104,et104,hj1⟩:=letk_elim hj0
 refine Nm.mk ⟨t104,by rw [et104,List.length_map],?_⟩
 refine C' hj1 (fun hj3=>?_) fun hj3=>?_
 exact B' [] ⟨_,_,hj3,rfl⟩
 refine Gate.go (A' hj3 Ref1.Down_ok fun _ hj4=>?_)
 refine N' hj4 fun _ hj5=>?_
 exact B' [] ⟨_,_,hj5,rfl⟩
 rintro s ⟨_,_,hj0,rfl⟩
 unfold Ref1.Rounded.j3 at hj0
 obtain ⟨t112,et112,hj1⟩:=letk_elim hj0
 refine Nm.mk ⟨t112,by rw [et112,List.length_map],?_⟩
 refine N' hj1 fun _ hj2=>?_
 refine Gate.go (A' hj2 Ref1.Bias_ok fun _ hj3=>?_)
 refine N' hj3 fun _ hj4=>?_
 refine C' hj4 (fun hj6=>?_) fun hj6=>?_
 refine Gate.go (A' hj6 Ref1.Int__ok fun _ hj7=>?_)
 obtain ⟨t131,et131,hj8⟩:=letk_elim hj7
 refine Nm.mk ⟨t131,by rw [et131,List.length_map],?_⟩
 refine C' hj8 (fun hj10=>?_) fun hj10=>?_
 refine L' [] [0,2,14,15,16,21] ?_
 refine DrawB.ofG [none,none,none,none,none,none,none,none,none,none,none,none,none,none,none,none] Tryz_mixed (by kernel_rfl) (by kernel_rfl) ?_
 refine D' rfl (D' rfl (D' rfl (D' rfl ?_)))
 refine DC' hj10 (fun e=>Z' (Ref1.least_ok e) rfl) fun _ hj11=>?_
 refine DN' hj11 (fun e=>n' e rfl) fun _ hj12=>?_
 refine DN' hj12 (fun e=>n' e rfl) fun _ hj13=>?_
 refine D' rfl (D' rfl ?_)
 refine DN' hj13 (fun e=>n' e rfl) fun _ hj14=>?_
 refine DS' hj14 (fun c e=>Side.mk c (n' e rfl)) fun _ hj16=>?_
 refine DN' hj16 (fun e=>n' e rfl) fun _ hj17=>?_
 refine DC' hj17 (fun e=>Z' (Ref1.bits_ok e) rfl) fun _ hj18=>?_
 refine D' rfl (D' rfl (D' rfl ?_))
 exact R' (E:=E3') hj18
 refine Gate.go (A' hj10 Ref1.bits_ok fun _ hj11=>?_)
 exact R' (E:=E3') hj11
 refine Gate.go (A' hj6 Ref1.goesUp_ok fun t121 hj7=>?_)
 rcases t121 with _ | _
 have hj8:=bif_f hj7
 refine Gate.go (A' hj8 Ref1.greatest_ok fun _ hj9=>?_)
 exact R' (E:=E3') hj9
 have hj8:=bif_t hj7
 refine Gate.go (A' hj8 Ref1.Infinite_ok fun _ hj9=>?_)
 exact R' (E:=E3') hj9
noncomputable def Ref1.FromInt.j0 (kind0 mode1 n2:Int):Option (Int × Int × Int) :=
 letk (n2 == (0:Int)) fun t21 =>
 bif t21 then
 Option.bind (Ref1.Zero kind0 0) fun t23 =>
 some (t23,0,0)
 else
 letk (decide (n2 < (0:Int))) fun t25 =>
 bif t25 then
 letk (IntKind.i64.wrap (0 - n2)) fun t27 =>
 Option.bind (Ref1.Of t27) fun t33_1 =>
 Option.bind (Ref1.Rounded kind0 mode1 1 t33_1 0 false) fun (t34_2_0,t34_2_1) =>
 some (t34_2_0,t34_2_1,0)
 else
 Option.bind (Ref1.Of n2) fun t33 =>
 Option.bind (Ref1.Rounded kind0 mode1 0 t33 0 false) fun (t34_0,t34_1) =>
 some (t34_0,t34_1,0)
noncomputable def Ref1.FromInt (kind0 mode1 n2:Int):Option (Int × Int × Int) :=
 Option.bind (Ref1.Digits kind0) fun t13 =>
 letk (t13 == (0:Int)) fun t14 =>
 bif t14 then
 some (0,0,2)
 else
 Option.bind (Ref1.IsMode mode1) fun t17 =>
 letk (!t17) fun t18 =>
 bif t18 then
 some (0,0,2)
 else
 Ref1.FromInt.j0 kind0 mode1 n2
theorem Ref1.FromInt_ok {kind0 mode1 n2:Int} {r:Int × Int × Int} (h0:Ref1.FromInt kind0 mode1 n2 = some r):Gives Tryz.prog 124 [J kind0,J mode1,J n2] (.tup [J r.1,J r.2.1,J r.2.2]):=by
 unfold Ref1.FromInt at h0
 refine W' [(0,3)] Tryz.func124 ?_
 refine CutN.of (fun s=>Ref1.FromInt.j0 kind0 mode1 n2 = some r ∧ s = ⟨39,[(0,J kind0),(1,J mode1),(2,J n2)],[]⟩) ?_ ?_
 refine Gate.go (A' h0 Ref1.Digits_ok fun _ h1=>?_)
 refine C' h1 (fun h3=>?_) fun h3=>?_
 refine Gate.go (A' h3 Ref1.IsMode_ok fun _ h4=>?_)
 refine C' h4 (fun h6=>?_) fun h6=>?_
 exact B' [] ⟨h6,rfl⟩
 exact R' (E:=E8') h6
 exact R' (E:=E8') h3
 rintro s ⟨hj0,rfl⟩
 unfold Ref1.FromInt.j0 at hj0
 refine C' hj0 (fun hj2=>?_) fun hj2=>?_
 refine C' hj2 (fun hj4=>?_) fun hj4=>?_
 refine Gate.go (A' hj4 Ref1.Of_ok fun _ hj5=>?_)
 obtain ⟨⟨_,_⟩,et34,hj6⟩:=bind_elim hj5
 refine Gate.go ?_
 refine Z' (Ref1.Rounded_ok et34) ?_
 exact R' (E:=E8') hj6
 refine N' hj4 fun _ hj5=>?_
 refine Gate.go (A' hj5 Ref1.Of_ok fun _ hj6=>?_)
 obtain ⟨⟨_,_⟩,et34_2,hj7⟩:=bind_elim hj6
 refine Gate.go ?_
 refine Z' (Ref1.Rounded_ok et34_2) ?_
 exact R' (E:=E8') hj7
 refine Gate.go (A' hj2 Ref1.Zero_ok fun _ hj3=>?_)
 exact R' (E:=E8') hj3
noncomputable def Ref1.asked (kind0 mode1 a2 b3:Int):Option Bool :=
 Option.bind (Ref1.IsMode mode1) fun t10 =>
 bif t10 then
 Option.bind (Ref1.Valid kind0 a2) fun t14 =>
 bif t14 then
 Option.bind (Ref1.Valid kind0 b3) fun t19 =>
 some t19
 else
 some false
 else
 some false
theorem Ref1.asked_ok {kind0 mode1 a2 b3:Int} {r:Bool} (h0:Ref1.asked kind0 mode1 a2 b3 = some r):Gives Tryz.prog 148 [J kind0,J mode1,J a2,J b3] (.lit (.bool r)):=by
 unfold Ref1.asked at h0
 refine W' [] Tryz.func148 ?_
 refine Gate.go (A' h0 Ref1.IsMode_ok fun t10 h1=>?_)
 rcases t10 with _ | _
 have h2:=bif_f h1
 exact R' (E:=E1') h2
 have h2:=bif_t h1
 refine Gate.go (A' h2 Ref1.Valid_ok fun t14 h3=>?_)
 rcases t14 with _ | _
 have h4:=bif_f h3
 exact R' (E:=E1') h4
 have h4:=bif_t h3
 refine Gate.go (A' h4 Ref1.Valid_ok fun _ h5=>?_)
 exact R' (E:=E1') h5
noncomputable def Ref1.taken.j0 (kind0 t12 t26 t35 t42:Int) (t4_0:ByteArray) (t4_1:Int) (t4_2:List Int) (t4_3:Int):Option quadratref01.float :=
 letk (IntKind.i64.wrap (t12 - (1:Int))) fun t82 =>
 chk (0 ≤ t82) <|
 letk (IntKind.i64.wrap ((1:Int) * 2 ^ (min t82.toNat (IntKind.i64).bits))) fun t83 =>
 letk (IntKind.i64.wrap (t83 + t26)) fun t85 =>
 Option.bind (Ref1.Of t85) fun t86 =>
 Option.bind (Ref1.Bias kind0) fun t89 =>
 letk (IntKind.i64.wrap (t35 - t89)) fun t90 =>
 letk (IntKind.i64.wrap (t90 - t12)) fun t92 =>
 letk (IntKind.i64.wrap (t92 + (1:Int))) fun t93 =>
 some (⟨⟨#[102,105,110,105,116,101]⟩,t42,t86,t93⟩:quadratref01.float)
noncomputable def Ref1.taken.j2 (kind0 t12 t26 t35 t42:Int) (t4_2_1:List Int) (t62:Bool):Option quadratref01.float :=
 bif t62 then
 some (⟨⟨#[122,101,114,111]⟩,t42,[],0⟩:quadratref01.float)
 else
 letk (t35 == (0:Int)) fun t73 =>
 bif t73 then
 Option.bind (Ref1.Of t26) fun t76 =>
 Option.bind (Ref1.least kind0) fun t78 =>
 some (⟨⟨#[102,105,110,105,116,101]⟩,t42,t76,t78⟩:quadratref01.float)
 else
 Ref1.taken.j0 kind0 t12 t26 t35 t42 (⟨#[]⟩) 0 t4_2_1 0
noncomputable def Ref1.taken.j1 (kind0 t12 t17 t26 t35 t42:Int) (t4_2_1:List Int) (t43:Bool):Option quadratref01.float :=
 bif t43 then
 some (⟨⟨#[105,110,102,105,110,105,116,101]⟩,t42,[],0⟩:quadratref01.float)
 else
 chk (0 ≤ t17) <|
 letk (IntKind.i64.wrap ((1:Int) * 2 ^ (min t17.toNat (IntKind.i64).bits))) fun t58 =>
 letk (IntKind.i64.wrap (t58 - (1:Int))) fun t59 =>
 letk (t35 == t59) fun t60 =>
 bif t60 then
 some (⟨⟨#[110,111,110,101]⟩,0,[],0⟩:quadratref01.float)
 else
 letk (t35 == (0:Int)) fun t64 =>
 bif t64 then
 letk (t26 == (0:Int)) fun t67 =>
 Ref1.taken.j2 kind0 t12 t26 t35 t42 t4_2_1 t67
 else
 Ref1.taken.j2 kind0 t12 t26 t35 t42 t4_2_1 false
noncomputable def Ref1.taken (kind0 a1:Int):Option quadratref01.float :=
 Option.bind (Ref1.Digits kind0) fun t12 =>
 letk (IntKind.i64.wrap ((8:Int) * kind0)) fun t14 =>
 Option.bind (Ref1.Digits kind0) fun t16 =>
 letk (IntKind.i64.wrap (t14 - t16)) fun t17 =>
 letk (IntKind.u64.wrap a1) fun t19 =>
 letk (IntKind.i64.wrap (t12 - (1:Int))) fun t22 =>
 chk (0 ≤ t22) <|
 letk (IntKind.u64.wrap ((1:Int) * 2 ^ (min t22.toNat (IntKind.u64).bits))) fun t23 =>
 letk (IntKind.u64.wrap (t23 - (1:Int))) fun t24 =>
 letk (IntKind.u64.wrap (BitVec.ofInt (IntKind.u64).bits t19 &&& BitVec.ofInt (IntKind.u64).bits t24).toNat) fun t25 =>
 letk (IntKind.i64.wrap t25) fun t26 =>
 letk (IntKind.i64.wrap (t12 - (1:Int))) fun t29 =>
 chk (0 ≤ t29) <|
 letk ((IntKind.u64,t19.fdiv (2 ^ (min t29.toNat (IntKind.u64).bits))).2) fun t30 =>
 chk (0 ≤ t17) <|
 letk (IntKind.u64.wrap ((1:Int) * 2 ^ (min t17.toNat (IntKind.u64).bits))) fun t32 =>
 letk (IntKind.u64.wrap (t32 - (1:Int))) fun t33 =>
 letk (IntKind.u64.wrap (BitVec.ofInt (IntKind.u64).bits t30 &&& BitVec.ofInt (IntKind.u64).bits t33).toNat) fun t34 =>
 letk (IntKind.i64.wrap t34) fun t35 =>
 letk (IntKind.i64.wrap ((8:Int) * kind0)) fun t38 =>
 letk (IntKind.i64.wrap (t38 - (1:Int))) fun t39 =>
 chk (0 ≤ t39) <|
 letk ((IntKind.u64,t19.fdiv (2 ^ (min t39.toNat (IntKind.u64).bits))).2) fun t40 =>
 letk (IntKind.u64.wrap (BitVec.ofInt (IntKind.u64).bits t40 &&& BitVec.ofInt (IntKind.u64).bits (1:Int)).toNat) fun t41 =>
 letk (IntKind.i64.wrap t41) fun t42 =>
 chk (0 ≤ t17) <|
 letk (IntKind.i64.wrap ((1:Int) * 2 ^ (min t17.toNat (IntKind.i64).bits))) fun t46 =>
 letk (IntKind.i64.wrap (t46 - (1:Int))) fun t47 =>
 letk (t35 == t47) fun t48 =>
 bif t48 then
 letk (t26 == (0:Int)) fun t51 =>
 Ref1.taken.j1 kind0 t12 t17 t26 t35 t42 ([]) t51
 else
 Ref1.taken.j1 kind0 t12 t17 t26 t35 t42 ([]) false
abbrev E17':quadratref01.float → AV:=fun r=>(quadratref01.float.enc r)
theorem Ref1.taken_ok {kind0 a1:Int} {r:quadratref01.float} (h0:Ref1.taken kind0 a1 = some r):Gives Tryz.prog 149 [J kind0,J a1] (quadratref01.float.enc r):=by
 unfold Ref1.taken at h0
 refine W' [(0,14),(53,15),(72,23)] Tryz.func149 ?_
 refine V' ?_
 refine Gate.go (A' h0 Ref1.Digits_ok fun t12 h1=>?_)
 refine N' h1 fun _ h2=>?_
 refine Gate.go (A' h2 Ref1.Digits_ok fun _ h3=>?_)
 refine N' h3 fun t17 h4=>?_
 refine N' h4 fun _ h5=>?_
 refine N' h5 fun _ h6=>?_
 refine S' h6 fun h7=>?_
 refine N' h7 fun _ h8=>?_
 refine N' h8 fun _ h9=>?_
 refine N' h9 fun _ h10=>?_
 refine N' h10 fun t26 h11=>?_
 refine DrawB.ofG [none,none,none,none,none,none,none,none,none,none] Tryz_mixed (by kernel_rfl) (by kernel_rfl) ?_
 refine D' rfl (D' rfl ?_)
 refine DN' h11 (fun e=>n' e rfl) fun _ h12=>?_
 refine DS' h12 (fun c e=>Side.mk c (n' e rfl)) fun _ h14=>?_
 refine D' rfl ?_
 refine DS' h14 (fun c e=>Side.mk c (n' e rfl)) fun _ h16=>?_
 refine DN' h16 (fun e=>n' e rfl) fun _ h17=>?_
 refine DN' h17 (fun e=>n' e rfl) fun _ h18=>?_
 refine DN' h18 (fun e=>n' e rfl) fun t35 h19=>?_
 refine D' rfl ?_
 refine N' h19 fun _ h20=>?_
 refine N' h20 fun _ h21=>?_
 refine S' h21 fun h22=>?_
 refine N' h22 fun _ h23=>?_
 refine N' h23 fun _ h24=>?_
 refine N' h24 fun t42 h25=>?_
 refine CutN.of (fun s=>∃ t4_0 t4_1 t4_2 t4_3,Ref1.taken.j0 kind0 t12 t26 t35 t42 t4_0 t4_1 t4_2 t4_3 = some r ∧ s = ⟨95,[(0,J kind0),(4,.ptr 0 0),(5,J t12),(8,J t26),(9,J t35),(10,J t42)],[.box [.lit (.string t4_0),J t4_1,.vs 1 (t4_2.map (eI .u8)),J t4_3]]⟩) ?_ ?_
 refine CutN.of (fun s=>∃ t4_2_1 t43,Ref1.taken.j1 kind0 t12 t17 t26 t35 t42 t4_2_1 t43 = some r ∧ s = ⟨95,[(0,J kind0),(4,.ptr 0 0),(5,J t12),(6,J t17),(8,J t26),(9,J t35),(10,J t42),(43,.lit (.bool t43))],[.box [.lit (.string (⟨#[]⟩)),J 0,.vs 1 (t4_2_1.map (eI .u8)),J 0]]⟩) ?_ ?_
 refine S' h25 fun h26=>?_
 refine N' h26 fun _ h27=>?_
 refine N' h27 fun _ h28=>?_
 refine C' h28 (fun h30=>?_) fun h30=>?_
 exact B' [0] ⟨_,_,h30,rfl⟩
 refine N' h30 fun _ h31=>?_
 exact B' [0] ⟨_,_,h31,rfl⟩
 rintro s ⟨t4_2_1,t43,hj0,rfl⟩
 unfold Ref1.taken.j1 at hj0
 rcases t43 with _ | _
 have hj1:=bif_f hj0
 obtain ⟨chj2,hj2⟩:=chk_elim hj1
 obtain ⟨t58,et58,hj3⟩:=letk_elim hj2
 refine Side.mk chj2 ?_
 refine Nm.mk ⟨t58,et58,?_⟩
 refine N' hj3 fun _ hj4=>?_
 refine C' hj4 (fun hj6=>?_) fun hj6=>?_
 refine CutN.of (fun s=>∃ t62,Ref1.taken.j2 kind0 t12 t26 t35 t42 t4_2_1 t62 = some r ∧ s = ⟨95,[(0,J kind0),(4,.ptr 0 0),(5,J t12),(8,J t26),(9,J t35),(10,J t42),(62,.lit (.bool t62))],[.box [.lit (.string (⟨#[]⟩)),J 0,.vs 1 (t4_2_1.map (eI .u8)),J 0]]⟩) ?_ ?_
 refine C' hj6 (fun hj8=>?_) fun hj8=>?_
 exact B' [0] ⟨_,hj8,rfl⟩
 refine N' hj8 fun _ hj9=>?_
 exact B' [0] ⟨_,hj9,rfl⟩
 rintro s ⟨t62,hj0,rfl⟩
 unfold Ref1.taken.j2 at hj0
 rcases t62 with _ | _
 have hj1:=bif_f hj0
 refine C' hj1 (fun hj3=>?_) fun hj3=>?_
 exact B' [0] ⟨_,_,_,_,hj3,rfl⟩
 refine Gate.go (A' hj3 Ref1.Of_ok fun _ hj4=>?_)
 refine Gate.go (A' hj4 Ref1.least_ok fun _ hj5=>?_)
 refine Gate.go ?_
 refine V' ?_
 refine V' ?_
 exact R' (E:=E17') hj5
 have hj1:=bif_t hj0
 refine Gate.go ?_
 refine V' ?_
 refine V' ?_
 have ehj1_0:=Option.some.inj hj1
 subst ehj1_0
 exact Returns.frozen (r:=quadratref01.float.enc ((⟨⟨#[122,101,114,111]⟩,t42,[],0⟩:quadratref01.float))) [] rfl rfl (WV.aggs ⟨.s,.s,(.nilsVs _),.s,trivial⟩) ⟨rfl,rfl⟩
 refine Gate.go ?_
 refine V' ?_
 refine V' ?_
 have ehj6_0:=Option.some.inj hj6
 subst ehj6_0
 exact Returns.frozen (r:=quadratref01.float.enc ((⟨⟨#[110,111,110,101]⟩,0,[],0⟩:quadratref01.float))) [] rfl rfl (WV.aggs ⟨.s,.s,(.nilsVs _),.s,trivial⟩) ⟨rfl,rfl⟩
 have hj1:=bif_t hj0
 refine Gate.go ?_
 refine V' ?_
 refine V' ?_
 have ehj1_0:=Option.some.inj hj1
 subst ehj1_0
 exact Returns.frozen (r:=quadratref01.float.enc ((⟨⟨#[105,110,102,105,110,105,116,101]⟩,t42,[],0⟩:quadratref01.float))) [] rfl rfl (WV.aggs ⟨.s,.s,(.nilsVs _),.s,trivial⟩) ⟨rfl,rfl⟩
 rintro s ⟨_,_,_,_,hj0,rfl⟩
 unfold Ref1.taken.j0 at hj0
 refine N' hj0 fun _ hj1=>?_
 refine S' hj1 fun hj2=>?_
 refine N' hj2 fun _ hj3=>?_
 refine N' hj3 fun _ hj4=>?_
 refine Gate.go (A' hj4 Ref1.Of_ok fun _ hj5=>?_)
 refine Gate.go (A' hj5 Ref1.Bias_ok fun _ hj6=>?_)
 refine N' hj6 fun _ hj7=>?_
 refine N' hj7 fun _ hj8=>?_
 refine N' hj8 fun _ hj9=>?_
 refine Gate.go ?_
 refine V' ?_
 refine V' ?_
 exact R' (E:=E17') hj9
noncomputable def Ref1.ToInt.j2 (whole10:List Int) (flags11:Int) (x9_0_1:ByteArray) (x9_1_1:Int) (x9_2_1:List Int) (x9_3_1:Int):Option (Int × Int × Int) :=
 Option.bind (Ref1.Int_ whole10) fun t95 =>
 letk (x9_1_1 == (1:Int)) fun t98 =>
 bif t98 then
 letk (IntKind.i64.wrap (0 - t95)) fun t100 =>
 some (t100,flags11,0)
 else
 some (t95,flags11,0)
noncomputable def Ref1.ToInt.j1 (x9_0:ByteArray) (x9_1:Int) (x9_2:List Int) (x9_3:Int) (whole10:List Int) (flags11:Int):Option (Int × Int × Int) :=
 Option.bind (Ref1.Of 1) fun t78 =>
 Option.bind (Ref1.Up t78 63) fun t79 =>
 Option.bind (Ref1.Cmp whole10 t79) fun t82 =>
 letk (decide (t82 > (0:Int))) fun t84 =>
 bif t84 then
 some (0,0,10)
 else
 letk (t82 == (0:Int)) fun t87 =>
 bif t87 then
 letk (x9_1 == (0:Int)) fun t91 =>
 bif t91 then
 some (0,0,10)
 else
 Ref1.ToInt.j2 whole10 flags11 x9_0 x9_1 x9_2 x9_3
 else
 Ref1.ToInt.j2 whole10 flags11 x9_0 x9_1 x9_2 x9_3
noncomputable def Ref1.ToInt.j0 (mode1:Int) (t25:quadratref01.float):Option (Int × Int × Int) :=
 letk (if 0 > t25.e then 0 else t25.e) fun t37 =>
 Option.bind (Ref1.Up t25.m t37) fun t38 =>
 letk (decide (t25.e < (0:Int))) fun t41 =>
 bif t41 then
 letk (IntKind.i64.wrap (0 - t25.e)) fun t46 =>
 Option.bind (Ref1.Down t25.m t46) fun t47 =>
 letk (IntKind.i64.wrap (0 - t25.e)) fun t53 =>
 Option.bind (Ref1.Up t47 t53) fun t54 =>
 Option.bind (Ref1.Minus t25.m t54) fun t55 =>
 letk ((t55.length:Int)) fun t57 =>
 letk (decide (t57 > (0:Int))) fun t58 =>
 bif t58 then
 Option.bind (Ref1.Of 1) fun t60 =>
 letk (IntKind.i64.wrap (0 - t25.e)) fun t63 =>
 letk (IntKind.i64.wrap (t63 - (1:Int))) fun t64 =>
 Option.bind (Ref1.Up t60 t64) fun t65 =>
 Option.bind (Ref1.Cmp t55 t65) fun t66 =>
 Option.bind (Ref1.digit t47 0) fun t72 =>
 letk (t72 == (1:Int)) fun t73 =>
 Option.bind (Ref1.goesUp mode1 t25.sign t66 t73) fun t74 =>
 bif t74 then
 Option.bind (Ref1.Of 1) fun t76 =>
 Option.bind (Ref1.Plus t47 t76) fun t77 =>
 Ref1.ToInt.j1 t25.what t25.sign t25.m t25.e t77 16
 else
 Ref1.ToInt.j1 t25.what t25.sign t25.m t25.e t47 16
 else
 Ref1.ToInt.j1 t25.what t25.sign t25.m t25.e t47 0
 else
 Ref1.ToInt.j1 t25.what t25.sign t25.m t25.e t38 0
noncomputable def Ref1.ToInt.j3 (mode1:Int) (t25:quadratref01.float) (t28:Bool):Option (Int × Int × Int) :=
 bif t28 then
 some (0,0,10)
 else
 letk (t25.what.toList == (⟨#[122,101,114,111]⟩:ByteArray).toList) fun t32 =>
 bif t32 then
 some (0,0,0)
 else
 Ref1.ToInt.j0 mode1 t25
noncomputable def Ref1.ToInt (kind0 mode1 a2:Int):Option (Int × Int × Int) :=
 Option.bind (Ref1.asked kind0 mode1 a2 a2) fun t21 =>
 letk (!t21) fun t22 =>
 bif t22 then
 some (0,0,2)
 else
 Option.bind (Ref1.taken kind0 a2) fun t25 =>
 letk (t25.what.toList == (⟨#[110,111,110,101]⟩:ByteArray).toList) fun t29 =>
 bif t29 then
 Ref1.ToInt.j3 mode1 t25 true
 else
 letk (t25.what.toList == (⟨#[105,110,102,105,110,105,116,101]⟩:ByteArray).toList) fun t30 =>
 Ref1.ToInt.j3 mode1 t25 t30
theorem Ref1.ToInt_ok {kind0 mode1 a2:Int} {r:Int × Int × Int} (h0:Ref1.ToInt kind0 mode1 a2 = some r):Gives Tryz.prog 125 [J kind0,J mode1,J a2] (.tup [J r.1,J r.2.1,J r.2.2]):=by
 unfold Ref1.ToInt at h0
 refine W' [(0,10),(0,20),(0,24),(38,15)] Tryz.func125 ?_
 refine Gate.go (A' h0 Ref1.asked_ok fun _ h1=>?_)
 refine C' h1 (fun h3=>?_) fun h3=>?_
 refine Gate.go (A' h3 Ref1.taken_ok fun t25 h4=>?_)
 refine V' ?_
 refine V' ?_
 refine CutN.of (fun s=>Ref1.ToInt.j0 mode1 t25 = some r ∧ s = ⟨103,[(1,J mode1),(9,.ptr 0 0)],[.box [.lit (.string t25.what),J t25.sign,.vs 1 (t25.m.map (eI .u8)),J t25.e]]⟩) ?_ ?_
 refine CutN.of (fun s=>∃ t28,Ref1.ToInt.j3 mode1 t25 t28 = some r ∧ s = ⟨103,[(1,J mode1),(9,.ptr 0 0),(27,.lit (.string t25.what)),(28,.lit (.bool t28))],[.box [.lit (.string t25.what),J t25.sign,.vs 1 (t25.m.map (eI .u8)),J t25.e]]⟩) ?_ ?_
 refine C' h4 (fun h6=>?_) fun h6=>?_
 refine N' h6 fun _ h7=>?_
 exact B' [0] ⟨_,h7,rfl⟩
 exact B' [0] ⟨_,h6,rfl⟩
 rintro s ⟨t28,hj0,rfl⟩
 unfold Ref1.ToInt.j3 at hj0
 rcases t28 with _ | _
 have hj1:=bif_f hj0
 refine C' hj1 (fun hj3=>?_) fun hj3=>?_
 exact B' [0] ⟨hj3,rfl⟩
 exact R' (E:=E8') hj3
 have hj1:=bif_t hj0
 exact R' (E:=E8') hj1
 rintro s ⟨hj0,rfl⟩
 unfold Ref1.ToInt.j0 at hj0
 refine N' hj0 fun _ hj1=>?_
 refine Gate.go (A' hj1 Ref1.Up_ok fun _ hj2=>?_)
 refine CutN.of (fun s=>∃ x9_0 x9_1 x9_2 x9_3 whole10 flags11,Ref1.ToInt.j1 x9_0 x9_1 x9_2 x9_3 whole10 flags11 = some r ∧ s = ⟨103,[(9,.ptr 0 0),(10,.vs 1 (whole10.map (eI .u8))),(11,J flags11)],[.box [.lit (.string x9_0),J x9_1,.vs 1 (x9_2.map (eI .u8)),J x9_3]]⟩) ?_ ?_
 refine C' hj2 (fun hj4=>?_) fun hj4=>?_
 exact B' [0] ⟨_,_,_,_,_,_,hj4,rfl⟩
 refine N' hj4 fun _ hj5=>?_
 refine Gate.go (A' hj5 Ref1.Down_ok fun _ hj6=>?_)
 refine DrawB.ofG [none,none,none,none,none,none,none,none,none] Tryz_mixed (by kernel_rfl) (by kernel_rfl) ?_
 refine D' rfl (D' rfl (D' rfl (D' rfl (D' rfl ?_))))
 refine DN' hj6 (fun e=>n' e rfl) fun _ hj7=>?_
 refine DC' hj7 (fun e=>Z' (Ref1.Up_ok e) rfl) fun _ hj8=>?_
 refine DC' hj8 (fun e=>Z' (Ref1.Minus_ok e) rfl) fun _ hj9=>?_
 refine D' rfl ?_
 obtain ⟨t57,et57,hj10⟩:=letk_elim hj9
 refine Nm.mk ⟨t57,by rw [et57,List.length_map],?_⟩
 refine C' hj10 (fun hj12=>?_) fun hj12=>?_
 exact B' [0] ⟨_,_,_,_,_,_,hj12,rfl⟩
 refine DrawB.ofG [none,none,none,none,none,none,none,none,none] Tryz_mixed (by kernel_rfl) (by kernel_rfl) ?_
 refine D' rfl ?_
 refine DC' hj12 (fun e=>Z' (Ref1.Of_ok e) rfl) fun _ hj13=>?_
 refine D' rfl (D' rfl ?_)
 refine DN' hj13 (fun e=>n' e rfl) fun _ hj14=>?_
 refine DN' hj14 (fun e=>n' e rfl) fun _ hj15=>?_
 refine DC' hj15 (fun e=>Z' (Ref1.Up_ok e) rfl) fun _ hj16=>?_
 refine DC' hj16 (fun e=>Z' (Ref1.Cmp_ok e) rfl) fun _ hj17=>?_
 refine D' rfl ?_
 refine DrawB.ofG [none,none,none,none,none,none,none,none] Tryz_mixed (by kernel_rfl) (by kernel_rfl) ?_
 refine D' rfl (D' rfl (D' rfl (D' rfl (D' rfl ?_))))
 refine DC' hj17 (fun e=>Z' (Ref1.digit_ok e) rfl) fun _ hj18=>?_
 refine DN' hj18 (fun e=>n' e rfl) fun _ hj19=>?_
 refine DC' hj19 (fun e=>Z' (Ref1.goesUp_ok e) rfl) fun t74 hj20=>?_
 rcases t74 with _ | _
 have hj21:=bif_f hj20
 exact B' [0] ⟨_,_,_,_,_,_,hj21,rfl⟩
 have hj21:=bif_t hj20
 refine Gate.go (A' hj21 Ref1.Of_ok fun _ hj22=>?_)
 refine Gate.go (A' hj22 Ref1.Plus_ok fun _ hj23=>?_)
 exact B' [0] ⟨_,_,_,_,_,_,hj23,rfl⟩
 rintro s ⟨_,_,_,_,whole10,flags11,hj0,rfl⟩
 unfold Ref1.ToInt.j1 at hj0
 refine Gate.go (A' hj0 Ref1.Of_ok fun _ hj1=>?_)
 refine Gate.go (A' hj1 Ref1.Up_ok fun _ hj2=>?_)
 refine CutN.of (fun s=>∃ x9_0_1 x9_1_1 x9_2_1 x9_3_1,Ref1.ToInt.j2 whole10 flags11 x9_0_1 x9_1_1 x9_2_1 x9_3_1 = some r ∧ s = ⟨103,[(9,.ptr 0 0),(10,.vs 1 (whole10.map (eI .u8))),(11,J flags11)],[.box [.lit (.string x9_0_1),J x9_1_1,.vs 1 (x9_2_1.map (eI .u8)),J x9_3_1]]⟩) ?_ ?_
 refine Gate.go (A' hj2 Ref1.Cmp_ok fun _ hj3=>?_)
 refine C' hj3 (fun hj5=>?_) fun hj5=>?_
 refine C' hj5 (fun hj7=>?_) fun hj7=>?_
 exact B' [0] ⟨_,_,_,_,hj7,rfl⟩
 refine C' hj7 (fun hj9=>?_) fun hj9=>?_
 exact B' [0] ⟨_,_,_,_,hj9,rfl⟩
 exact R' (E:=E8') hj9
 exact R' (E:=E8') hj5
 rintro s ⟨_,_,_,_,hj0,rfl⟩
 unfold Ref1.ToInt.j2 at hj0
 refine Gate.go (A' hj0 Ref1.Int__ok fun _ hj1=>?_)
 refine C' hj1 (fun hj3=>?_) fun hj3=>?_
 exact R' (E:=E8') hj3
 refine N' hj3 fun _ hj4=>?_
 exact R' (E:=E8') hj4
 exact R' (E:=E8') h3
noncomputable def Ref7.whole.j0 (n0:Int) (t9:Bool):Option (api.Value × Int) :=
 bif t9 then
 some ((⟨0,0⟩:api.Value),10)
 else
 some ((⟨1,n0⟩:api.Value),0)
noncomputable def Ref7.whole (n0:Int):Option (api.Value × Int) :=
 letk (decide (n0 < ((-2147483647):Int))) fun t5 =>
 bif t5 then
 Ref7.whole.j0 n0 true
 else
 letk (decide (n0 > (2147483647:Int))) fun t8 =>
 Ref7.whole.j0 n0 t8
theorem Ref7.whole_ok {n0:Int} {r:api.Value × Int} (h0:Ref7.whole n0 = some r):Gives Tryz.prog 117 [J n0] (.tup [api.Value.enc r.1,J r.2]):=by
 unfold Ref7.whole at h0
 refine W' [(19,5)] Tryz.func117 ?_
 refine V' ?_
 refine CutN.of (fun s=>∃ t9,Ref7.whole.j0 n0 t9 = some r ∧ s = ⟨13,[(0,J n0),(2,.ptr 0 0),(9,.lit (.bool t9))],[.box [J 0,J 0]]⟩) ?_ ?_
 refine C' h0 (fun h2=>?_) fun h2=>?_
 refine N' h2 fun _ h3=>?_
 exact B' [0] ⟨_,h3,rfl⟩
 exact B' [0] ⟨_,h2,rfl⟩
 rintro s ⟨t9,hj0,rfl⟩
 unfold Ref7.whole.j0 at hj0
 rcases t9 with _ | _
 have hj1:=bif_f hj0
 refine Gate.go ?_
 refine V' ?_
 refine V' ?_
 exact R' (E:=E10') hj1
 have hj1:=bif_t hj0
 refine Gate.go ?_
 refine V' ?_
 refine V' ?_
 exact R' (E:=E10') hj1
noncomputable def Ref1.Quiet (kind0:Int):Option Int :=
 Option.bind (Ref1.all kind0) fun t5 =>
 Option.bind (Ref1.Digits kind0) fun t7 =>
 letk (IntKind.i64.wrap (t7 - (2:Int))) fun t8 =>
 chk (0 ≤ t8) <|
 letk (IntKind.i64.wrap ((1:Int) * 2 ^ (min t8.toNat (IntKind.i64).bits))) fun t9 =>
 Option.bind (Ref1.bits kind0 0 t5 t9) fun t10 =>
 some t10
theorem Ref1.Quiet_ok {kind0 r:Int} (h0:Ref1.Quiet kind0 = some r):Gives Tryz.prog 150 [J kind0] (J r):=by
 unfold Ref1.Quiet at h0
 refine W' [] Tryz.func150 ?_
 refine Gate.go (A' h0 Ref1.all_ok fun _ h1=>?_)
 refine Gate.go (A' h1 Ref1.Digits_ok fun _ h2=>?_)
 refine N' h2 fun _ h3=>?_
 refine S' h3 fun h4=>?_
 refine N' h4 fun _ h5=>?_
 refine Gate.go (A' h5 Ref1.bits_ok fun _ h6=>?_)
 exact R' (E:=E2') h6
noncomputable def Ref1.Convert.j0 (from0 to1 mode2 a3:Int):Option (Int × Int × Int) :=
 Option.bind (Ref1.taken from0 a3) fun t27 =>
 letk (t27.what.toList == (⟨#[110,111,110,101]⟩:ByteArray).toList) fun t31 =>
 bif t31 then
 Option.bind (Ref1.Quiet to1) fun t33 =>
 some (t33,0,0)
 else
 letk (t27.what.toList == (⟨#[105,110,102,105,110,105,116,101]⟩:ByteArray).toList) fun t35 =>
 bif t35 then
 Option.bind (Ref1.Infinite to1 t27.sign) fun t39 =>
 some (t39,0,0)
 else
 letk (t27.what.toList == (⟨#[122,101,114,111]⟩:ByteArray).toList) fun t41 =>
 bif t41 then
 Option.bind (Ref1.Zero to1 t27.sign) fun t45 =>
 some (t45,0,0)
 else
 Option.bind (Ref1.Rounded to1 mode2 t27.sign t27.m t27.e false) fun (t55_0,t55_1) =>
 some (t55_0,t55_1,0)
noncomputable def Ref1.Convert (from0 to1 mode2 a3:Int):Option (Int × Int × Int) :=
 Option.bind (Ref1.asked from0 mode2 a3 a3) fun t18 =>
 letk (!t18) fun t19 =>
 bif t19 then
 some (0,0,2)
 else
 Option.bind (Ref1.Digits to1) fun t22 =>
 letk (t22 == (0:Int)) fun t23 =>
 bif t23 then
 some (0,0,2)
 else
 Ref1.Convert.j0 from0 to1 mode2 a3
theorem Ref1.Convert_ok {from0 to1 mode2 a3:Int} {r:Int × Int × Int} (h0:Ref1.Convert from0 to1 mode2 a3 = some r):Gives Tryz.prog 126 [J from0,J to1,J mode2,J a3] (.tup [J r.1,J r.2.1,J r.2.2]):=by
 unfold Ref1.Convert at h0
 refine W' [(0,3)] Tryz.func126 ?_
 refine CutN.of (fun s=>Ref1.Convert.j0 from0 to1 mode2 a3 = some r ∧ s = ⟨60,[(0,J from0),(1,J to1),(2,J mode2),(3,J a3)],[]⟩) ?_ ?_
 refine Gate.go (A' h0 Ref1.asked_ok fun _ h1=>?_)
 refine C' h1 (fun h3=>?_) fun h3=>?_
 refine Gate.go (A' h3 Ref1.Digits_ok fun _ h4=>?_)
 refine C' h4 (fun h6=>?_) fun h6=>?_
 exact B' [] ⟨h6,rfl⟩
 exact R' (E:=E8') h6
 exact R' (E:=E8') h3
 rintro s ⟨hj0,rfl⟩
 unfold Ref1.Convert.j0 at hj0
 refine Gate.go (A' hj0 Ref1.taken_ok fun _ hj1=>?_)
 refine V' ?_
 refine V' ?_
 refine C' hj1 (fun hj3=>?_) fun hj3=>?_
 refine C' hj3 (fun hj5=>?_) fun hj5=>?_
 refine C' hj5 (fun hj7=>?_) fun hj7=>?_
 obtain ⟨⟨_,_⟩,et55,hj8⟩:=bind_elim hj7
 refine Gate.go ?_
 refine Z' (Ref1.Rounded_ok et55) ?_
 exact R' (E:=E8') hj8
 refine Gate.go (A' hj7 Ref1.Zero_ok fun _ hj8=>?_)
 exact R' (E:=E8') hj8
 refine Gate.go (A' hj5 Ref1.Infinite_ok fun _ hj6=>?_)
 exact R' (E:=E8') hj6
 refine Gate.go (A' hj3 Ref1.Quiet_ok fun _ hj4=>?_)
 exact R' (E:=E8') hj4
noncomputable def Ref7.brought (kind0:Int) (v1:api.Value):Option (api.Value × Int) :=
 letk (v1.Kind == kind0) fun t19 =>
 bif t19 then
 some ((⟨v1.Kind,v1.N⟩:api.Value),0)
 else
 letk (v1.Kind == (1:Int)) fun t24 =>
 bif t24 then
 Option.bind (Ref7.Bytes kind0) fun t27 =>
 Option.bind (Ref1.FromInt t27 0 v1.N) fun (t30_0,_,_) =>
 some ((⟨kind0,t30_0⟩:api.Value),0)
 else
 letk (kind0 == (1:Int)) fun t39 =>
 bif t39 then
 Option.bind (Ref7.Bytes v1.Kind) fun t43 =>
 Option.bind (Ref1.ToInt t43 1 v1.N) fun (t46_0,_,t46_2) =>
 letk (t46_2 != (0:Int)) fun t51 =>
 bif t51 then
 some ((⟨0,0⟩:api.Value),10)
 else
 Option.bind (Ref7.whole t46_0) fun (t54_0,t54_1) =>
 some ((⟨t54_0.Kind,t54_0.N⟩:api.Value),t54_1)
 else
 Option.bind (Ref7.Bytes v1.Kind) fun t60 =>
 Option.bind (Ref7.Bytes kind0) fun t62 =>
 Option.bind (Ref1.Convert t60 t62 0 v1.N) fun (t65_0,_,_) =>
 some ((⟨kind0,t65_0⟩:api.Value),0)
theorem Ref7.brought_ok {kind0:Int} {v1:api.Value} {r:api.Value × Int} (h0:Ref7.brought kind0 v1 = some r):Gives Tryz.prog 77 [J kind0,api.Value.enc v1] (.tup [api.Value.enc r.1,J r.2]):=by
 unfold Ref7.brought at h0
 refine W' [] Tryz.func77 ?_
 refine V' ?_
 refine V' ?_
 refine C' h0 (fun h2=>?_) fun h2=>?_
 refine C' h2 (fun h4=>?_) fun h4=>?_
 refine C' h4 (fun h6=>?_) fun h6=>?_
 refine L' [0,1] [0,3,4] ?_
 refine DrawB.ofG [none,none,none,none,none,none,none,none,none,none,none,none,none,none,none] Tryz_mixed (by kernel_rfl) (by kernel_rfl) ?_
 refine D' rfl (D' rfl ?_)
 refine DC' h6 (fun e=>Z' (Ref7.Bytes_ok e) rfl) fun _ h7=>?_
 refine D' rfl ?_
 refine DC' h7 (fun e=>Z' (Ref7.Bytes_ok e) rfl) fun _ h8=>?_
 refine D' rfl (D' rfl ?_)
 obtain ⟨⟨t65_0,t65_1,t65_2⟩,et65,h9⟩:=bind_elim h8
 refine DNodeB.of (.tup [J t65_0,J t65_1,J t65_2]) ?_ ?_
 refine Z' (Ref1.Convert_ok et65) ?_
 rfl
 refine D' rfl (D' rfl (D' rfl (D' rfl (D' rfl (D' rfl (D' rfl ?_))))))
 refine Gate.go ?_
 refine V' ?_
 refine V' ?_
 exact R' (E:=E10') h9
 refine L' [0,1] [3,4] ?_
 refine DrawB.ofG [none,none,none,none,none,none,none,none,none,none,none,none,none] Tryz_mixed (by kernel_rfl) (by kernel_rfl) ?_
 refine D' rfl (D' rfl ?_)
 refine DC' h6 (fun e=>Z' (Ref7.Bytes_ok e) rfl) fun _ h7=>?_
 refine D' rfl (D' rfl ?_)
 obtain ⟨⟨t46_0,t46_1,t46_2⟩,et46,h8⟩:=bind_elim h7
 refine DNodeB.of (.tup [J t46_0,J t46_1,J t46_2]) ?_ ?_
 refine Z' (Ref1.ToInt_ok et46) ?_
 rfl
 refine D' rfl (D' rfl (D' rfl (D' rfl (D' rfl (D' rfl (D' rfl ?_))))))
 refine C' h8 (fun h10=>?_) fun h10=>?_
 obtain ⟨⟨_,_⟩,et54,h11⟩:=bind_elim h10
 refine Gate.go ?_
 refine Z' (Ref7.whole_ok et54) ?_
 refine V' ?_
 exact R' (E:=E10') h11
 refine Gate.go ?_
 refine V' ?_
 refine V' ?_
 exact R' (E:=E10') h10
 refine L' [0,1] [0,3,4] ?_
 refine DrawB.ofG [none,none,none,none,none,none,none,none,none,none,none,none] Tryz_mixed (by kernel_rfl) (by kernel_rfl) ?_
 refine D' rfl ?_
 refine DC' h4 (fun e=>Z' (Ref7.Bytes_ok e) rfl) fun _ h5=>?_
 refine D' rfl (D' rfl ?_)
 obtain ⟨⟨t30_0,t30_1,t30_2⟩,et30,h6⟩:=bind_elim h5
 refine DNodeB.of (.tup [J t30_0,J t30_1,J t30_2]) ?_ ?_
 refine Z' (Ref1.FromInt_ok et30) ?_
 rfl
 refine D' rfl (D' rfl (D' rfl (D' rfl (D' rfl (D' rfl (D' rfl ?_))))))
 refine Gate.go ?_
 refine V' ?_
 refine V' ?_
 exact R' (E:=E10') h6
 refine V' ?_
 exact R' (E:=E10') h2
noncomputable def Ref7.truth (is0:Bool):Option api.Value :=
 bif is0 then
 some (⟨2,1⟩:api.Value)
 else
 some (⟨2,0⟩:api.Value)
theorem Ref7.truth_ok {is0:Bool} {r:api.Value} (h0:Ref7.truth is0 = some r):Gives Tryz.prog 97 [.lit (.bool is0)] (api.Value.enc r):=by
 unfold Ref7.truth at h0
 refine W' [] Tryz.func97 ?_
 refine V' ?_
 rcases is0 with _ | _
 have h1:=bif_f h0
 refine Gate.go ?_
 refine V' ?_
 refine V' ?_
 exact R' (E:=E11') h1
 have h1:=bif_t h0
 refine Gate.go ?_
 refine V' ?_
 refine V' ?_
 exact R' (E:=E11') h1
noncomputable def Ref1.negative (kind0 a1:Int):Option Int :=
 Option.bind (Ref1.taken kind0 a1) fun t7 =>
 letk (t7.what.toList == (⟨#[110,111,110,101]⟩:ByteArray).toList) fun t9 =>
 bif t9 then
 Option.bind (Ref1.Quiet kind0) fun t11 =>
 some t11
 else
 letk (IntKind.u64.wrap a1) fun t13 =>
 letk (IntKind.i64.wrap ((8:Int) * kind0)) fun t15 =>
 letk (IntKind.i64.wrap (t15 - (1:Int))) fun t16 =>
 chk (0 ≤ t16) <|
 letk (IntKind.u64.wrap ((1:Int) * 2 ^ (min t16.toNat (IntKind.u64).bits))) fun t17 =>
 letk (IntKind.u64.wrap (BitVec.ofInt (IntKind.u64).bits t13 ^^^ BitVec.ofInt (IntKind.u64).bits t17).toNat) fun t18 =>
 letk (IntKind.i64.wrap t18) fun t19 =>
 some t19
theorem Ref1.negative_ok {kind0 a1 r:Int} (h0:Ref1.negative kind0 a1 = some r):Gives Tryz.prog 157 [J kind0,J a1] (J r):=by
 unfold Ref1.negative at h0
 refine W' [] Tryz.func157 ?_
 refine Gate.go (A' h0 Ref1.taken_ok fun _ h1=>?_)
 refine C' h1 (fun h3=>?_) fun h3=>?_
 refine N' h3 fun _ h4=>?_
 refine N' h4 fun _ h5=>?_
 refine N' h5 fun _ h6=>?_
 refine S' h6 fun h7=>?_
 refine N' h7 fun _ h8=>?_
 refine N' h8 fun _ h9=>?_
 refine N' h9 fun _ h10=>?_
 exact R' (E:=E2') h10
 refine Gate.go (A' h3 Ref1.Quiet_ok fun _ h4=>?_)
 exact R' (E:=E2') h4
end Go.Q
