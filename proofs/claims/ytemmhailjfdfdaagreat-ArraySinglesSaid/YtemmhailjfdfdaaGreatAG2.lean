import Derived.Test.YtemmhailjfdfdaaGreatAG1
import Derived.Test.YtemmhailjfdfdaaGreatFX
import Derived.Test.YtemmhailjfdfdaaGreatFY
import Derived.Test.YtemmhailjfdfdaaGreatProg
namespace Go.Q
open Go Go.Proofs
set_option maxRecDepth 10000
set_option maxHeartbeats 2000000
noncomputable def Flt.away (mode0 sign1:Int) (odd2:Bool) (rest3:Int):Option Bool :=
 letk (mode0 == (0:Int)) fun t11 =>
 bif t11 then
 letk (rest3 == (3:Int)) fun t13 =>
 bif t13 then
 some true
 else
 letk (rest3 == (2:Int)) fun t16 =>
 bif t16 then
 some odd2
 else
 some false
 else
 letk (mode0 == (2:Int)) fun t22 =>
 bif t22 then
 letk (decide (rest3 > (0:Int))) fun t24 =>
 bif t24 then
 letk (sign1 == (1:Int)) fun t27 =>
 some t27
 else
 some false
 else
 letk (mode0 == (3:Int)) fun t30 =>
 bif t30 then
 letk (decide (rest3 > (0:Int))) fun t32 =>
 bif t32 then
 letk (sign1 == (0:Int)) fun t35 =>
 some t35
 else
 some false
 else
 some false
theorem Flt.away_ok {mode0 sign1:Int} {odd2:Bool} {rest3:Int} {r:Bool} (h0:Flt.away mode0 sign1 odd2 rest3 = some r):Gives Tryz.prog 167 [J mode0,J sign1,.lit (.bool odd2),J rest3] (.lit (.bool r)):=by
 unfold Flt.away at h0
 refine W' [] Tryz.func167 ?_
 refine C' h0 (fun h2=>?_) fun h2=>?_
 refine C' h2 (fun h4=>?_) fun h4=>?_
 refine C' h4 (fun h6=>?_) fun h6=>?_
 exact R' (E:=E1') h6
 refine C' h6 (fun h8=>?_) fun h8=>?_
 exact R' (E:=E1') h8
 refine N' h8 fun _ h9=>?_
 exact R' (E:=E1') h9
 refine C' h4 (fun h6=>?_) fun h6=>?_
 exact R' (E:=E1') h6
 refine N' h6 fun _ h7=>?_
 exact R' (E:=E1') h7
 refine C' h2 (fun h4=>?_) fun h4=>?_
 refine C' h4 (fun h6=>?_) fun h6=>?_
 exact R' (E:=E1') h6
 exact R' (E:=E1') h6
 exact R' (E:=E1') h4
noncomputable def Flt.shape.greatest (s0:float.shape) (sign1:Int):Option Int :=
 Option.bind (Flt.shape.top (⟨s0.p,s0.w⟩:float.shape)) fun t8 =>
 letk (IntKind.u64.wrap (t8 - (1:Int))) fun t9 =>
 letk (IntKind.i64.wrap (s0.p - (1:Int))) fun t12 =>
 chk (0 ≤ t12) <|
 letk (IntKind.u64.wrap ((1:Int) * 2 ^ (min t12.toNat (IntKind.u64).bits))) fun t13 =>
 letk (IntKind.u64.wrap (t13 - (1:Int))) fun t14 =>
 Option.bind (Flt.shape.pack (⟨s0.p,s0.w⟩:float.shape) sign1 t9 t14) fun t15 =>
 some t15
theorem Flt.shape.greatest_ok {s0:float.shape} {sign1 r:Int} (h0:Flt.shape.greatest s0 sign1 = some r):Gives Tryz.prog 202 [float.shape.enc s0,J sign1] (J r):=by
 unfold Flt.shape.greatest at h0
 refine W' [] Tryz.func202 ?_
 refine V' ?_
 refine L' [0] [1,2] ?_
 refine DrawB.ofG [none,none,none,none,none,none,none,none,none,none,none,none] Tryz_mixed (by kernel_rfl) (by kernel_rfl) ?_
 refine D' rfl (D' rfl (D' rfl ?_))
 refine DC' h0 (fun e=>Z' (Flt.shape.top_ok e) rfl) fun _ h1=>?_
 refine DN' h1 (fun e=>n' e rfl) fun _ h2=>?_
 refine D' rfl (D' rfl ?_)
 refine DN' h2 (fun e=>n' e rfl) fun _ h3=>?_
 refine DS' h3 (fun c e=>Side.mk c (n' e rfl)) fun _ h5=>?_
 refine DN' h5 (fun e=>n' e rfl) fun _ h6=>?_
 refine DC' h6 (fun e=>Z' (Flt.shape.pack_ok e) rfl) fun _ h7=>?_
 refine D' rfl ?_
 exact R' (E:=E2') h7
noncomputable def Flt.shape.infinite (s0:float.shape) (sign1:Int):Option Int :=
 Option.bind (Flt.shape.top (⟨s0.p,s0.w⟩:float.shape)) fun t8 =>
 Option.bind (Flt.shape.pack (⟨s0.p,s0.w⟩:float.shape) sign1 t8 0) fun t9 =>
 some t9
theorem Flt.shape.infinite_ok {s0:float.shape} {sign1 r:Int} (h0:Flt.shape.infinite s0 sign1 = some r):Gives Tryz.prog 169 [float.shape.enc s0,J sign1] (J r):=by
 unfold Flt.shape.infinite at h0
 refine W' [] Tryz.func169 ?_
 refine V' ?_
 refine DrawB.ofG [none,none,none,none,none,none] Tryz_mixed (by kernel_rfl) (by kernel_rfl) ?_
 refine D' rfl (D' rfl (D' rfl ?_))
 refine DC' h0 (fun e=>Z' (Flt.shape.top_ok e) rfl) fun _ h1=>?_
 refine DC' h1 (fun e=>Z' (Flt.shape.pack_ok e) rfl) fun _ h2=>?_
 refine D' rfl ?_
 exact R' (E:=E2') h2
noncomputable def Flt.shape.round.j4 (sign2 s4_0_2 s4_1_2:Int) (t133:Bool):Option (Int × Int) :=
 bif t133 then
 Option.bind (Flt.shape.greatest (⟨s4_0_2,s4_1_2⟩:float.shape) sign2) fun t136 =>
 some (t136,20)
 else
 Option.bind (Flt.shape.infinite (⟨s4_0_2,s4_1_2⟩:float.shape) sign2) fun t139 =>
 some (t139,20)
noncomputable def Flt.shape.round.j3 (mode1 sign2 flags9 s4_0_2 s4_1_2 last11 m12_2:Int):Option (Int × Int) :=
 letk (IntKind.i64.wrap (s4_0_2 - (1:Int))) fun t82 =>
 chk (0 ≤ t82) <|
 letk (IntKind.u64.wrap ((1:Int) * 2 ^ (min t82.toNat (IntKind.u64).bits))) fun t83 =>
 letk (decide (m12_2 < t83)) fun t84 =>
 bif t84 then
 Option.bind (Flt.shape.pack (⟨s4_0_2,s4_1_2⟩:float.shape) sign2 0 m12_2) fun t88 =>
 some (t88,flags9)
 else
 letk (IntKind.i64.wrap (last11 + s4_0_2)) fun t93 =>
 letk (IntKind.i64.wrap (t93 - (1:Int))) fun t94 =>
 Option.bind (Flt.shape.bias (⟨s4_0_2,s4_1_2⟩:float.shape)) fun t96 =>
 letk (IntKind.i64.wrap (t94 + t96)) fun t97 =>
 Option.bind (Flt.shape.top (⟨s4_0_2,s4_1_2⟩:float.shape)) fun t100 =>
 letk (IntKind.i64.wrap t100) fun t101 =>
 letk (decide (t97 < t101)) fun t102 =>
 bif t102 then
 letk (IntKind.u64.wrap t97) fun t106 =>
 letk (IntKind.i64.wrap (s4_0_2 - (1:Int))) fun t110 =>
 chk (0 ≤ t110) <|
 letk (IntKind.u64.wrap ((1:Int) * 2 ^ (min t110.toNat (IntKind.u64).bits))) fun t111 =>
 letk (IntKind.u64.wrap (t111 - (1:Int))) fun t112 =>
 letk (IntKind.u64.wrap (BitVec.ofInt (IntKind.u64).bits m12_2 &&& BitVec.ofInt (IntKind.u64).bits t112).toNat) fun t113 =>
 Option.bind (Flt.shape.pack (⟨s4_0_2,s4_1_2⟩:float.shape) sign2 t106 t113) fun t114 =>
 some (t114,flags9)
 else
 letk (mode1 == (1:Int)) fun t117 =>
 bif t117 then
 Flt.shape.round.j4 sign2 s4_0_2 s4_1_2 true
 else
 letk (mode1 == (2:Int)) fun t120 =>
 bif t120 then
 letk (sign2 == (0:Int)) fun t123 =>
 bif t123 then
 Flt.shape.round.j4 sign2 s4_0_2 s4_1_2 true
 else
 letk (mode1 == (3:Int)) fun t128_1 =>
 bif t128_1 then
 letk (sign2 == (1:Int)) fun t131_1 =>
 Flt.shape.round.j4 sign2 s4_0_2 s4_1_2 t131_1
 else
 Flt.shape.round.j4 sign2 s4_0_2 s4_1_2 false
 else
 letk (mode1 == (3:Int)) fun t128 =>
 bif t128 then
 letk (sign2 == (1:Int)) fun t131 =>
 Flt.shape.round.j4 sign2 s4_0_2 s4_1_2 t131
 else
 Flt.shape.round.j4 sign2 s4_0_2 s4_1_2 false
noncomputable def Flt.shape.round.j2 (mode1 sign2 t28 flags9 s4_0_2 s4_1_2 m12_1:Int):Option (Int × Int) :=
 chk (0 ≤ s4_0_2) <|
 letk (IntKind.u64.wrap ((1:Int) * 2 ^ (min s4_0_2.toNat (IntKind.u64).bits))) fun t73 =>
 letk (m12_1 == t73) fun t74 =>
 bif t74 then
 chk (0 ≤ (1:Int)) <|
 letk ((IntKind.u64,m12_1.fdiv (2 ^ (min (1:Int).toNat (IntKind.u64).bits))).2) fun t76 =>
 letk (IntKind.i64.wrap (t28 + (1:Int))) fun t78 =>
 Flt.shape.round.j3 mode1 sign2 flags9 s4_0_2 s4_1_2 t78 t76
 else
 Flt.shape.round.j3 mode1 sign2 flags9 s4_0_2 s4_1_2 t28 m12_1
noncomputable def Flt.shape.round.j1 (mode1 sign2 t28 m12 rest13 s4_0_1 s4_1_1 flags9:Int):Option (Int × Int) :=
 letk (IntKind.u64.wrap (BitVec.ofInt (IntKind.u64).bits m12 &&& BitVec.ofInt (IntKind.u64).bits (1:Int)).toNat) fun t64 =>
 letk (t64 == (1:Int)) fun t65 =>
 Option.bind (Flt.away mode1 sign2 t65 rest13) fun t67 =>
 bif t67 then
 letk (IntKind.u64.wrap (m12 + (1:Int))) fun t69 =>
 Flt.shape.round.j2 mode1 sign2 t28 flags9 s4_0_1 s4_1_1 t69
 else
 Flt.shape.round.j2 mode1 sign2 t28 flags9 s4_0_1 s4_1_1 m12
noncomputable def Flt.shape.round.j0 (mode1 sign2 t20 t28 s4_0 s4_1 m12 rest13:Int):Option (Int × Int) :=
 letk (decide (rest13 > (0:Int))) fun t50 =>
 bif t50 then
 Option.bind (Flt.shape.least (⟨s4_0,s4_1⟩:float.shape)) fun t53 =>
 letk (IntKind.i64.wrap (t53 + s4_0)) fun t56 =>
 letk (IntKind.i64.wrap (t56 - (1:Int))) fun t57 =>
 letk (decide (t20 < t57)) fun t58 =>
 bif t58 then
 letk (IntKind.i64.wrap (BitVec.ofInt (IntKind.i64).bits (16:Int) ||| BitVec.ofInt (IntKind.i64).bits (8:Int)).toNat) fun t60 =>
 Flt.shape.round.j1 mode1 sign2 t28 m12 rest13 s4_0 s4_1 t60
 else
 Flt.shape.round.j1 mode1 sign2 t28 m12 rest13 s4_0 s4_1 16
 else
 Flt.shape.round.j1 mode1 sign2 t28 m12 rest13 s4_0 s4_1 0
noncomputable def Flt.shape.round (s0:float.shape) (mode1 sign2:Int) (x3:float.exact):Option (Int × Int) :=
 Option.bind (Flt.exact.long (⟨x3.hi,x3.lo,x3.e,x3.more⟩:float.exact)) fun t18 =>
 letk (IntKind.i64.wrap (x3.e + t18)) fun t19 =>
 letk (IntKind.i64.wrap (t19 - (1:Int))) fun t20 =>
 letk (IntKind.i64.wrap (t20 - s0.p)) fun t24 =>
 letk (IntKind.i64.wrap (t24 + (1:Int))) fun t25 =>
 Option.bind (Flt.shape.least (⟨s0.p,s0.w⟩:float.shape)) fun t27 =>
 letk (if t27 > t25 then t27 else t25) fun t28 =>
 letk (decide (t28 ≤ x3.e)) fun t32 =>
 bif t32 then
 letk (IntKind.i64.wrap (x3.e - t28)) fun t38 =>
 chk (0 ≤ t38) <|
 letk (IntKind.u64.wrap (x3.lo * 2 ^ (min t38.toNat (IntKind.u64).bits))) fun t39 =>
 Flt.shape.round.j0 mode1 sign2 t20 t28 s0.p s0.w t39 0
 else
 letk (IntKind.i64.wrap (t28 - x3.e)) fun t45 =>
 Option.bind (Flt.exact.right (⟨x3.hi,x3.lo,x3.e,x3.more⟩:float.exact) t45) fun (t46_0,t46_1) =>
 Flt.shape.round.j0 mode1 sign2 t20 t28 s0.p s0.w t46_0 t46_1
theorem Flt.shape.round_ok {s0:float.shape} {mode1 sign2:Int} {x3:float.exact} {r:Int × Int} (h0:Flt.shape.round s0 mode1 sign2 x3 = some r):Gives Tryz.prog 164 [float.shape.enc s0,J mode1,J sign2,float.exact.enc x3] (.tup [J r.1,J r.2]):=by
 unfold Flt.shape.round at h0
 refine W' [(0,8),(0,12),(0,14),(0,17),(143,47)] Tryz.func164 ?_
 refine V' ?_
 refine V' ?_
 refine DrawB.ofG [none,none,none,none,none,none,none] Tryz_mixed (by kernel_rfl) (by kernel_rfl) ?_
 refine D' rfl (D' rfl (D' rfl ?_))
 refine DC' h0 (fun e=>Z' (Flt.exact.long_ok e) rfl) fun _ h1=>?_
 refine DN' h1 (fun e=>n' e rfl) fun _ h2=>?_
 refine DN' h2 (fun e=>n' e rfl) fun t20 h3=>?_
 refine D' rfl ?_
 refine DrawB.ofG [none,none,none,none,none,none,none,none,none] Tryz_mixed (by kernel_rfl) (by kernel_rfl) ?_
 refine D' rfl (D' rfl (D' rfl ?_))
 refine DN' h3 (fun e=>n' e rfl) fun _ h4=>?_
 refine DN' h4 (fun e=>n' e rfl) fun _ h5=>?_
 refine D' rfl ?_
 refine DC' h5 (fun e=>Z' (Flt.shape.least_ok e) rfl) fun _ h6=>?_
 refine DN' h6 (fun e=>n' e rfl) fun t28 h7=>?_
 refine D' rfl ?_
 refine CutN.of (fun s=>∃ s4_0 s4_1 m12 rest13,Flt.shape.round.j0 mode1 sign2 t20 t28 s4_0 s4_1 m12 rest13 = some r ∧ s = ⟨140,[(1,J mode1),(2,J sign2),(4,.ptr 0 0),(9,J 0),(10,J t20),(11,J t28),(12,U m12),(13,J rest13)],[.box [J s4_0,J s4_1]]⟩) ?_ ?_
 refine C' h7 (fun h9=>?_) fun h9=>?_
 refine N' h9 fun _ h10=>?_
 obtain ⟨⟨_,_⟩,et46,h11⟩:=bind_elim h10
 refine Gate.go ?_
 refine Z' (Flt.exact.right_ok et46) ?_
 exact B' [0] ⟨_,_,_,_,h11,rfl⟩
 refine N' h9 fun _ h10=>?_
 refine S' h10 fun h11=>?_
 refine N' h11 fun _ h12=>?_
 exact B' [0] ⟨_,_,_,_,h12,rfl⟩
 rintro s ⟨_,_,m12,rest13,hj0,rfl⟩
 unfold Flt.shape.round.j0 at hj0
 refine CutN.of (fun s=>∃ s4_0_1 s4_1_1 flags9,Flt.shape.round.j1 mode1 sign2 t28 m12 rest13 s4_0_1 s4_1_1 flags9 = some r ∧ s = ⟨140,[(1,J mode1),(2,J sign2),(4,.ptr 0 0),(9,J flags9),(11,J t28),(12,U m12),(13,J rest13)],[.box [J s4_0_1,J s4_1_1]]⟩) ?_ ?_
 refine C' hj0 (fun hj2=>?_) fun hj2=>?_
 exact B' [0] ⟨_,_,_,hj2,rfl⟩
 refine DrawB.ofG [none,none,none,none,none,none,none,none] Tryz_mixed (by kernel_rfl) (by kernel_rfl) ?_
 refine D' rfl (D' rfl ?_)
 refine DC' hj2 (fun e=>Z' (Flt.shape.least_ok e) rfl) fun _ hj3=>?_
 refine D' rfl (D' rfl ?_)
 refine DN' hj3 (fun e=>n' e rfl) fun _ hj4=>?_
 refine DN' hj4 (fun e=>n' e rfl) fun _ hj5=>?_
 refine DN' hj5 (fun e=>n' e rfl) fun t58 hj6=>?_
 rcases t58 with _ | _
 have hj7:=bif_f hj6
 exact B' [0] ⟨_,_,_,hj7,rfl⟩
 have hj7:=bif_t hj6
 refine N' hj7 fun _ hj8=>?_
 exact B' [0] ⟨_,_,_,hj8,rfl⟩
 rintro s ⟨_,_,flags9,hj0,rfl⟩
 unfold Flt.shape.round.j1 at hj0
 refine CutN.of (fun s=>∃ s4_0_2 s4_1_2 m12_1,Flt.shape.round.j2 mode1 sign2 t28 flags9 s4_0_2 s4_1_2 m12_1 = some r ∧ s = ⟨140,[(1,J mode1),(2,J sign2),(4,.ptr 0 0),(9,J flags9),(11,J t28),(12,U m12_1)],[.box [J s4_0_2,J s4_1_2]]⟩) ?_ ?_
 refine N' hj0 fun _ hj1=>?_
 refine N' hj1 fun _ hj2=>?_
 refine Gate.go (A' hj2 Flt.away_ok fun t67 hj3=>?_)
 rcases t67 with _ | _
 have hj4:=bif_f hj3
 exact B' [0] ⟨_,_,_,hj4,rfl⟩
 have hj4:=bif_t hj3
 refine N' hj4 fun _ hj5=>?_
 exact B' [0] ⟨_,_,_,hj5,rfl⟩
 rintro s ⟨s4_0_2,s4_1_2,_,hj0,rfl⟩
 unfold Flt.shape.round.j2 at hj0
 refine CutN.of (fun s=>∃ last11 m12_2,Flt.shape.round.j3 mode1 sign2 flags9 s4_0_2 s4_1_2 last11 m12_2 = some r ∧ s = ⟨140,[(1,J mode1),(2,J sign2),(4,.ptr 0 0),(9,J flags9),(11,J last11),(12,U m12_2)],[.box [J s4_0_2,J s4_1_2]]⟩) ?_ ?_
 refine S' hj0 fun hj1=>?_
 refine N' hj1 fun _ hj2=>?_
 refine C' hj2 (fun hj4=>?_) fun hj4=>?_
 exact B' [0] ⟨_,_,hj4,rfl⟩
 refine S' hj4 fun hj5=>?_
 refine N' hj5 fun _ hj6=>?_
 refine N' hj6 fun _ hj7=>?_
 exact B' [0] ⟨_,_,hj7,rfl⟩
 rintro s ⟨_,_,hj0,rfl⟩
 unfold Flt.shape.round.j3 at hj0
 refine N' hj0 fun _ hj1=>?_
 refine S' hj1 fun hj2=>?_
 refine N' hj2 fun _ hj3=>?_
 refine C' hj3 (fun hj5=>?_) fun hj5=>?_
 refine DrawB.ofG [none,none,none,none,none,none,none,none,none] Tryz_mixed (by kernel_rfl) (by kernel_rfl) ?_
 refine D' rfl (D' rfl (D' rfl ?_))
 refine DN' hj5 (fun e=>n' e rfl) fun _ hj6=>?_
 refine DN' hj6 (fun e=>n' e rfl) fun _ hj7=>?_
 refine D' rfl ?_
 refine DC' hj7 (fun e=>Z' (Flt.shape.bias_ok e) rfl) fun _ hj8=>?_
 refine DN' hj8 (fun e=>n' e rfl) fun _ hj9=>?_
 refine D' rfl ?_
 refine Gate.go (A' hj9 Flt.shape.top_ok fun _ hj10=>?_)
 refine N' hj10 fun _ hj11=>?_
 refine C' hj11 (fun hj13=>?_) fun hj13=>?_
 refine CutN.of (fun s=>∃ t133,Flt.shape.round.j4 sign2 s4_0_2 s4_1_2 t133 = some r ∧ s = ⟨140,[(2,J sign2),(4,.ptr 0 0),(133,.lit (.bool t133))],[.box [J s4_0_2,J s4_1_2]]⟩) ?_ ?_
 refine C' hj13 (fun hj15=>?_) fun hj15=>?_
 refine C' hj15 (fun hj17=>?_) fun hj17=>?_
 refine C' hj17 (fun hj19=>?_) fun hj19=>?_
 exact B' [0] ⟨_,hj19,rfl⟩
 refine N' hj19 fun _ hj20=>?_
 exact B' [0] ⟨_,hj20,rfl⟩
 refine C' hj17 (fun hj19=>?_) fun hj19=>?_
 refine C' hj19 (fun hj21=>?_) fun hj21=>?_
 exact B' [0] ⟨_,hj21,rfl⟩
 refine N' hj21 fun _ hj22=>?_
 exact B' [0] ⟨_,hj22,rfl⟩
 exact B' [0] ⟨_,hj19,rfl⟩
 exact B' [0] ⟨_,hj15,rfl⟩
 rintro s ⟨t133,hj0,rfl⟩
 unfold Flt.shape.round.j4 at hj0
 rcases t133 with _ | _
 have hj1:=bif_f hj0
 refine Gate.go (A' hj1 Flt.shape.infinite_ok fun _ hj2=>?_)
 exact R' (E:=E3') hj2
 have hj1:=bif_t hj0
 refine Gate.go (A' hj1 Flt.shape.greatest_ok fun _ hj2=>?_)
 exact R' (E:=E3') hj2
 refine L' [0] [2,4,9,12,14] ?_
 refine DrawB.ofG [none,none,none,none,none,none,none,none,none,none,none,none,none,none,none] Tryz_mixed (by kernel_rfl) (by kernel_rfl) ?_
 refine D' rfl (D' rfl (D' rfl ?_))
 refine DN' hj13 (fun e=>n' e rfl) fun _ hj14=>?_
 refine D' rfl (D' rfl (D' rfl ?_))
 refine DN' hj14 (fun e=>n' e rfl) fun _ hj15=>?_
 refine DS' hj15 (fun c e=>Side.mk c (n' e rfl)) fun _ hj17=>?_
 refine DN' hj17 (fun e=>n' e rfl) fun _ hj18=>?_
 refine DN' hj18 (fun e=>n' e rfl) fun _ hj19=>?_
 refine DC' hj19 (fun e=>Z' (Flt.shape.pack_ok e) rfl) fun _ hj20=>?_
 refine D' rfl (D' rfl (D' rfl ?_))
 exact R' (E:=E3') hj20
 refine Gate.go (A' hj5 Flt.shape.pack_ok fun _ hj6=>?_)
 exact R' (E:=E3') hj6
noncomputable def Flt.FromInt.j0 (mode1 n2:Int) (t13_0:float.shape):Option (Int × Int × Int) :=
 letk (n2 == (0:Int)) fun t37 =>
 bif t37 then
 Option.bind (Flt.shape.zero (⟨t13_0.p,t13_0.w⟩:float.shape) 0) fun t39 =>
 some (t39,0,0)
 else
 letk (decide (n2 < (0:Int))) fun t42 =>
 bif t42 then
 letk (IntKind.u64.wrap n2) fun t47 =>
 letk (IntKind.u64.wrap (0 - t47)) fun t48 =>
 Option.bind (Flt.shape.round (⟨t13_0.p,t13_0.w⟩:float.shape) mode1 1 (⟨0,t48,0,false⟩:float.exact)) fun (t50_0,t50_1) =>
 some (t50_0,t50_1,0)
 else
 letk (IntKind.u64.wrap n2) fun t30 =>
 Option.bind (Flt.shape.round (⟨t13_0.p,t13_0.w⟩:float.shape) mode1 0 (⟨0,t30,0,false⟩:float.exact)) fun (t32_0,t32_1) =>
 some (t32_0,t32_1,0)
noncomputable def Flt.FromInt (kind0 mode1 n2:Int):Option (Int × Int × Int) :=
 Option.bind (Flt.of kind0) fun (t13_0,t13_1) =>
 letk (!t13_1) fun t17 =>
 bif t17 then
 some (0,0,2)
 else
 letk (decide (mode1 < (0:Int))) fun t20 =>
 bif t20 then
 some (0,0,2)
 else
 letk (decide (mode1 ≥ (4:Int))) fun t24 =>
 bif t24 then
 some (0,0,2)
 else
 Flt.FromInt.j0 mode1 n2 t13_0
abbrev E8':Int × Int × Int → AV:=fun r=>(.tup [J r.1,J r.2.1,J r.2.2])
theorem Flt.FromInt_ok {kind0 mode1 n2:Int} {r:Int × Int × Int} (h0:Flt.FromInt kind0 mode1 n2 = some r):Gives Tryz.prog 121 [J kind0,J mode1,J n2] (.tup [J r.1,J r.2.1,J r.2.2]):=by
 unfold Flt.FromInt at h0
 refine W' [(1,0)] Tryz.func121 ?_
 obtain ⟨⟨t13_0,_⟩,et13,h1⟩:=bind_elim h0
 refine Gate.go ?_
 refine Z' (Flt.of_ok et13) ?_
 refine V' ?_
 refine V' ?_
 refine CutN.of (fun s=>Flt.FromInt.j0 mode1 n2 t13_0 = some r ∧ s = ⟨55,[(1,J mode1),(2,J n2),(9,.ptr 0 0)],[.box [J t13_0.p,J t13_0.w]]⟩) ?_ ?_
 refine C' h1 (fun h3=>?_) fun h3=>?_
 refine C' h3 (fun h5=>?_) fun h5=>?_
 refine C' h5 (fun h7=>?_) fun h7=>?_
 exact B' [0] ⟨h7,rfl⟩
 exact R' (E:=E8') h7
 exact R' (E:=E8') h5
 exact R' (E:=E8') h3
 rintro s ⟨hj0,rfl⟩
 unfold Flt.FromInt.j0 at hj0
 refine C' hj0 (fun hj2=>?_) fun hj2=>?_
 refine C' hj2 (fun hj4=>?_) fun hj4=>?_
 refine N' hj4 fun _ hj5=>?_
 refine Gate.go ?_
 refine V' ?_
 obtain ⟨⟨_,_⟩,et32,hj6⟩:=bind_elim hj5
 refine Gate.go ?_
 refine Z' (Flt.shape.round_ok et32) ?_
 exact R' (E:=E8') hj6
 refine N' hj4 fun _ hj5=>?_
 refine N' hj5 fun _ hj6=>?_
 refine Gate.go ?_
 refine V' ?_
 obtain ⟨⟨_,_⟩,et50,hj7⟩:=bind_elim hj6
 refine Gate.go ?_
 refine Z' (Flt.shape.round_ok et50) ?_
 exact R' (E:=E8') hj7
 refine Gate.go (A' hj2 Flt.shape.zero_ok fun _ hj3=>?_)
 exact R' (E:=E8') hj3
noncomputable def Flt.two.j0 (a2 b3 s8_0 s8_1 x9_0 x9_1 x9_2 x9_3 y10_0 y10_1 y10_2 y10_3:Int):Option (float.shape × float.number × float.number × Bool) :=
 Option.bind (Flt.shape.read (⟨s8_0,s8_1⟩:float.shape) a2) fun (t34_0,t34_1) =>
 Option.bind (Flt.shape.read (⟨s8_0,s8_1⟩:float.shape) b3) fun (t40_0,t40_1) =>
 bif t34_1 then
 some ((⟨s8_0,s8_1⟩:float.shape),(⟨t34_0.class_,t34_0.sign,t34_0.m,t34_0.e⟩:float.number),(⟨t40_0.class_,t40_0.sign,t40_0.m,t40_0.e⟩:float.number),t40_1)
 else
 some ((⟨s8_0,s8_1⟩:float.shape),(⟨t34_0.class_,t34_0.sign,t34_0.m,t34_0.e⟩:float.number),(⟨t40_0.class_,t40_0.sign,t40_0.m,t40_0.e⟩:float.number),false)
noncomputable def Flt.two.j1 (a2 b3:Int) (t15_0:float.shape) (t27:Bool):Option (float.shape × float.number × float.number × Bool) :=
 bif t27 then
 some ((⟨t15_0.p,t15_0.w⟩:float.shape),(⟨0,0,0,0⟩:float.number),(⟨0,0,0,0⟩:float.number),false)
 else
 Flt.two.j0 a2 b3 t15_0.p t15_0.w 0 0 0 0 0 0 0 0
noncomputable def Flt.two (kind0 mode1 a2 b3:Int):Option (float.shape × float.number × float.number × Bool) :=
 Option.bind (Flt.of kind0) fun (t15_0,t15_1) =>
 letk (!t15_1) fun t19 =>
 bif t19 then
 Flt.two.j1 a2 b3 t15_0 true
 else
 letk (decide (mode1 < (0:Int))) fun t22 =>
 bif t22 then
 Flt.two.j1 a2 b3 t15_0 true
 else
 letk (decide (mode1 ≥ (4:Int))) fun t26 =>
 Flt.two.j1 a2 b3 t15_0 t26
abbrev E9':float.shape × float.number × float.number × Bool → AV:=fun r=>(.tup [float.shape.enc r.1,float.number.enc r.2.1,float.number.enc r.2.2.1,.lit (.bool r.2.2.2)])
theorem Flt.two_ok {kind0 mode1 a2 b3:Int} {r:float.shape × float.number × float.number × Bool} (h0:Flt.two kind0 mode1 a2 b3 = some r):Gives Tryz.prog 165 [J kind0,J mode1,J a2,J b3] (.tup [float.shape.enc r.1,float.number.enc r.2.1,float.number.enc r.2.2.1,.lit (.bool r.2.2.2)]):=by
 unfold Flt.two at h0
 refine W' [(0,4),(37,7)] Tryz.func165 ?_
 refine V' ?_
 refine V' ?_
 refine V' ?_
 obtain ⟨⟨t15_0,_⟩,et15,h1⟩:=bind_elim h0
 refine Gate.go ?_
 refine Z' (Flt.of_ok et15) ?_
 refine V' ?_
 refine CutN.of (fun s=>∃ s8_0 s8_1 x9_0 x9_1 x9_2 x9_3 y10_0 y10_1 y10_2 y10_3,Flt.two.j0 a2 b3 s8_0 s8_1 x9_0 x9_1 x9_2 x9_3 y10_0 y10_1 y10_2 y10_3 = some r ∧ s = ⟨50,[(2,J a2),(3,J b3),(8,.ptr 0 0),(9,.ptr 1 0),(10,.ptr 2 0)],[.box [J s8_0,J s8_1],.box [J x9_0,J x9_1,U x9_2,J x9_3],.box [J y10_0,J y10_1,U y10_2,J y10_3]]⟩) ?_ ?_
 refine CutN.of (fun s=>∃ t27,Flt.two.j1 a2 b3 t15_0 t27 = some r ∧ s = ⟨50,[(2,J a2),(3,J b3),(8,.ptr 0 0),(9,.ptr 1 0),(10,.ptr 2 0),(27,.lit (.bool t27))],[.box [J t15_0.p,J t15_0.w],.box [J 0,J 0,U 0,J 0],.box [J 0,J 0,U 0,J 0]]⟩) ?_ ?_
 refine C' h1 (fun h3=>?_) fun h3=>?_
 refine C' h3 (fun h5=>?_) fun h5=>?_
 refine N' h5 fun _ h6=>?_
 exact B' [0,1,2] ⟨_,h6,rfl⟩
 exact B' [0,1,2] ⟨_,h5,rfl⟩
 exact B' [0,1,2] ⟨_,h3,rfl⟩
 rintro s ⟨t27,hj0,rfl⟩
 unfold Flt.two.j1 at hj0
 rcases t27 with _ | _
 have hj1:=bif_f hj0
 exact B' [0,1,2] ⟨_,_,_,_,_,_,_,_,_,_,hj1,rfl⟩
 have hj1:=bif_t hj0
 refine DrawB.ofFN 0 [.box [J t15_0.p,J t15_0.w],.box [J 0,J 0,U 0,J 0],.box [J 0,J 0,U 0,J 0]] 3 3 [[0],[1],[2],[0],[1],[2],[]] [[],[],[],[0],[1],[2],[]] [none,none,none,none,none,none,none] Tryz_mixed (by kernel_rfl) rfl rfl rfl (by kernel_rfl) ?_
 refine FNode.rd (F:=[0]) (W:=[]) (.agg [J t15_0.p,J t15_0.w]) ?_ rfl rfl ?_
 rfl
 refine FNode.rd (F:=[1]) (W:=[]) (.agg [J 0,J 0,U 0,J 0]) ?_ rfl rfl ?_
 rfl
 refine FNode.rd (F:=[2]) (W:=[]) (.agg [J 0,J 0,U 0,J 0]) ?_ rfl rfl ?_
 rfl
 refine FNode.pl (F:=[0]) (W:=[0]) (.undef) [.box [J t15_0.p,J t15_0.w],.box [J 0,J 0,U 0,J 0],.box [J 0,J 0,U 0,J 0]] ?_ rfl rfl rfl rfl ?_
 refine V' ?_
 rfl
 refine FNode.pl (F:=[1]) (W:=[1]) (.undef) [.box [J t15_0.p,J t15_0.w],.box [J 0,J 0,U 0,J 0],.box [J 0,J 0,U 0,J 0]] ?_ rfl rfl rfl rfl ?_
 refine V' ?_
 rfl
 refine FNode.pl (F:=[2]) (W:=[2]) (.undef) [.box [J t15_0.p,J t15_0.w],.box [J 0,J 0,U 0,J 0],.box [J 0,J 0,U 0,J 0]] ?_ rfl rfl rfl rfl ?_
 refine V' ?_
 rfl
 refine FNode.no (W:=[]) (.lit (.bool false)) ?_ rfl ?_
 rfl
 exact R' (E:=E9') hj1
 rintro s ⟨s8_0,s8_1,_,_,_,_,_,_,_,_,hj0,rfl⟩
 unfold Flt.two.j0 at hj0
 obtain ⟨⟨t34_0,t34_1⟩,et34,hj1⟩:=bind_elim hj0
 refine Gate.go ?_
 refine Z' (Flt.shape.read_ok et34) ?_
 refine V' ?_
 obtain ⟨⟨t40_0,t40_1⟩,et40,hj2⟩:=bind_elim hj1
 refine Gate.go ?_
 refine Z' (Flt.shape.read_ok et40) ?_
 refine V' ?_
 refine DrawB.ofFN 0 [.box [J s8_0,J s8_1],.box [J t34_0.class_,J t34_0.sign,U t34_0.m,J t34_0.e],.box [J t40_0.class_,J t40_0.sign,U t40_0.m,J t40_0.e]] 3 3 [[0],[1],[2],[],[],[],[],[0],[1],[2],[]] [[],[],[],[],[],[],[],[0],[1],[2],[]] [none,none,none,none,none,none,none,none,none,none,none] Tryz_mixed (by kernel_rfl) rfl rfl rfl (by kernel_rfl) ?_
 refine FNode.rd (F:=[0]) (W:=[]) (.agg [J s8_0,J s8_1]) ?_ rfl rfl ?_
 rfl
 refine FNode.rd (F:=[1]) (W:=[]) (.agg [J t34_0.class_,J t34_0.sign,U t34_0.m,J t34_0.e]) ?_ rfl rfl ?_
 rfl
 refine FNode.rd (F:=[2]) (W:=[]) (.agg [J t40_0.class_,J t40_0.sign,U t40_0.m,J t40_0.e]) ?_ rfl rfl ?_
 rfl
 refine FNode.no (W:=[]) (.lit (.bool t34_1)) ?_ rfl ?_
 rfl
 refine FNode.no (W:=[]) (.lit (.bool t34_1)) ?_ rfl ?_
 rfl
 rcases t34_1 with _ | _
 have hj3:=bif_f hj2
 refine FNode.no (W:=[]) (.lit (.bool false)) ?_ rfl ?_
 rfl
 refine FNode.pl (F:=[0]) (W:=[0]) (.undef) [.box [J s8_0,J s8_1],.box [J t34_0.class_,J t34_0.sign,U t34_0.m,J t34_0.e],.box [J t40_0.class_,J t40_0.sign,U t40_0.m,J t40_0.e]] ?_ rfl rfl rfl rfl ?_
 refine V' ?_
 rfl
 refine FNode.pl (F:=[1]) (W:=[1]) (.undef) [.box [J s8_0,J s8_1],.box [J t34_0.class_,J t34_0.sign,U t34_0.m,J t34_0.e],.box [J t40_0.class_,J t40_0.sign,U t40_0.m,J t40_0.e]] ?_ rfl rfl rfl rfl ?_
 refine V' ?_
 rfl
 refine FNode.pl (F:=[2]) (W:=[2]) (.undef) [.box [J s8_0,J s8_1],.box [J t34_0.class_,J t34_0.sign,U t34_0.m,J t34_0.e],.box [J t40_0.class_,J t40_0.sign,U t40_0.m,J t40_0.e]] ?_ rfl rfl rfl rfl ?_
 refine V' ?_
 rfl
 refine FNode.no (W:=[]) (.lit (.bool false)) ?_ rfl ?_
 rfl
 exact R' (E:=E9') hj3
 have hj3:=bif_t hj2
 refine FNode.no (W:=[]) (.lit (.bool t40_1)) ?_ rfl ?_
 rfl
 refine FNode.no (W:=[]) (.lit (.bool t40_1)) ?_ rfl ?_
 rfl
 refine FNode.pl (F:=[0]) (W:=[0]) (.undef) [.box [J s8_0,J s8_1],.box [J t34_0.class_,J t34_0.sign,U t34_0.m,J t34_0.e],.box [J t40_0.class_,J t40_0.sign,U t40_0.m,J t40_0.e]] ?_ rfl rfl rfl rfl ?_
 refine V' ?_
 rfl
 refine FNode.pl (F:=[1]) (W:=[1]) (.undef) [.box [J s8_0,J s8_1],.box [J t34_0.class_,J t34_0.sign,U t34_0.m,J t34_0.e],.box [J t40_0.class_,J t40_0.sign,U t40_0.m,J t40_0.e]] ?_ rfl rfl rfl rfl ?_
 refine V' ?_
 rfl
 refine FNode.pl (F:=[2]) (W:=[2]) (.undef) [.box [J s8_0,J s8_1],.box [J t34_0.class_,J t34_0.sign,U t34_0.m,J t34_0.e],.box [J t40_0.class_,J t40_0.sign,U t40_0.m,J t40_0.e]] ?_ rfl rfl rfl rfl ?_
 refine V' ?_
 rfl
 refine FNode.no (W:=[]) (.lit (.bool t40_1)) ?_ rfl ?_
 rfl
 exact R' (E:=E9') hj3
noncomputable def Flt.ToInt.j4 (x10_0_1 x10_1_1 x10_2_1 x10_3_1 m13_1 flags7_3:Int):Option (Int × Int × Int) :=
 letk (x10_1_1 == (1:Int)) fun t97 =>
 bif t97 then
 letk (IntKind.u64.wrap (0 - m13_1)) fun t99 =>
 letk (IntKind.i64.wrap t99) fun t101_1 =>
 some (t101_1,flags7_3,0)
 else
 letk (IntKind.i64.wrap m13_1) fun t101 =>
 some (t101,flags7_3,0)
noncomputable def Flt.ToInt.j3 (rest14 x10_0_1 x10_1_1 x10_2_1 x10_3_1 m13_1 flags7_2:Int):Option (Int × Int × Int) :=
 letk (decide (rest14 > (0:Int))) fun t94 =>
 bif t94 then
 Flt.ToInt.j4 x10_0_1 x10_1_1 x10_2_1 x10_3_1 m13_1 16
 else
 Flt.ToInt.j4 x10_0_1 x10_1_1 x10_2_1 x10_3_1 m13_1 flags7_2
noncomputable def Flt.ToInt.j2 (flags7_1 rest14 x10_0_1 x10_1_1 x10_2_1 x10_3_1 m13_1:Int):Option (Int × Int × Int) :=
 letk (decide (m13_1 > (9223372036854775808:Int))) fun t83 =>
 bif t83 then
 some (0,0,10)
 else
 letk (m13_1 == (9223372036854775808:Int)) fun t86 =>
 bif t86 then
 letk (x10_1_1 == (0:Int)) fun t90 =>
 bif t90 then
 some (0,0,10)
 else
 Flt.ToInt.j3 rest14 x10_0_1 x10_1_1 x10_2_1 x10_3_1 m13_1 flags7_1
 else
 Flt.ToInt.j3 rest14 x10_0_1 x10_1_1 x10_2_1 x10_3_1 m13_1 flags7_1
noncomputable def Flt.ToInt.j1 (mode1 flags7_1 x10_0 x10_1 x10_2 x10_3 m13 rest14:Int):Option (Int × Int × Int) :=
 letk (IntKind.u64.wrap (BitVec.ofInt (IntKind.u64).bits m13 &&& BitVec.ofInt (IntKind.u64).bits (1:Int)).toNat) fun t76 =>
 letk (t76 == (1:Int)) fun t77 =>
 Option.bind (Flt.away mode1 x10_1 t77 rest14) fun t79 =>
 bif t79 then
 letk (IntKind.u64.wrap (m13 + (1:Int))) fun t81 =>
 Flt.ToInt.j2 flags7_1 rest14 x10_0 x10_1 x10_2 x10_3 t81
 else
 Flt.ToInt.j2 flags7_1 rest14 x10_0 x10_1 x10_2 x10_3 m13
noncomputable def Flt.ToInt.j0 (mode1:Int) (t20_1:float.number) (flags7:Int):Option (Int × Int × Int) :=
 letk (decide (t20_1.e ≥ (0:Int))) fun t50 =>
 bif t50 then
 chk (0 ≤ t20_1.e) <|
 letk (IntKind.u64.wrap (t20_1.m * 2 ^ (min t20_1.e.toNat (IntKind.u64).bits))) fun t54 =>
 chk (0 ≤ t20_1.e) <|
 letk ((IntKind.u64,t54.fdiv (2 ^ (min t20_1.e.toNat (IntKind.u64).bits))).2) fun t58 =>
 letk (t58 != t20_1.m) fun t61 =>
 bif t61 then
 some (0,0,10)
 else
 Flt.ToInt.j1 mode1 flags7 t20_1.class_ t20_1.sign t20_1.m t20_1.e t54 0
 else
 letk (IntKind.i64.wrap (0 - t20_1.e)) fun t68 =>
 Option.bind (Flt.exact.right (⟨0,t20_1.m,0,false⟩:float.exact) t68) fun (t69_0,t69_1) =>
 Flt.ToInt.j1 mode1 flags7 t20_1.class_ t20_1.sign t20_1.m t20_1.e t69_0 t69_1
noncomputable def Flt.ToInt.j5 (mode1:Int) (t20_1:float.number) (t28:Bool):Option (Int × Int × Int) :=
 bif t28 then
 some (0,0,10)
 else
 letk (t20_1.class_ == (0:Int)) fun t45 =>
 bif t45 then
 some (0,0,0)
 else
 Flt.ToInt.j0 mode1 t20_1 0
noncomputable def Flt.ToInt (kind0 mode1 a2:Int):Option (Int × Int × Int) :=
 Option.bind (Flt.two kind0 mode1 a2 a2) fun (_,t20_1,_,t20_3) =>
 letk (!t20_3) fun t27 =>
 bif t27 then
 some (0,0,2)
 else
 letk (t20_1.class_ == (3:Int)) fun t31 =>
 bif t31 then
 Flt.ToInt.j5 mode1 t20_1 true
 else
 letk (t20_1.class_ == (2:Int)) fun t35 =>
 bif t35 then
 Flt.ToInt.j5 mode1 t20_1 true
 else
 letk (decide (t20_1.e ≥ (64:Int))) fun t40 =>
 Flt.ToInt.j5 mode1 t20_1 t40
theorem Flt.ToInt_ok {kind0 mode1 a2:Int} {r:Int × Int × Int} (h0:Flt.ToInt kind0 mode1 a2 = some r):Gives Tryz.prog 122 [J kind0,J mode1,J a2] (.tup [J r.1,J r.2.1,J r.2.2]):=by
 unfold Flt.ToInt at h0
 refine W' [(0,8),(0,14),(0,16),(0,18),(0,20),(38,11)] Tryz.func122 ?_
 obtain ⟨⟨_,t20_1,_,_⟩,et20,h1⟩:=bind_elim h0
 refine Gate.go ?_
 refine Z' (Flt.two_ok et20) ?_
 refine V' ?_
 refine V' ?_
 refine V' ?_
 refine V' ?_
 refine V' ?_
 refine V' ?_
 refine CutN.of (fun s=>∃ flags7,Flt.ToInt.j0 mode1 t20_1 flags7 = some r ∧ s = ⟨103,[(1,J mode1),(7,J flags7),(10,.ptr 0 0)],[.box [J t20_1.class_,J t20_1.sign,U t20_1.m,J t20_1.e]]⟩) ?_ ?_
 refine C' h1 (fun h3=>?_) fun h3=>?_
 refine CutN.of (fun s=>∃ t28,Flt.ToInt.j5 mode1 t20_1 t28 = some r ∧ s = ⟨103,[(1,J mode1),(7,J 0),(10,.ptr 0 0),(28,.lit (.bool t28))],[.box [J t20_1.class_,J t20_1.sign,U t20_1.m,J t20_1.e]]⟩) ?_ ?_
 refine C' h3 (fun h5=>?_) fun h5=>?_
 refine C' h5 (fun h7=>?_) fun h7=>?_
 refine N' h7 fun _ h8=>?_
 exact B' [1] ⟨_,h8,rfl⟩
 exact B' [1] ⟨_,h7,rfl⟩
 exact B' [1] ⟨_,h5,rfl⟩
 rintro s ⟨t28,hj0,rfl⟩
 unfold Flt.ToInt.j5 at hj0
 rcases t28 with _ | _
 have hj1:=bif_f hj0
 refine C' hj1 (fun hj3=>?_) fun hj3=>?_
 exact B' [0] ⟨_,hj3,rfl⟩
 exact R' (E:=E8') hj3
 have hj1:=bif_t hj0
 exact R' (E:=E8') hj1
 exact R' (E:=E8') h3
 rintro s ⟨_,hj0,rfl⟩
 unfold Flt.ToInt.j0 at hj0
 refine CutN.of (fun s=>∃ flags7_1 x10_0 x10_1 x10_2 x10_3 m13 rest14,Flt.ToInt.j1 mode1 flags7_1 x10_0 x10_1 x10_2 x10_3 m13 rest14 = some r ∧ s = ⟨103,[(1,J mode1),(7,J flags7_1),(10,.ptr 0 0),(13,U m13),(14,J rest14)],[.box [J x10_0,J x10_1,U x10_2,J x10_3]]⟩) ?_ ?_
 refine C' hj0 (fun hj2=>?_) fun hj2=>?_
 refine Gate.go ?_
 refine V' ?_
 refine N' hj2 fun _ hj3=>?_
 obtain ⟨⟨_,_⟩,et69,hj4⟩:=bind_elim hj3
 refine Gate.go ?_
 refine Z' (Flt.exact.right_ok et69) ?_
 exact B' [0] ⟨_,_,_,_,_,_,_,hj4,rfl⟩
 refine S' hj2 fun hj3=>?_
 refine N' hj3 fun _ hj4=>?_
 refine DrawB.ofG [none,none,none,none,none,none,none] Tryz_mixed (by kernel_rfl) (by kernel_rfl) ?_
 refine D' rfl (D' rfl (D' rfl ?_))
 refine DS' hj4 (fun c e=>Side.mk c (n' e rfl)) fun _ hj6=>?_
 refine D' rfl (D' rfl ?_)
 refine DN' hj6 (fun e=>n' e rfl) fun t61 hj7=>?_
 rcases t61 with _ | _
 have hj8:=bif_f hj7
 exact B' [0] ⟨_,_,_,_,_,_,_,hj8,rfl⟩
 have hj8:=bif_t hj7
 exact R' (E:=E8') hj8
 rintro s ⟨flags7_1,_,_,_,_,_,rest14,hj0,rfl⟩
 unfold Flt.ToInt.j1 at hj0
 refine CutN.of (fun s=>∃ x10_0_1 x10_1_1 x10_2_1 x10_3_1 m13_1,Flt.ToInt.j2 flags7_1 rest14 x10_0_1 x10_1_1 x10_2_1 x10_3_1 m13_1 = some r ∧ s = ⟨103,[(7,J flags7_1),(10,.ptr 0 0),(13,U m13_1),(14,J rest14)],[.box [J x10_0_1,J x10_1_1,U x10_2_1,J x10_3_1]]⟩) ?_ ?_
 refine N' hj0 fun _ hj1=>?_
 refine N' hj1 fun _ hj2=>?_
 refine Gate.go (A' hj2 Flt.away_ok fun t79 hj3=>?_)
 rcases t79 with _ | _
 have hj4:=bif_f hj3
 exact B' [0] ⟨_,_,_,_,_,hj4,rfl⟩
 have hj4:=bif_t hj3
 refine N' hj4 fun _ hj5=>?_
 exact B' [0] ⟨_,_,_,_,_,hj5,rfl⟩
 rintro s ⟨x10_0_1,x10_1_1,x10_2_1,x10_3_1,m13_1,hj0,rfl⟩
 unfold Flt.ToInt.j2 at hj0
 refine CutN.of (fun s=>∃ flags7_2,Flt.ToInt.j3 rest14 x10_0_1 x10_1_1 x10_2_1 x10_3_1 m13_1 flags7_2 = some r ∧ s = ⟨103,[(7,J flags7_2),(10,.ptr 0 0),(13,U m13_1),(14,J rest14)],[.box [J x10_0_1,J x10_1_1,U x10_2_1,J x10_3_1]]⟩) ?_ ?_
 refine C' hj0 (fun hj2=>?_) fun hj2=>?_
 refine C' hj2 (fun hj4=>?_) fun hj4=>?_
 exact B' [0] ⟨_,hj4,rfl⟩
 refine C' hj4 (fun hj6=>?_) fun hj6=>?_
 exact B' [0] ⟨_,hj6,rfl⟩
 exact R' (E:=E8') hj6
 exact R' (E:=E8') hj2
 rintro s ⟨_,hj0,rfl⟩
 unfold Flt.ToInt.j3 at hj0
 refine CutN.of (fun s=>∃ flags7_3,Flt.ToInt.j4 x10_0_1 x10_1_1 x10_2_1 x10_3_1 m13_1 flags7_3 = some r ∧ s = ⟨103,[(7,J flags7_3),(10,.ptr 0 0),(13,U m13_1)],[.box [J x10_0_1,J x10_1_1,U x10_2_1,J x10_3_1]]⟩) ?_ ?_
 refine C' hj0 (fun hj2=>?_) fun hj2=>?_
 exact B' [0] ⟨_,hj2,rfl⟩
 exact B' [0] ⟨_,hj2,rfl⟩
 rintro s ⟨_,hj0,rfl⟩
 unfold Flt.ToInt.j4 at hj0
 refine C' hj0 (fun hj2=>?_) fun hj2=>?_
 refine N' hj2 fun _ hj3=>?_
 exact R' (E:=E8') hj3
 refine N' hj2 fun _ hj3=>?_
 refine N' hj3 fun _ hj4=>?_
 exact R' (E:=E8') hj4
noncomputable def Flt.shape.quiet (s0:float.shape):Option Int :=
 Option.bind (Flt.shape.top (⟨s0.p,s0.w⟩:float.shape)) fun t5 =>
 letk (IntKind.i64.wrap (s0.p - (2:Int))) fun t8 =>
 chk (0 ≤ t8) <|
 letk (IntKind.u64.wrap ((1:Int) * 2 ^ (min t8.toNat (IntKind.u64).bits))) fun t9 =>
 Option.bind (Flt.shape.pack (⟨s0.p,s0.w⟩:float.shape) 0 t5 t9) fun t10 =>
 some t10
theorem Flt.shape.quiet_ok {s0:float.shape} {r:Int} (h0:Flt.shape.quiet s0 = some r):Gives Tryz.prog 168 [float.shape.enc s0] (J r):=by
 unfold Flt.shape.quiet at h0
 refine W' [] Tryz.func168 ?_
 refine V' ?_
 refine DrawB.ofG [none,none,none,none,none,none,none,none,none] Tryz_mixed (by kernel_rfl) (by kernel_rfl) ?_
 refine D' rfl (D' rfl ?_)
 refine DC' h0 (fun e=>Z' (Flt.shape.top_ok e) rfl) fun _ h1=>?_
 refine D' rfl (D' rfl ?_)
 refine DN' h1 (fun e=>n' e rfl) fun _ h2=>?_
 refine DS' h2 (fun c e=>Side.mk c (n' e rfl)) fun _ h4=>?_
 refine DC' h4 (fun e=>Z' (Flt.shape.pack_ok e) rfl) fun _ h5=>?_
 refine D' rfl ?_
 exact R' (E:=E2') h5
noncomputable def Flt.Convert.j0 (mode2:Int) (t22_1:float.number) (t29_0:float.shape):Option (Int × Int × Int) :=
 letk (t22_1.class_ == (3:Int)) fun t41 =>
 bif t41 then
 Option.bind (Flt.shape.quiet (⟨t29_0.p,t29_0.w⟩:float.shape)) fun t43 =>
 some (t43,0,0)
 else
 letk (t22_1.class_ == (2:Int)) fun t45 =>
 bif t45 then
 Option.bind (Flt.shape.infinite (⟨t29_0.p,t29_0.w⟩:float.shape) t22_1.sign) fun t49 =>
 some (t49,0,0)
 else
 letk (t22_1.class_ == (0:Int)) fun t51 =>
 bif t51 then
 Option.bind (Flt.shape.zero (⟨t29_0.p,t29_0.w⟩:float.shape) t22_1.sign) fun t55 =>
 some (t55,0,0)
 else
 Option.bind (Flt.shape.round (⟨t29_0.p,t29_0.w⟩:float.shape) mode2 t22_1.sign (⟨0,t22_1.m,t22_1.e,false⟩:float.exact)) fun (t66_0,t66_1) =>
 some (t66_0,t66_1,0)
noncomputable def Flt.Convert (from0 to1 mode2 a3:Int):Option (Int × Int × Int) :=
 Option.bind (Flt.two from0 mode2 a3 a3) fun (_,t22_1,_,t22_3) =>
 Option.bind (Flt.of to1) fun (t29_0,t29_1) =>
 letk (!t22_3) fun t33 =>
 bif t33 then
 some (0,0,2)
 else
 letk (!t29_1) fun t36 =>
 bif t36 then
 some (0,0,2)
 else
 Flt.Convert.j0 mode2 t22_1 t29_0
theorem Flt.Convert_ok {from0 to1 mode2 a3:Int} {r:Int × Int × Int} (h0:Flt.Convert from0 to1 mode2 a3 = some r):Gives Tryz.prog 123 [J from0,J to1,J mode2,J a3] (.tup [J r.1,J r.2.1,J r.2.2]):=by
 unfold Flt.Convert at h0
 refine W' [(0,5)] Tryz.func123 ?_
 obtain ⟨⟨_,t22_1,_,_⟩,et22,h1⟩:=bind_elim h0
 refine Gate.go ?_
 refine Z' (Flt.two_ok et22) ?_
 refine V' ?_
 refine V' ?_
 refine V' ?_
 refine V' ?_
 refine V' ?_
 refine V' ?_
 obtain ⟨⟨t29_0,_⟩,et29,h2⟩:=bind_elim h1
 refine Gate.go ?_
 refine Z' (Flt.of_ok et29) ?_
 refine V' ?_
 refine V' ?_
 refine CutN.of (fun s=>Flt.Convert.j0 mode2 t22_1 t29_0 = some r ∧ s = ⟨71,[(2,J mode2),(12,.ptr 0 0),(15,.ptr 1 0)],[.box [J t22_1.class_,J t22_1.sign,U t22_1.m,J t22_1.e],.box [J t29_0.p,J t29_0.w]]⟩) ?_ ?_
 refine C' h2 (fun h4=>?_) fun h4=>?_
 refine C' h4 (fun h6=>?_) fun h6=>?_
 exact B' [1,3] ⟨h6,rfl⟩
 exact R' (E:=E8') h6
 exact R' (E:=E8') h4
 rintro s ⟨hj0,rfl⟩
 unfold Flt.Convert.j0 at hj0
 refine C' hj0 (fun hj2=>?_) fun hj2=>?_
 refine C' hj2 (fun hj4=>?_) fun hj4=>?_
 refine C' hj4 (fun hj6=>?_) fun hj6=>?_
 refine Gate.go ?_
 refine V' ?_
 obtain ⟨⟨_,_⟩,et66,hj7⟩:=bind_elim hj6
 refine Gate.go ?_
 refine Z' (Flt.shape.round_ok et66) ?_
 exact R' (E:=E8') hj7
 refine Gate.go (A' hj6 Flt.shape.zero_ok fun _ hj7=>?_)
 exact R' (E:=E8') hj7
 refine Gate.go (A' hj4 Flt.shape.infinite_ok fun _ hj5=>?_)
 exact R' (E:=E8') hj5
 refine Gate.go (A' hj2 Flt.shape.quiet_ok fun _ hj3=>?_)
 exact R' (E:=E8') hj3
noncomputable def Arr.to.j0 (kind0 v3_0 v3_1 t4_0 t4_1:Int):Option (api.Value × Int) :=
 Option.bind (Arr.bytes v3_0) fun t75 =>
 Option.bind (Arr.bytes kind0) fun t77 =>
 Option.bind (Flt.Convert t75 t77 0 v3_1) fun (t80_0,_,_) =>
 some ((⟨kind0,t80_0⟩:api.Value),0)
noncomputable def Arr.to.j2 (kind0 t57_0 t4_0_2 t4_1_2:Int) (t67:Bool):Option (api.Value × Int) :=
 bif t67 then
 some ((⟨0,0⟩:api.Value),10)
 else
 some ((⟨kind0,t57_0⟩:api.Value),0)
noncomputable def Arr.to.j1 (kind0 v3_0_1 v3_1_1 t4_0_1 t4_1_1:Int) (t21:Bool):Option (api.Value × Int) :=
 bif t21 then
 some ((⟨0,0⟩:api.Value),70)
 else
 letk (v3_0_1 == (1:Int)) fun t35 =>
 bif t35 then
 Option.bind (Arr.bytes kind0) fun t38 =>
 Option.bind (Flt.FromInt t38 0 v3_1_1) fun (t41_0,_,_) =>
 some ((⟨kind0,t41_0⟩:api.Value),0)
 else
 letk (kind0 == (1:Int)) fun t50 =>
 bif t50 then
 Option.bind (Arr.bytes v3_0_1) fun t54 =>
 Option.bind (Flt.ToInt t54 1 v3_1_1) fun (t57_0,_,t57_2) =>
 letk (t57_2 != (0:Int)) fun t62 =>
 bif t62 then
 Arr.to.j2 kind0 t57_0 t4_0_1 t4_1_1 true
 else
 Option.bind (Arr.fits 1 t57_0) fun t65 =>
 letk (!t65) fun t66 =>
 Arr.to.j2 kind0 t57_0 t4_0_1 t4_1_1 t66
 else
 Arr.to.j0 kind0 v3_0_1 v3_1_1 t4_0_1 t4_1_1
noncomputable def Arr.to (kind0:Int) (v1:api.Value):Option (api.Value × Int) :=
 letk (kind0 == v1.Kind) fun t19 =>
 bif t19 then
 some ((⟨v1.Kind,v1.N⟩:api.Value),0)
 else
 Option.bind (Arr.isNumber kind0) fun t23 =>
 letk (!t23) fun t24 =>
 bif t24 then
 Arr.to.j1 kind0 v1.Kind v1.N 0 0 true
 else
 Option.bind (Arr.isNumber v1.Kind) fun t28 =>
 letk (!t28) fun t29 =>
 Arr.to.j1 kind0 v1.Kind v1.N 0 0 t29
abbrev E10':api.Value × Int → AV:=fun r=>(.tup [api.Value.enc r.1,J r.2])
theorem Arr.to_ok {kind0:Int} {v1:api.Value} {r:api.Value × Int} (h0:Arr.to kind0 v1 = some r):Gives Tryz.prog 76 [J kind0,api.Value.enc v1] (.tup [api.Value.enc r.1,J r.2]):=by
 unfold Arr.to at h0
 refine W' [(0,13),(31,9),(77,23)] Tryz.func76 ?_
 refine V' ?_
 refine V' ?_
 refine CutN.of (fun s=>∃ v3_0 v3_1 t4_0 t4_1,Arr.to.j0 kind0 v3_0 v3_1 t4_0 t4_1 = some r ∧ s = ⟨87,[(0,J kind0),(3,.ptr 0 0),(4,.ptr 1 0)],[.box [J v3_0,J v3_1],.box [J t4_0,J t4_1]]⟩) ?_ ?_
 refine C' h0 (fun h2=>?_) fun h2=>?_
 refine CutN.of (fun s=>∃ v3_0_1 v3_1_1 t4_0_1 t4_1_1 t21,Arr.to.j1 kind0 v3_0_1 v3_1_1 t4_0_1 t4_1_1 t21 = some r ∧ s = ⟨87,[(0,J kind0),(3,.ptr 0 0),(4,.ptr 1 0),(21,.lit (.bool t21))],[.box [J v3_0_1,J v3_1_1],.box [J t4_0_1,J t4_1_1]]⟩) ?_ ?_
 refine Gate.go (A' h2 Arr.isNumber_ok fun _ h3=>?_)
 refine C' h3 (fun h5=>?_) fun h5=>?_
 refine Gate.go (A' h5 Arr.isNumber_ok fun _ h6=>?_)
 refine N' h6 fun _ h7=>?_
 exact B' [0,1] ⟨_,_,_,_,_,h7,rfl⟩
 exact B' [0,1] ⟨_,_,_,_,_,h5,rfl⟩
 rintro s ⟨_,_,_,_,t21,hj0,rfl⟩
 unfold Arr.to.j1 at hj0
 rcases t21 with _ | _
 have hj1:=bif_f hj0
 refine C' hj1 (fun hj3=>?_) fun hj3=>?_
 refine C' hj3 (fun hj5=>?_) fun hj5=>?_
 exact B' [0,1] ⟨_,_,_,_,hj5,rfl⟩
 refine L' [0,1] [0,3,4] ?_
 refine DrawB.ofG [none,none,none,none,none,none,none,none,none,none,none,none,none] Tryz_mixed (by kernel_rfl) (by kernel_rfl) ?_
 refine D' rfl (D' rfl ?_)
 refine DC' hj5 (fun e=>Z' (Arr.bytes_ok e) rfl) fun _ hj6=>?_
 refine D' rfl (D' rfl ?_)
 obtain ⟨⟨t57_0,t57_1,t57_2⟩,et57,hj7⟩:=bind_elim hj6
 refine DNodeB.of (.tup [J t57_0,J t57_1,J t57_2]) ?_ ?_
 refine Z' (Flt.ToInt_ok et57) ?_
 rfl
 refine D' rfl (D' rfl (D' rfl (D' rfl (D' rfl (D' rfl (D' rfl ?_))))))
 refine CutN.of (fun s=>∃ t4_0_2 t4_1_2 t67,Arr.to.j2 kind0 t57_0 t4_0_2 t4_1_2 t67 = some r ∧ s = ⟨87,[(0,J kind0),(4,.ptr 0 0),(9,J t57_0),(67,.lit (.bool t67))],[.box [J t4_0_2,J t4_1_2]]⟩) ?_ ?_
 refine C' hj7 (fun hj9=>?_) fun hj9=>?_
 refine Gate.go (A' hj9 Arr.fits_ok fun _ hj10=>?_)
 refine N' hj10 fun _ hj11=>?_
 exact B' [1] ⟨_,_,_,hj11,rfl⟩
 exact B' [1] ⟨_,_,_,hj9,rfl⟩
 rintro s ⟨_,_,t67,hj0,rfl⟩
 unfold Arr.to.j2 at hj0
 rcases t67 with _ | _
 have hj1:=bif_f hj0
 refine Gate.go ?_
 refine V' ?_
 refine V' ?_
 exact R' (E:=E10') hj1
 have hj1:=bif_t hj0
 refine Gate.go ?_
 refine V' ?_
 refine V' ?_
 exact R' (E:=E10') hj1
 refine L' [0,1] [0,3,4] ?_
 refine DrawB.ofG [none,none,none,none,none,none,none,none,none,none,none,none] Tryz_mixed (by kernel_rfl) (by kernel_rfl) ?_
 refine D' rfl ?_
 refine DC' hj3 (fun e=>Z' (Arr.bytes_ok e) rfl) fun _ hj4=>?_
 refine D' rfl (D' rfl ?_)
 obtain ⟨⟨t41_0,t41_1,t41_2⟩,et41,hj5⟩:=bind_elim hj4
 refine DNodeB.of (.tup [J t41_0,J t41_1,J t41_2]) ?_ ?_
 refine Z' (Flt.FromInt_ok et41) ?_
 rfl
 refine D' rfl (D' rfl (D' rfl (D' rfl (D' rfl (D' rfl (D' rfl ?_))))))
 refine Gate.go ?_
 refine V' ?_
 refine V' ?_
 exact R' (E:=E10') hj5
 have hj1:=bif_t hj0
 refine Gate.go ?_
 refine V' ?_
 refine V' ?_
 exact R' (E:=E10') hj1
 refine V' ?_
 exact R' (E:=E10') h2
 rintro s ⟨_,_,_,_,hj0,rfl⟩
 unfold Arr.to.j0 at hj0
 refine L' [0,1] [0,3,4] ?_
 refine DrawB.ofG [none,none,none,none,none,none,none,none,none,none,none,none,none,none,none] Tryz_mixed (by kernel_rfl) (by kernel_rfl) ?_
 refine D' rfl (D' rfl ?_)
 refine DC' hj0 (fun e=>Z' (Arr.bytes_ok e) rfl) fun _ hj1=>?_
 refine D' rfl ?_
 refine DC' hj1 (fun e=>Z' (Arr.bytes_ok e) rfl) fun _ hj2=>?_
 refine D' rfl (D' rfl ?_)
 obtain ⟨⟨t80_0,t80_1,t80_2⟩,et80,hj3⟩:=bind_elim hj2
 refine DNodeB.of (.tup [J t80_0,J t80_1,J t80_2]) ?_ ?_
 refine Z' (Flt.Convert_ok et80) ?_
 rfl
 refine D' rfl (D' rfl (D' rfl (D' rfl (D' rfl (D' rfl (D' rfl ?_))))))
 refine Gate.go ?_
 refine V' ?_
 refine V' ?_
 exact R' (E:=E10') hj3
noncomputable def Arr.number (kind0 n1:Int):Option api.Value :=
 Option.bind (Arr.to kind0 (⟨1,n1⟩:api.Value)) fun (t11_0,_) =>
 some (⟨t11_0.Kind,t11_0.N⟩:api.Value)
abbrev E11':api.Value → AV:=fun r=>(api.Value.enc r)
theorem Arr.number_ok {kind0 n1:Int} {r:api.Value} (h0:Arr.number kind0 n1 = some r):Gives Tryz.prog 129 [J kind0,J n1] (api.Value.enc r):=by
 unfold Arr.number at h0
 refine W' [] Tryz.func129 ?_
 refine V' ?_
 refine Gate.go ?_
 refine V' ?_
 obtain ⟨⟨_,_⟩,et11,h1⟩:=bind_elim h0
 refine Gate.go ?_
 refine Z' (Arr.to_ok et11) ?_
 refine V' ?_
 refine V' ?_
 refine V' ?_
 exact R' (E:=E11') h1
noncomputable def Arr.isScalar (a0:api.Array):Option Bool :=
 letk ((a0.Shape.length:Int)) fun t5 =>
 letk (t5 == (0:Int)) fun t6 =>
 some t6
theorem Arr.isScalar_ok {a0:api.Array} {r:Bool} (h0:Arr.isScalar a0 = some r):Gives Tryz.prog 82 [api.Array.enc a0] (.lit (.bool r)):=by
 unfold Arr.isScalar at h0
 refine W' [] Tryz.func82 ?_
 refine V' ?_
 obtain ⟨t5,et5,h1⟩:=letk_elim h0
 refine Nm.mk ⟨t5,by rw [et5,List.length_map],?_⟩
 refine N' h1 fun _ h2=>?_
 exact R' (E:=E1') h2
noncomputable def Arr.at_.j0 (i1_1 a2_0:Int) (a2_1 a2_2:List Int) (t4_0 t4_1:Int):Option api.Value :=
 chk (0 ≤ i1_1) <|
 Option.bind (a2_2[i1_1.toNat]?) fun t12 =>
 some (⟨a2_0,t12⟩:api.Value)
noncomputable def Arr.at_ (a0:api.Array) (i1:Int):Option api.Value :=
 Option.bind (Arr.isScalar (⟨a0.Kind,a0.Shape,a0.Elems⟩:api.Array)) fun t6 =>
 bif t6 then
 Arr.at_.j0 0 a0.Kind a0.Shape a0.Elems 0 0
 else
 Arr.at_.j0 i1 a0.Kind a0.Shape a0.Elems 0 0
theorem Arr.at__ok {a0:api.Array} {i1:Int} {r:api.Value} (h0:Arr.at_ a0 i1 = some r):Gives Tryz.prog 61 [api.Array.enc a0,J i1] (api.Value.enc r):=by
 unfold Arr.at_ at h0
 refine W' [(0,3)] Tryz.func61 ?_
 refine V' ?_
 refine V' ?_
 refine CutN.of (fun s=>∃ i1_1 a2_0 a2_1 a2_2 t4_0 t4_1,Arr.at_.j0 i1_1 a2_0 a2_1 a2_2 t4_0 t4_1 = some r ∧ s = ⟨15,[(1,J i1_1),(2,.ptr 0 0),(4,.ptr 1 0)],[.box [J a2_0,VI' a2_1,VI' a2_2],.box [J t4_0,J t4_1]]⟩) ?_ ?_
 refine Gate.go (A' h0 Arr.isScalar_ok fun t6 h1=>?_)
 rcases t6 with _ | _
 have h2:=bif_f h1
 exact B' [0,1] ⟨_,_,_,_,_,_,h2,rfl⟩
 have h2:=bif_t h1
 exact B' [0,1] ⟨_,_,_,_,_,_,h2,rfl⟩
 rintro s ⟨i1_1,a2_0,a2_1,a2_2,t4_0,t4_1,hj0,rfl⟩
 unfold Arr.at_.j0 at hj0
 refine DrawB.ofFN 0 [.box [J a2_0,VI' a2_1,VI' a2_2],.box [J t4_0,J t4_1]] 2 2 [[0],[0],[0],[0],[],[],[],[],[1]] [[],[],[],[],[],[],[],[],[1]] [none,none,none,none,none,none,none,none,none] Tryz_mixed (by kernel_rfl) rfl rfl rfl (by kernel_rfl) ?_
 refine FNode.rd (F:=[0]) (W:=[]) (.ptr 0 0) ?_ rfl rfl ?_
 rfl
 refine FNode.rd (F:=[0]) (W:=[]) (J a2_0) ?_ rfl rfl ?_
 rfl
 refine FNode.rd (F:=[0]) (W:=[]) (.ptr 0 2) ?_ rfl rfl ?_
 rfl
 refine FNode.rd (F:=[0]) (W:=[]) (VI' a2_2) ?_ rfl rfl ?_
 rfl
 refine FNode.no (W:=[]) (J i1_1) ?_ rfl ?_
 rfl
 obtain ⟨chj1,hj1⟩:=chk_elim hj0
 obtain ⟨t12,et12,hj2⟩:=bind_elim hj1
 refine FNode.no (W:=[]) (.iptr (J t12)) ?_ rfl ?_
 refine Side.mk chj1 ?_
 refine At.by et12 ?_
 rfl
 refine FNode.no (W:=[]) (J t12) ?_ rfl ?_
 rfl
 refine FNode.no (W:=[]) (.agg [J a2_0,J t12]) ?_ rfl ?_
 refine V' ?_
 rfl
 refine FNode.pl (F:=[1]) (W:=[1]) (.undef) [.box [J a2_0,VI' a2_1,VI' a2_2],.box [J a2_0,J t12]] ?_ rfl rfl rfl rfl ?_
 refine V' ?_
 rfl
 exact R' (E:=E11') hj2
noncomputable def Arr.logical (is0:Bool):Option api.Value :=
 bif is0 then
 some (⟨2,1⟩:api.Value)
 else
 some (⟨2,0⟩:api.Value)
theorem Arr.logical_ok {is0:Bool} {r:api.Value} (h0:Arr.logical is0 = some r):Gives Tryz.prog 86 [.lit (.bool is0)] (api.Value.enc r):=by
 unfold Arr.logical at h0
 refine W' [] Tryz.func86 ?_
 refine V' ?_
 rcases is0 with _ | _
 have h1:=bif_f h0
 refine Gate.go ?_
 refine V' ?_
 refine V' ?_
 exact R' (E:=E11') h1
 have h1:=bif_t h0
 refine Gate.go ?_
 refine V' ?_
 refine V' ?_
 exact R' (E:=E11') h1
noncomputable def Arr.integer (n0:Int):Option (api.Value × Int) :=
 Option.bind (Arr.fits 1 n0) fun t5 =>
 letk (!t5) fun t6 =>
 bif t6 then
 some ((⟨0,0⟩:api.Value),10)
 else
 some ((⟨1,n0⟩:api.Value),0)
theorem Arr.integer_ok {n0:Int} {r:api.Value × Int} (h0:Arr.integer n0 = some r):Gives Tryz.prog 142 [J n0] (.tup [api.Value.enc r.1,J r.2]):=by
 unfold Arr.integer at h0
 refine W' [] Tryz.func142 ?_
 refine V' ?_
 refine Gate.go (A' h0 Arr.fits_ok fun _ h1=>?_)
 refine C' h1 (fun h3=>?_) fun h3=>?_
 refine Gate.go ?_
 refine V' ?_
 refine V' ?_
 exact R' (E:=E10') h3
 refine Gate.go ?_
 refine V' ?_
 refine V' ?_
 exact R' (E:=E10') h3
noncomputable def Flt.shape.none (s0:float.shape) (mode1:Int):Option Int :=
 letk (mode1 == (2:Int)) fun t6 =>
 bif t6 then
 Option.bind (Flt.shape.zero (⟨s0.p,s0.w⟩:float.shape) 1) fun t8 =>
 some t8
 else
 Option.bind (Flt.shape.zero (⟨s0.p,s0.w⟩:float.shape) 0) fun t10 =>
 some t10
theorem Flt.shape.none_ok {s0:float.shape} {mode1 r:Int} (h0:Flt.shape.none s0 mode1 = some r):Gives Tryz.prog 205 [float.shape.enc s0,J mode1] (J r):=by
 unfold Flt.shape.none at h0
 refine W' [] Tryz.func205 ?_
 refine V' ?_
 refine C' h0 (fun h2=>?_) fun h2=>?_
 refine Gate.go (A' h2 Flt.shape.zero_ok fun _ h3=>?_)
 exact R' (E:=E2') h3
 refine Gate.go (A' h2 Flt.shape.zero_ok fun _ h3=>?_)
 exact R' (E:=E2') h3
noncomputable def Flt.left (m0 n1:Int):Option (Int × Int) :=
 letk (decide (n1 ≥ (64:Int))) fun t7 =>
 bif t7 then
 letk (IntKind.i64.wrap (n1 - (64:Int))) fun t10 =>
 chk (0 ≤ t10) <|
 letk (IntKind.u64.wrap (m0 * 2 ^ (min t10.toNat (IntKind.u64).bits))) fun t11 =>
 some (t11,0)
 else
 letk (IntKind.i64.wrap ((64:Int) - n1)) fun t14 =>
 chk (0 ≤ t14) <|
 letk ((IntKind.u64,m0.fdiv (2 ^ (min t14.toNat (IntKind.u64).bits))).2) fun t15 =>
 chk (0 ≤ n1) <|
 letk (IntKind.u64.wrap (m0 * 2 ^ (min n1.toNat (IntKind.u64).bits))) fun t18 =>
 some (t15,t18)
abbrev E12':Int × Int → AV:=fun r=>(.tup [U r.1,U r.2])
theorem Flt.left_ok {m0 n1:Int} {r:Int × Int} (h0:Flt.left m0 n1 = some r):Gives Tryz.prog 178 [U m0,J n1] (.tup [U r.1,U r.2]):=by
 unfold Flt.left at h0
 refine W' [] Tryz.func178 ?_
 refine C' h0 (fun h2=>?_) fun h2=>?_
 refine DrawB.ofG [none,none,none,none,none,none,none,none,none] Tryz_mixed (by kernel_rfl) (by kernel_rfl) ?_
 refine D' rfl (D' rfl ?_)
 refine DN' h2 (fun e=>n' e rfl) fun _ h3=>?_
 obtain ⟨ch4,h4⟩:=chk_elim h3
 obtain ⟨t15,et15,h5⟩:=letk_elim h4
 refine DNodeB.of (U t15) ?_ ?_
 refine Side.mk ch4 ?_
 refine Nm.mk ⟨t15,et15,?_⟩
 rfl
 refine D' rfl (D' rfl ?_)
 refine DS' h5 (fun c e=>Side.mk c (n' e rfl)) fun _ h7=>?_
 refine D' rfl (D' rfl ?_)
 exact R' (E:=E12') h7
 refine N' h2 fun _ h3=>?_
 refine S' h3 fun h4=>?_
 refine N' h4 fun _ h5=>?_
 exact R' (E:=E12') h5
noncomputable def Flt.shape.sum.j4 (mode1 lo15 hi17 sign18 s4_0_2 s4_1_2 a12_0_2 a12_1_2 a12_2_2:Int) (a12_3_3:Bool):Option (Int × Int) :=
 Option.bind (Flt.shape.round (⟨s4_0_2,s4_1_2⟩:float.shape) mode1 sign18 (⟨hi17,lo15,a12_2_2,a12_3_3⟩:float.exact)) fun (t122_0,t122_1) =>
 some (t122_0,t122_1)
noncomputable def Flt.shape.sum.j5 (mode1 s4_0_1 s4_1_1 a12_0_1 a12_1_1 a12_2_1 lo15 hi17 sign18:Int) (a12_3_4 t110:Bool):Option (Int × Int) :=
 bif t110 then
 Option.bind (Flt.shape.none (⟨s4_0_1,s4_1_1⟩:float.shape) mode1) fun t113 =>
 some (t113,0)
 else
 Flt.shape.sum.j4 mode1 lo15 hi17 sign18 s4_0_1 s4_1_1 a12_0_1 a12_1_1 a12_2_1 a12_3_4
noncomputable def Flt.shape.sum.j3 (mode1 s4_0_1 s4_1_1 a12_0_1 a12_1_1 a12_2_1:Int) (a12_3_2:Bool) (lo15 hi17 sign18:Int):Option (Int × Int) :=
 letk (hi17 == (0:Int)) fun t106 =>
 bif t106 then
 letk (lo15 == (0:Int)) fun t109 =>
 Flt.shape.sum.j5 mode1 s4_0_1 s4_1_1 a12_0_1 a12_1_1 a12_2_1 lo15 hi17 sign18 a12_3_2 t109
 else
 Flt.shape.sum.j5 mode1 s4_0_1 s4_1_1 a12_0_1 a12_1_1 a12_2_1 lo15 hi17 sign18 a12_3_2 false
noncomputable def Flt.shape.sum.j2 (mode1 s4_0 s4_1 x6_0 x6_1 x6_2 x6_3 y7_0 y7_1 y7_2 y7_3 a12_0 a12_1 a12_2:Int) (a12_3_1:Bool) (b13_1:Int):Option (Int × Int) :=
 Option.bind (Bits.Sub64 a12_1 b13_1 0) fun (t78_0,t78_1) =>
 Option.bind (Bits.Sub64 a12_0 0 t78_1) fun (t85_0,t85_1) =>
 letk (t85_1 == (1:Int)) fun t91 =>
 bif t91 then
 Option.bind (Bits.Sub64 0 t78_0 0) fun (t96_0,t96_1) =>
 Option.bind (Bits.Sub64 0 t85_0 t96_1) fun (t102_0,_) =>
 Flt.shape.sum.j3 mode1 s4_0 s4_1 a12_0 a12_1 a12_2 a12_3_1 t96_0 t102_0 y7_1
 else
 Flt.shape.sum.j3 mode1 s4_0 s4_1 a12_0 a12_1 a12_2 a12_3_1 t78_0 t85_0 x6_1
noncomputable def Flt.shape.sum.j1 (mode1 s4_0 s4_1 x6_0 x6_1 x6_2 x6_3 y7_0 y7_1 y7_2 y7_3:Int) (far11_1:Bool) (a12_0 a12_1 a12_2:Int) (a12_3:Bool) (b13:Int):Option (Int × Int) :=
 letk (x6_1 == y7_1) fun t51 =>
 bif t51 then
 Option.bind (Bits.Add64 a12_1 b13 0) fun (t56_0,t56_1) =>
 letk (IntKind.u64.wrap (a12_0 + t56_1)) fun t63 =>
 Option.bind (Flt.shape.round (⟨s4_0,s4_1⟩:float.shape) mode1 x6_1 (⟨t63,t56_0,a12_2,a12_3⟩:float.exact)) fun (t70_0,t70_1) =>
 some (t70_0,t70_1)
 else
 bif far11_1 then
 Flt.shape.sum.j2 mode1 s4_0 s4_1 x6_0 x6_1 x6_2 x6_3 y7_0 y7_1 y7_2 y7_3 a12_0 a12_1 a12_2 a12_3 1
 else
 Flt.shape.sum.j2 mode1 s4_0 s4_1 x6_0 x6_1 x6_2 x6_3 y7_0 y7_1 y7_2 y7_3 a12_0 a12_1 a12_2 a12_3 b13
noncomputable def Flt.shape.sum.j0 (s0:float.shape) (mode1:Int) (x2 y3:float.number) (apart10:Int) (far11:Bool):Option (Int × Int) :=
 letk (IntKind.i64.wrap (x2.e - apart10)) fun t32 =>
 Option.bind (Flt.left x2.m apart10) fun (t38_0,t38_1) =>
 bif far11 then
 Flt.shape.sum.j1 mode1 s0.p s0.w x2.class_ x2.sign x2.m x2.e y3.class_ y3.sign y3.m y3.e true t38_0 t38_1 t32 true 0
 else
 Flt.shape.sum.j1 mode1 s0.p s0.w x2.class_ x2.sign x2.m x2.e y3.class_ y3.sign y3.m y3.e false t38_0 t38_1 t32 false y3.m
noncomputable def Flt.shape.sum (s0:float.shape) (mode1:Int) (x2 y3:float.number):Option (Int × Int) :=
 letk (IntKind.i64.wrap (x2.e - y3.e)) fun t23 =>
 letk (decide (t23 > (70:Int))) fun t25 =>
 bif t25 then
 Flt.shape.sum.j0 s0 mode1 x2 y3 70 true
 else
 Flt.shape.sum.j0 s0 mode1 x2 y3 t23 false
theorem Flt.shape.sum_ok {s0:float.shape} {mode1:Int} {x2 y3:float.number} {r:Int × Int} (h0:Flt.shape.sum s0 mode1 x2 y3 = some r):Gives Tryz.prog 206 [float.shape.enc s0,J mode1,float.number.enc x2,float.number.enc y3] (.tup [J r.1,J r.2]):=by
 unfold Flt.shape.sum at h0
 refine W' [(0,5),(0,10),(0,17),(0,24),(0,26),(120,51)] Tryz.func206 ?_
 refine V' ?_
 refine V' ?_
 refine V' ?_
 refine N' h0 fun _ h1=>?_
 refine N' h1 fun t25 h2=>?_
 refine CutN.of (fun s=>∃ apart10 far11,Flt.shape.sum.j0 s0 mode1 x2 y3 apart10 far11 = some r ∧ s = ⟨125,[(1,J mode1),(4,.ptr 0 0),(6,.ptr 1 0),(7,.ptr 2 0),(10,J apart10),(11,.lit (.bool far11))],[.box [J s0.p,J s0.w],.box [J x2.class_,J x2.sign,U x2.m,J x2.e],.box [J y3.class_,J y3.sign,U y3.m,J y3.e]]⟩) ?_ ?_
 rcases t25 with _ | _
 have h3:=bif_f h2
 exact B' [0,1,2] ⟨_,_,h3,rfl⟩
 have h3:=bif_t h2
 exact B' [0,1,2] ⟨_,_,h3,rfl⟩
 rintro s ⟨_,far11,hj0,rfl⟩
 unfold Flt.shape.sum.j0 at hj0
 refine N' hj0 fun _ hj1=>?_
 refine Gate.go ?_
 refine V' ?_
 refine V' ?_
 refine V' ?_
 obtain ⟨⟨_,_⟩,et38,hj2⟩:=bind_elim hj1
 refine Gate.go ?_
 refine Z' (Flt.left_ok et38) ?_
 refine V' ?_
 refine V' ?_
 refine CutN.of (fun s=>∃ s4_0 s4_1 x6_0 x6_1 x6_2 x6_3 y7_0 y7_1 y7_2 y7_3 far11_1 a12_0 a12_1 a12_2 a12_3 b13,Flt.shape.sum.j1 mode1 s4_0 s4_1 x6_0 x6_1 x6_2 x6_3 y7_0 y7_1 y7_2 y7_3 far11_1 a12_0 a12_1 a12_2 a12_3 b13 = some r ∧ s = ⟨125,[(1,J mode1),(4,.ptr 0 0),(6,.ptr 1 0),(7,.ptr 2 0),(11,.lit (.bool far11_1)),(12,.ptr 3 0),(13,U b13)],[.box [J s4_0,J s4_1],.box [J x6_0,J x6_1,U x6_2,J x6_3],.box [J y7_0,J y7_1,U y7_2,J y7_3],.box [U a12_0,U a12_1,J a12_2,.lit (.bool a12_3)]]⟩) ?_ ?_
 rcases far11 with _ | _
 have hj3:=bif_f hj2
 exact B' [0,1,2,3] ⟨_,_,_,_,_,_,_,_,_,_,_,_,_,_,_,_,hj3,rfl⟩
 have hj3:=bif_t hj2
 refine V' ?_
 exact B' [0,1,2,3] ⟨_,_,_,_,_,_,_,_,_,_,_,_,_,_,_,_,hj3,rfl⟩
 rintro s ⟨s4_0,s4_1,x6_0,x6_1,x6_2,x6_3,y7_0,y7_1,y7_2,y7_3,far11_1,a12_0,a12_1,a12_2,_,_,hj0,rfl⟩
 unfold Flt.shape.sum.j1 at hj0
 refine C' hj0 (fun hj2=>?_) fun hj2=>?_
 refine CutN.of (fun s=>∃ a12_3_1 b13_1,Flt.shape.sum.j2 mode1 s4_0 s4_1 x6_0 x6_1 x6_2 x6_3 y7_0 y7_1 y7_2 y7_3 a12_0 a12_1 a12_2 a12_3_1 b13_1 = some r ∧ s = ⟨125,[(1,J mode1),(4,.ptr 0 0),(6,.ptr 1 0),(7,.ptr 2 0),(12,.ptr 3 0),(13,U b13_1)],[.box [J s4_0,J s4_1],.box [J x6_0,J x6_1,U x6_2,J x6_3],.box [J y7_0,J y7_1,U y7_2,J y7_3],.box [U a12_0,U a12_1,J a12_2,.lit (.bool a12_3_1)]]⟩) ?_ ?_
 rcases far11_1 with _ | _
 have hj3:=bif_f hj2
 exact B' [0,1,2,3] ⟨_,_,hj3,rfl⟩
 have hj3:=bif_t hj2
 exact B' [0,1,2,3] ⟨_,_,hj3,rfl⟩
 rintro s ⟨_,_,hj0,rfl⟩
 unfold Flt.shape.sum.j2 at hj0
 obtain ⟨⟨_,_⟩,et78,hj1⟩:=bind_elim hj0
 refine Gate.go ?_
 refine Z' (Bits.Sub64_ok et78) ?_
 obtain ⟨⟨_,_⟩,et85,hj2⟩:=bind_elim hj1
 refine Gate.go ?_
 refine Z' (Bits.Sub64_ok et85) ?_
 refine CutN.of (fun s=>∃ s4_0_1 s4_1_1 a12_0_1 a12_1_1 a12_2_1 a12_3_2 lo15 hi17 sign18,Flt.shape.sum.j3 mode1 s4_0_1 s4_1_1 a12_0_1 a12_1_1 a12_2_1 a12_3_2 lo15 hi17 sign18 = some r ∧ s = ⟨125,[(1,J mode1),(4,.ptr 0 0),(12,.ptr 1 0),(15,U lo15),(17,U hi17),(18,J sign18)],[.box [J s4_0_1,J s4_1_1],.box [U a12_0_1,U a12_1_1,J a12_2_1,.lit (.bool a12_3_2)]]⟩) ?_ ?_
 refine C' hj2 (fun hj4=>?_) fun hj4=>?_
 exact B' [0,3] ⟨_,_,_,_,_,_,_,_,_,hj4,rfl⟩
 obtain ⟨⟨_,_⟩,et96,hj5⟩:=bind_elim hj4
 refine Gate.go ?_
 refine Z' (Bits.Sub64_ok et96) ?_
 obtain ⟨⟨_,_⟩,et102,hj6⟩:=bind_elim hj5
 refine Gate.go ?_
 refine Z' (Bits.Sub64_ok et102) ?_
 exact B' [0,3] ⟨_,_,_,_,_,_,_,_,_,hj6,rfl⟩
 rintro s ⟨s4_0_1,s4_1_1,a12_0_1,a12_1_1,a12_2_1,_,lo15,hi17,sign18,hj0,rfl⟩
 unfold Flt.shape.sum.j3 at hj0
 refine CutN.of (fun s=>∃ s4_0_2 s4_1_2 a12_0_2 a12_1_2 a12_2_2 a12_3_3,Flt.shape.sum.j4 mode1 lo15 hi17 sign18 s4_0_2 s4_1_2 a12_0_2 a12_1_2 a12_2_2 a12_3_3 = some r ∧ s = ⟨125,[(1,J mode1),(4,.ptr 0 0),(12,.ptr 1 0),(15,U lo15),(17,U hi17),(18,J sign18)],[.box [J s4_0_2,J s4_1_2],.box [U a12_0_2,U a12_1_2,J a12_2_2,.lit (.bool a12_3_3)]]⟩) ?_ ?_
 refine CutN.of (fun s=>∃ a12_3_4 t110,Flt.shape.sum.j5 mode1 s4_0_1 s4_1_1 a12_0_1 a12_1_1 a12_2_1 lo15 hi17 sign18 a12_3_4 t110 = some r ∧ s = ⟨125,[(1,J mode1),(4,.ptr 0 0),(12,.ptr 1 0),(15,U lo15),(17,U hi17),(18,J sign18),(110,.lit (.bool t110))],[.box [J s4_0_1,J s4_1_1],.box [U a12_0_1,U a12_1_1,J a12_2_1,.lit (.bool a12_3_4)]]⟩) ?_ ?_
 refine C' hj0 (fun hj2=>?_) fun hj2=>?_
 exact B' [0,1] ⟨_,_,hj2,rfl⟩
 refine N' hj2 fun _ hj3=>?_
 exact B' [0,1] ⟨_,_,hj3,rfl⟩
 rintro s ⟨_,t110,hj0,rfl⟩
 unfold Flt.shape.sum.j5 at hj0
 rcases t110 with _ | _
 have hj1:=bif_f hj0
 exact B' [0,1] ⟨_,_,_,_,_,_,hj1,rfl⟩
 have hj1:=bif_t hj0
 refine Gate.go (A' hj1 Flt.shape.none_ok fun _ hj2=>?_)
 exact R' (E:=E3') hj2
 rintro s ⟨_,_,_,_,_,_,hj0,rfl⟩
 unfold Flt.shape.sum.j4 at hj0
 refine V' ?_
 refine V' ?_
 obtain ⟨⟨_,_⟩,et122,hj1⟩:=bind_elim hj0
 refine Gate.go ?_
 refine Z' (Flt.shape.round_ok et122) ?_
 exact R' (E:=E3') hj1
 obtain ⟨⟨_,_⟩,et56,hj3⟩:=bind_elim hj2
 refine Gate.go ?_
 refine Z' (Bits.Add64_ok et56) ?_
 refine V' ?_
 refine N' hj3 fun _ hj4=>?_
 refine V' ?_
 obtain ⟨⟨_,_⟩,et70,hj5⟩:=bind_elim hj4
 refine Gate.go ?_
 refine Z' (Flt.shape.round_ok et70) ?_
 exact R' (E:=E3') hj5
end Go.Q
