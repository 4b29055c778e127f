import Derived.Test.YtmfhkipeapdfmaaGreatDoorDG1
import Derived.Test.YtmfhkipeapdfmaaGreatDoorFX
import Derived.Test.YtmfhkipeapdfmaaGreatDoorFY
import Derived.Test.YtmfhkipeapdfmaaGreatDoorProg
namespace Go.Q
open Go Go.Proofs
set_option maxRecDepth 10000
set_option maxHeartbeats 2000000
noncomputable def Flt.exact.right.j2 (a:Int) (b:Bool) (c:Bool) (d:Bool):Option (Int × Int) :=
 bif d then
 some (a,3)
 else
 bif b then
 some (a,2)
 else
 bif c then
 some (a,1)
 else
 some (a,0)
noncomputable def Flt.exact.right.j1 (b:Int) (c:Bool) (a:Bool):Option (Int × Int) :=
 bif c then
 Flt.exact.right.j2 b true a a
 else
 Flt.exact.right.j2 b false a false
noncomputable def Flt.exact.right.j0 (b:Int) (a:Int) (c:Bool) (d:Bool):Option (Int × Int) :=
 letk (decide (b > (0:Int))) fun e =>
 bif e then
 Flt.exact.right.j1 a false true
 else
 Flt.exact.right.j1 a c d
noncomputable def Flt.exact.right.j4 (c:Int) (a:Int) (b:Int) (d:Bool):Option ((Int × Int × Int × Bool × Bool) ⊕ (Int × Int)) :=
 letk (IntKind.u64.wrap (BitVec.ofInt (IntKind.u64).bits b &&& BitVec.ofInt (IntKind.u64).bits (1:Int)).toNat) fun e =>
 letk (e == (1:Int)) fun f =>
 chk (0 ≤ (1:Int)) <|
 letk ((IntKind.u64,b.fdiv (2 ^ (min (1:Int).toNat (IntKind.u64).bits))).2) fun g =>
 chk (0 ≤ (63:Int)) <|
 letk (IntKind.u64.wrap (a * 2 ^ (min (63:Int).toNat (IntKind.u64).bits))) fun h =>
 letk (IntKind.u64.wrap (BitVec.ofInt (IntKind.u64).bits g ||| BitVec.ofInt (IntKind.u64).bits h).toNat) fun i =>
 chk (0 ≤ (1:Int)) <|
 letk ((IntKind.u64,a.fdiv (2 ^ (min (1:Int).toNat (IntKind.u64).bits))).2) fun j =>
 letk (IntKind.i64.wrap (c - (1:Int))) fun k =>
 some (.inl (k,j,i,f,d))
noncomputable def Flt.exact.right.j3 (a:Int) (b:Int) (c:Int) (d:Bool) (e:Bool):Option ((Int × Int × Int × Bool × Bool) ⊕ (Int × Int)) :=
 bif e then
 Flt.exact.right.j4 a b c true
 else
 Flt.exact.right.j4 a b c d
noncomputable def Flt.exact.right.s0 (a:Int) (d:Int) (b:Int) (e:Bool) (c:Bool):Option ((Int × Int × Int × Bool × Bool) ⊕ (Int × Int)) :=
 letk (decide (a > (0:Int))) fun f =>
 bif f then
 letk (d != (0:Int)) fun g =>
 bif g then
 Flt.exact.right.j3 a d b e c
 else
 letk (b != (0:Int)) fun h =>
 bif h then
 Flt.exact.right.j3 a d b e c
 else
 bif e then
 Flt.exact.right.j3 a d b true c
 else
 (Flt.exact.right.j0 a b false c).map .inr
 else
 (Flt.exact.right.j0 a b e c).map .inr
noncomputable def Flt.exact.right.l0 (a:Int) (b:Int) (c:Int) (d:Bool) (e:Bool):Option (Int × Int):=loopO (fun v:Int × Int × Int × Bool × Bool=>Flt.exact.right.s0 v.1 v.2.1 v.2.2.1 v.2.2.2.1 v.2.2.2.2) (a,b,c,d,e)
theorem Flt.exact.right.l0_eq (n1_2:Int) (hi6:Int) (lo7_1:Int) (half8_3:Bool) (below9_3:Bool):Flt.exact.right.l0 n1_2 hi6 lo7_1 half8_3 below9_3 = (Flt.exact.right.s0 n1_2 hi6 lo7_1 half8_3 below9_3).bind (Sum.elim (fun v=>Flt.exact.right.l0 v.1 v.2.1 v.2.2.1 v.2.2.2.1 v.2.2.2.2) some):=loopO_eq _ _
noncomputable def Flt.exact.right (a:float.exact) (b:Int):Option (Int × Int) :=
 Flt.exact.right.l0 b a.hi a.lo false a.more
abbrev E9':Int × Int → AV:=fun r=>(.tup [.lit (.int .u64 r.1),.lit (.int .i64 r.2)])
theorem Flt.exact.right_ok {e:float.exact} {q:Int} {r:Int × Int} (t:Flt.exact.right e q = some r):Gives Tryz.prog 154 [float.exact.enc e,.lit (.int .i64 q)] (.tup [.lit (.int .u64 r.1),.lit (.int .i64 r.2)]):=by
 unfold Flt.exact.right at t
 refine W' [(1,2),(1,3),(58,25),(1,1),(0,6)] Tryz.func154 ?_
 refine V' (DrawB.ofG [none,none,none,none,none,none] Tryz_mixed (by kernel_rfl) (by kernel_rfl) ?_)
 refine D' rfl (D' rfl (D' rfl (D' rfl (D' rfl (D' rfl (DrawB.ofG [none,none,none,none] Tryz_mixed (by kernel_rfl) (by kernel_rfl) ?_))))))
 refine D' rfl (D' rfl (D' rfl (D' rfl (CutN.of (fun s=>∃ u d w x,Flt.exact.right.j0 u d w x = some r ∧ s = ⟨61,[(1,.lit (.int .i64 u)),(7,.lit (.int .u64 d)),(8,.lit (.bool w)),(9,.lit (.bool x))],[]⟩) ?_ ?_))))
 unfold Flt.exact.right.l0 at t
 refine LoopB.of (σ:=Int × Int × Int × Bool × Bool) (ρ:=Int × Int) (fun v:Int × Int × Int × Bool × Bool=>Flt.exact.right.s0 v.1 v.2.1 v.2.2.1 v.2.2.2.1 v.2.2.2.2) (fun v=>(⟨61,[(1,.lit (.int .i64 v.1)),(6,.lit (.int .u64 v.2.1)),(7,.lit (.int .u64 v.2.2.1)),(8,.lit (.bool v.2.2.2.1)),(9,.lit (.bool v.2.2.2.2))],[]⟩:St)) (q,e.hi,e.lo,false,e.more) t (B' [] rfl) ?_
 rintro _ ⟨f,g,h,ah,aj⟩ y j ak ai
 replace j:Flt.exact.right.s0 f g h ah aj = some y:=j
 unfold Flt.exact.right.s0 at j
 refine CutN.of (fun s=>∃ z k,Flt.exact.right.j3 f g h z k = some y ∧ s = ⟨61,[(1,.lit (.int .i64 f)),(6,.lit (.int .u64 g)),(7,.lit (.int .u64 h)),(8,.lit (.bool z)),(9,.lit (.bool k))],[]⟩) ?_ ?_
 refine C' j (fun aa=>?_) fun aa=>C' aa (fun ab=>C' ab (fun l=>?_) fun l=>?_) fun ab=>?_
 obtain ⟨_,al,ac⟩:=map_elim aa
 have ac:=(ai _ ac.symm).symm
 subst ac
 exact B' [] ⟨_,_,_,_,al,rfl⟩
 rcases ah with _ | _
 have ad:=bif_f l
 obtain ⟨_,am,ae⟩:=map_elim ad
 have ae:=(ai _ ae.symm).symm
 subst ae
 exact B' [] ⟨_,_,_,_,am,rfl⟩
 have ad:=bif_t l
 exact B' [] ⟨_,_,ad,rfl⟩
 exact B' [] ⟨_,_,l,rfl⟩
 exact B' [] ⟨_,_,ab,rfl⟩
 rintro s ⟨z,k,a,rfl⟩
 unfold Flt.exact.right.j3 at a
 refine CutN.of (fun s=>∃ af,Flt.exact.right.j4 f g h af = some y ∧ s = ⟨61,[(1,.lit (.int .i64 f)),(6,.lit (.int .u64 g)),(7,.lit (.int .u64 h)),(9,.lit (.bool af))],[]⟩) ?_ ?_
 rcases k with _ | _
 have b:=bif_f a
 exact B' [] ⟨_,b,rfl⟩
 have b:=bif_t a
 exact B' [] ⟨_,b,rfl⟩
 rintro s ⟨af,a,rfl⟩
 unfold Flt.exact.right.j4 at a
 refine N' a fun _ b=>N' b fun _ c=>S' c fun i=>N' i fun _ an=>S' an fun ao=>N' ao fun _ ap=>N' ap fun _ aq=>S' aq fun ar=>N' ar fun _ au=>N' au fun _ av=>?_
 exact B' [] ⟨_,ak _ (Option.some.inj av).symm,rfl⟩
 rintro s ⟨u,d,w,x,a,rfl⟩
 unfold Flt.exact.right.j0 at a
 refine CutN.of (fun s=>∃ m ag,Flt.exact.right.j1 d m ag = some r ∧ s = ⟨61,[(7,.lit (.int .u64 d)),(8,.lit (.bool m)),(9,.lit (.bool ag))],[]⟩) ?_ ?_
 refine C' a (fun c=>?_) fun c=>?_
 exact B' [] ⟨_,_,c,rfl⟩
 exact B' [] ⟨_,_,c,rfl⟩
 rintro s ⟨m,ag,a,rfl⟩
 unfold Flt.exact.right.j1 at a
 refine CutN.of (fun s=>∃ n o p,Flt.exact.right.j2 d n o p = some r ∧ s = ⟨61,[(7,.lit (.int .u64 d)),(8,.lit (.bool n)),(9,.lit (.bool o)),(48,.lit (.bool p))],[]⟩) ?_ ?_
 rcases m with _ | _
 have b:=bif_f a
 exact B' [] ⟨_,_,_,b,rfl⟩
 have b:=bif_t a
 exact B' [] ⟨_,_,_,b,rfl⟩
 rintro s ⟨n,o,p,a,rfl⟩
 unfold Flt.exact.right.j2 at a
 rcases p with _ | _
 have b:=bif_f a
 rcases n with _ | _
 have c:=bif_f b
 rcases o with _ | _
 have i:=bif_f c
 exact R' (E:=E9') i
 have i:=bif_t c
 exact R' (E:=E9') i
 have c:=bif_t b
 exact R' (E:=E9') c
 have b:=bif_t a
 exact R' (E:=E9') b
noncomputable def Flt.away (b:Int) (c:Int) (d:Bool) (a:Int):Option Bool :=
 letk (b == (0:Int)) fun e =>
 bif e then
 letk (a == (3:Int)) fun f =>
 bif f then
 some true
 else
 letk (a == (2:Int)) fun g =>
 bif g then
 some d
 else
 some false
 else
 letk (b == (2:Int)) fun h =>
 bif h then
 letk (decide (a > (0:Int))) fun i =>
 bif i then
 letk (c == (1:Int)) fun j =>
 some j
 else
 some false
 else
 letk (b == (3:Int)) fun k =>
 bif k then
 letk (decide (a > (0:Int))) fun l =>
 bif l then
 letk (c == (0:Int)) fun m =>
 some m
 else
 some false
 else
 some false
theorem Flt.away_ok {e:Int} {f:Int} {g:Bool} {h:Int} {r:Bool} (i:Flt.away e f g h = some r):Gives Tryz.prog 155 [.lit (.int .i64 e),.lit (.int .i64 f),.lit (.bool g),.lit (.int .i64 h)] (.lit (.bool r)):=by
 unfold Flt.away at i
 refine W' [] Tryz.func155 ?_
 exact C' i (fun c=>C' c (fun b=>C' b (fun a=>R' (E:=E1') a) fun a=>C' a (fun d=>R' (E:=E1') d) fun d=>N' d fun _ j=>R' (E:=E1') j) fun b=>C' b (fun a=>R' (E:=E1') a) fun a=>N' a fun _ k=>R' (E:=E1') k) fun c=>C' c (fun b=>C' b (fun a=>R' (E:=E1') a) fun a=>R' (E:=E1') a) fun b=>R' (E:=E1') b
noncomputable def Flt.shape.greatest (a:float.shape) (c:Int):Option Int :=
 Option.bind (Flt.shape.top (⟨a.p,a.w⟩:float.shape)) fun d =>
 letk (IntKind.u64.wrap (d - (1:Int))) fun e =>
 letk (IntKind.i64.wrap (a.p - (1:Int))) fun b =>
 chk (0 ≤ b) <|
 letk (IntKind.u64.wrap ((1:Int) * 2 ^ (min b.toNat (IntKind.u64).bits))) fun f =>
 letk (IntKind.u64.wrap (f - (1:Int))) fun g =>
 Option.bind (Flt.shape.pack (⟨a.p,a.w⟩:float.shape) c e g) fun h =>
 some h
theorem Flt.shape.greatest_ok {a:float.shape} {b:Int} {r:Int} (d:Flt.shape.greatest a b = some r):Gives Tryz.prog 156 [float.shape.enc a,.lit (.int .i64 b)] (.lit (.int .i64 r)):=by
 unfold Flt.shape.greatest at d
 refine W' [] Tryz.func156 ?_
 refine V' (L' [0] [1,2] ?_)
 refine DrawB.ofG [none,none,none,none,none,none,none,none,none,none,none,none] Tryz_mixed (by kernel_rfl) (by kernel_rfl) ?_
 exact D' rfl (D' rfl (D' rfl (DC' d (fun e=>Z' (Flt.shape.top_ok e) rfl) fun _ f=>DN' f (fun e=>n' e rfl) fun _ g=>D' rfl (D' rfl (DN' g (fun e=>n' e rfl) fun _ h=>DS' h (fun c e=>Side.mk c (n' e rfl)) fun _ i=>DN' i (fun e=>n' e rfl) fun _ j=>DC' j (fun e=>Z' (Flt.shape.pack_ok e) rfl) fun _ k=>D' rfl (R' (E:=E2') k))))))
noncomputable def Flt.shape.infinite (a:float.shape) (b:Int):Option Int :=
 Option.bind (Flt.shape.top (⟨a.p,a.w⟩:float.shape)) fun c =>
 Option.bind (Flt.shape.pack (⟨a.p,a.w⟩:float.shape) b c 0) fun d =>
 some d
theorem Flt.shape.infinite_ok {a:float.shape} {b:Int} {r:Int} (c:Flt.shape.infinite a b = some r):Gives Tryz.prog 157 [float.shape.enc a,.lit (.int .i64 b)] (.lit (.int .i64 r)):=by
 unfold Flt.shape.infinite at c
 refine W' [] Tryz.func157 ?_
 refine V' (DrawB.ofG [none,none,none,none,none,none] Tryz_mixed (by kernel_rfl) (by kernel_rfl) ?_)
 exact D' rfl (D' rfl (D' rfl (DC' c (fun e=>Z' (Flt.shape.top_ok e) rfl) fun _ d=>DC' d (fun e=>Z' (Flt.shape.pack_ok e) rfl) fun _ f=>D' rfl (R' (E:=E2') f))))
noncomputable def Flt.shape.round.j4 (a:Int) (b:Int) (c:Int) (d:Bool):Option (Int × Int) :=
 bif d then
 Option.bind (Flt.shape.greatest (⟨b,c⟩:float.shape) a) fun e =>
 some (e,20)
 else
 Option.bind (Flt.shape.infinite (⟨b,c⟩:float.shape) a) fun f =>
 some (f,20)
noncomputable def Flt.shape.round.j3 (d:Int) (b:Int) (f:Int) (a:Int) (c:Int) (j:Int) (e:Int):Option (Int × Int) :=
 letk (IntKind.i64.wrap (a - (1:Int))) fun g =>
 chk (0 ≤ g) <|
 letk (IntKind.u64.wrap ((1:Int) * 2 ^ (min g.toNat (IntKind.u64).bits))) fun k =>
 letk (decide (e < k)) fun l =>
 bif l then
 Option.bind (Flt.shape.pack (⟨a,c⟩:float.shape) b 0 e) fun m =>
 some (m,f)
 else
 letk (IntKind.i64.wrap (j + a)) fun n =>
 letk (IntKind.i64.wrap (n - (1:Int))) fun o =>
 Option.bind (Flt.shape.bias (⟨a,c⟩:float.shape)) fun p =>
 letk (IntKind.i64.wrap (o + p)) fun h =>
 Option.bind (Flt.shape.top (⟨a,c⟩:float.shape)) fun q =>
 letk (IntKind.i64.wrap q) fun r =>
 letk (decide (h < r)) fun s =>
 bif s then
 letk (IntKind.u64.wrap h) fun t =>
 letk (IntKind.i64.wrap (a - (1:Int))) fun i =>
 chk (0 ≤ i) <|
 letk (IntKind.u64.wrap ((1:Int) * 2 ^ (min i.toNat (IntKind.u64).bits))) fun u =>
 letk (IntKind.u64.wrap (u - (1:Int))) fun v =>
 letk (IntKind.u64.wrap (BitVec.ofInt (IntKind.u64).bits e &&& BitVec.ofInt (IntKind.u64).bits v).toNat) fun w =>
 Option.bind (Flt.shape.pack (⟨a,c⟩:float.shape) b t w) fun x =>
 some (x,f)
 else
 letk (d == (1:Int)) fun y =>
 bif y then
 Flt.shape.round.j4 b a c true
 else
 letk (d == (2:Int)) fun z =>
 bif z then
 letk (b == (0:Int)) fun aa =>
 bif aa then
 Flt.shape.round.j4 b a c true
 else
 letk (d == (3:Int)) fun ab =>
 bif ab then
 letk (b == (1:Int)) fun ac =>
 Flt.shape.round.j4 b a c ac
 else
 Flt.shape.round.j4 b a c false
 else
 letk (d == (3:Int)) fun ad =>
 bif ad then
 letk (b == (1:Int)) fun ae =>
 Flt.shape.round.j4 b a c ae
 else
 Flt.shape.round.j4 b a c false
noncomputable def Flt.shape.round.j2 (c:Int) (d:Int) (e:Int) (f:Int) (a:Int) (g:Int) (b:Int):Option (Int × Int) :=
 chk (0 ≤ a) <|
 letk (IntKind.u64.wrap ((1:Int) * 2 ^ (min a.toNat (IntKind.u64).bits))) fun h =>
 letk (b == h) fun i =>
 bif i then
 chk (0 ≤ (1:Int)) <|
 letk ((IntKind.u64,b.fdiv (2 ^ (min (1:Int).toNat (IntKind.u64).bits))).2) fun j =>
 letk (IntKind.i64.wrap (e + (1:Int))) fun k =>
 Flt.shape.round.j3 c d f a g k j
 else
 Flt.shape.round.j3 c d f a g e b
noncomputable def Flt.shape.round.j1 (a:Int) (b:Int) (d:Int) (c:Int) (h:Int) (e:Int) (f:Int) (g:Int):Option (Int × Int) :=
 letk (IntKind.u64.wrap (BitVec.ofInt (IntKind.u64).bits c &&& BitVec.ofInt (IntKind.u64).bits (1:Int)).toNat) fun i =>
 letk (i == (1:Int)) fun j =>
 Option.bind (Flt.away a b j h) fun k =>
 bif k then
 letk (IntKind.u64.wrap (c + (1:Int))) fun l =>
 Flt.shape.round.j2 a b d g e f l
 else
 Flt.shape.round.j2 a b d g e f c
noncomputable def Flt.shape.round.j0 (d:Int) (e:Int) (h:Int) (f:Int) (a:Int) (b:Int) (g:Int) (c:Int):Option (Int × Int) :=
 letk (decide (c > (0:Int))) fun i =>
 bif i then
 Option.bind (Flt.shape.least (⟨a,b⟩:float.shape)) fun j =>
 letk (IntKind.i64.wrap (j + a)) fun k =>
 letk (IntKind.i64.wrap (k - (1:Int))) fun l =>
 letk (decide (h < l)) fun m =>
 bif m then
 letk (IntKind.i64.wrap (BitVec.ofInt (IntKind.i64).bits (16:Int) ||| BitVec.ofInt (IntKind.i64).bits (8:Int)).toNat) fun n =>
 Flt.shape.round.j1 d e f g c a b n
 else
 Flt.shape.round.j1 d e f g c a b 16
 else
 Flt.shape.round.j1 d e f g c a b 0
noncomputable def Flt.shape.round (b:float.shape) (f:Int) (g:Int) (a:float.exact):Option (Int × Int) :=
 Option.bind (Flt.exact.long (⟨a.hi,a.lo,a.e,a.more⟩:float.exact)) fun k =>
 letk (IntKind.i64.wrap (a.e + k)) fun l =>
 letk (IntKind.i64.wrap (l - (1:Int))) fun d =>
 letk (IntKind.i64.wrap (d - b.p)) fun m =>
 letk (IntKind.i64.wrap (m + (1:Int))) fun h =>
 Option.bind (Flt.shape.least (⟨b.p,b.w⟩:float.shape)) fun i =>
 letk (if i > h then i else h) fun c =>
 letk (decide (c ≤ a.e)) fun n =>
 bif n then
 letk (IntKind.i64.wrap (a.e - c)) fun j =>
 chk (0 ≤ j) <|
 letk (IntKind.u64.wrap (a.lo * 2 ^ (min j.toNat (IntKind.u64).bits))) fun o =>
 Flt.shape.round.j0 f g d c b.p b.w o 0
 else
 letk (IntKind.i64.wrap (c - a.e)) fun q =>
 Option.bind (Flt.exact.right (⟨a.hi,a.lo,a.e,a.more⟩:float.exact) q) fun (r,s) =>
 Flt.shape.round.j0 f g d c b.p b.w r s
abbrev E10':Int × Int → AV:=fun r=>(.tup [.lit (.int .i64 r.1),.lit (.int .i64 r.2)])
theorem Flt.shape.round_ok {s0:float.shape} {f:Int} {d:Int} {x3:float.exact} {r:Int × Int} (h0:Flt.shape.round s0 f d x3 = some r):Gives Tryz.prog 126 [float.shape.enc s0,.lit (.int .i64 f),.lit (.int .i64 d),float.exact.enc x3] (.tup [.lit (.int .i64 r.1),.lit (.int .i64 r.2)]):=by
 unfold Flt.shape.round at h0
 refine W' [(0,8),(0,12),(0,14),(0,17),(143,47)] Tryz.func126 ?_
 refine V' (V' (DrawB.ofG [none,none,none,none,none,none,none] Tryz_mixed (by kernel_rfl) (by kernel_rfl) ?_))
 refine D' rfl (D' rfl (D' rfl (DC' h0 (fun e=>Z' (Flt.exact.long_ok e) rfl) fun _ h1=>DN' h1 (fun e=>n' e rfl) fun _ h2=>DN' h2 (fun e=>n' e rfl) fun al h3=>D' rfl (DrawB.ofG [none,none,none,none,none,none,none,none,none] Tryz_mixed (by kernel_rfl) (by kernel_rfl) ?_))))
 refine D' rfl (D' rfl (D' rfl (DN' h3 (fun e=>n' e rfl) fun _ h4=>DN' h4 (fun e=>n' e rfl) fun _ h5=>D' rfl (DC' h5 (fun e=>Z' (Flt.shape.least_ok e) rfl) fun _ h6=>DN' h6 (fun e=>n' e rfl) fun p h7=>D' rfl (CutN.of (fun s=>∃ y z t u,Flt.shape.round.j0 f d al p y z t u = some r ∧ s = ⟨140,[(1,.lit (.int .i64 f)),(2,.lit (.int .i64 d)),(4,.ptr 0 0),(9,.lit (.int .i64 0)),(10,.lit (.int .i64 al)),(11,.lit (.int .i64 p)),(12,.lit (.int .u64 t)),(13,.lit (.int .i64 u))],[.box [.lit (.int .i64 y),.lit (.int .i64 z)]]⟩) ?_ ?_)))))
 refine C' h7 (fun h9=>N' h9 fun _ aa=>?_) fun h9=>N' h9 fun _ aa=>S' aa fun ab=>N' ab fun _ am=>?_
 obtain ⟨⟨_,_⟩,an,ab⟩:=bind_elim aa
 refine Gate.go (Z' (Flt.exact.right_ok an) ?_)
 exact B' [0] ⟨_,_,_,_,ab,rfl⟩
 exact B' [0] ⟨_,_,_,_,am,rfl⟩
 rintro s ⟨y,z,t,u,a,rfl⟩
 unfold Flt.shape.round.j0 at a
 refine CutN.of (fun s=>∃ ac ad l,Flt.shape.round.j1 f d p t u ac ad l = some r ∧ s = ⟨140,[(1,.lit (.int .i64 f)),(2,.lit (.int .i64 d)),(4,.ptr 0 0),(9,.lit (.int .i64 l)),(11,.lit (.int .i64 p)),(12,.lit (.int .u64 t)),(13,.lit (.int .i64 u))],[.box [.lit (.int .i64 ac),.lit (.int .i64 ad)]]⟩) ?_ ?_
 refine C' a (fun b=>?_) fun b=>DrawB.ofG [none,none,none,none,none,none,none,none] Tryz_mixed (by kernel_rfl) (by kernel_rfl) ?_
 exact B' [0] ⟨_,_,_,b,rfl⟩
 refine D' rfl (D' rfl (DC' b (fun e=>Z' (Flt.shape.least_ok e) rfl) fun _ q=>D' rfl (D' rfl (DN' q (fun e=>n' e rfl) fun _ g=>DN' g (fun e=>n' e rfl) fun _ h=>DN' h (fun e=>n' e rfl) fun ao k=>?_))))
 rcases ao with _ | _
 have m:=bif_f k
 exact B' [0] ⟨_,_,_,m,rfl⟩
 have m:=bif_t k
 refine N' m fun _ ae=>?_
 exact B' [0] ⟨_,_,_,ae,rfl⟩
 rintro s ⟨ac,ad,l,a,rfl⟩
 unfold Flt.shape.round.j1 at a
 refine CutN.of (fun s=>∃ n o af,Flt.shape.round.j2 f d p l n o af = some r ∧ s = ⟨140,[(1,.lit (.int .i64 f)),(2,.lit (.int .i64 d)),(4,.ptr 0 0),(9,.lit (.int .i64 l)),(11,.lit (.int .i64 p)),(12,.lit (.int .u64 af))],[.box [.lit (.int .i64 n),.lit (.int .i64 o)]]⟩) ?_ ?_
 refine N' a fun _ i=>N' i fun _ b=>Gate.go (A' b Flt.away_ok fun ap q=>?_)
 rcases ap with _ | _
 have g:=bif_f q
 exact B' [0] ⟨_,_,_,g,rfl⟩
 have g:=bif_t q
 refine N' g fun _ h=>?_
 exact B' [0] ⟨_,_,_,h,rfl⟩
 rintro s ⟨n,o,af,a,rfl⟩
 unfold Flt.shape.round.j2 at a
 refine CutN.of (fun s=>∃ ag ah,Flt.shape.round.j3 f d l n o ag ah = some r ∧ s = ⟨140,[(1,.lit (.int .i64 f)),(2,.lit (.int .i64 d)),(4,.ptr 0 0),(9,.lit (.int .i64 l)),(11,.lit (.int .i64 ag)),(12,.lit (.int .u64 ah))],[.box [.lit (.int .i64 n),.lit (.int .i64 o)]]⟩) ?_ ?_
 refine S' a fun i=>N' i fun _ b=>C' b (fun g=>?_) fun g=>S' g fun h=>N' h fun _ k=>N' k fun _ m=>?_
 exact B' [0] ⟨_,_,g,rfl⟩
 exact B' [0] ⟨_,_,m,rfl⟩
 rintro s ⟨ag,ah,a,rfl⟩
 unfold Flt.shape.round.j3 at a
 refine N' a fun _ i=>S' i fun b=>N' b fun _ q=>C' q (fun h=>DrawB.ofG [none,none,none,none,none,none,none,none,none] Tryz_mixed (by kernel_rfl) (by kernel_rfl) ?_) fun h=>Gate.go (A' h Flt.shape.pack_ok fun _ k=>R' (E:=E10') k)
 refine D' rfl (D' rfl (D' rfl (DN' h (fun e=>n' e rfl) fun _ k=>DN' k (fun e=>n' e rfl) fun _ m=>D' rfl (DC' m (fun e=>Z' (Flt.shape.bias_ok e) rfl) fun _ ae=>DN' ae (fun e=>n' e rfl) fun _ aq=>D' rfl (Gate.go (A' aq Flt.shape.top_ok fun _ ar=>N' ar fun _ au=>C' au (fun ai=>CutN.of (fun s=>∃ x,Flt.shape.round.j4 d n o x = some r ∧ s = ⟨140,[(2,.lit (.int .i64 d)),(4,.ptr 0 0),(133,.lit (.bool x))],[.box [.lit (.int .i64 n),.lit (.int .i64 o)]]⟩) ?_ ?_) fun ai=>L' [0] [2,4,9,12,14] ?_))))))
 refine C' ai (fun v=>C' v (fun w=>C' w (fun j=>?_) fun j=>N' j fun _ aj=>?_) fun w=>C' w (fun j=>C' j (fun ak=>?_) fun ak=>N' ak fun _ av=>?_) fun j=>?_) fun v=>?_
 exact B' [0] ⟨_,j,rfl⟩
 exact B' [0] ⟨_,aj,rfl⟩
 exact B' [0] ⟨_,ak,rfl⟩
 exact B' [0] ⟨_,av,rfl⟩
 exact B' [0] ⟨_,j,rfl⟩
 exact B' [0] ⟨_,v,rfl⟩
 rintro s ⟨x,a,rfl⟩
 unfold Flt.shape.round.j4 at a
 rcases x with _ | _
 have i:=bif_f a
 exact Gate.go (A' i Flt.shape.infinite_ok fun _ b=>R' (E:=E10') b)
 have i:=bif_t a
 exact Gate.go (A' i Flt.shape.greatest_ok fun _ b=>R' (E:=E10') b)
 refine DrawB.ofG [none,none,none,none,none,none,none,none,none,none,none,none,none,none,none] Tryz_mixed (by kernel_rfl) (by kernel_rfl) ?_
 exact D' rfl (D' rfl (D' rfl (DN' ai (fun e=>n' e rfl) fun _ aw=>D' rfl (D' rfl (D' rfl (DN' aw (fun e=>n' e rfl) fun _ v=>DS' v (fun c e=>Side.mk c (n' e rfl)) fun _ w=>DN' w (fun e=>n' e rfl) fun _ ax=>DN' ax (fun e=>n' e rfl) fun _ j=>DC' j (fun e=>Z' (Flt.shape.pack_ok e) rfl) fun _ aj=>D' rfl (D' rfl (D' rfl (R' (E:=E10') aj)))))))))
noncomputable def Flt.Make.j0 (d:Int) (b:Int) (c:Int) (e:Int) (a:float.shape):Option (Int × Int × Int) :=
 letk (c == (0:Int)) fun f =>
 bif f then
 Option.bind (Flt.shape.zero (⟨a.p,a.w⟩:float.shape) b) fun g =>
 some (g,0,0)
 else
 letk (IntKind.u64.wrap c) fun h =>
 Option.bind (Flt.shape.round (⟨a.p,a.w⟩:float.shape) d b (⟨0,h,e,false⟩:float.exact)) fun (i,j) =>
 some (i,j,0)
noncomputable def Flt.Make (e:Int) (a:Int) (b:Int) (d:Int) (c:Int):Option (Int × Int × Int) :=
 Option.bind (Flt.of e) fun (f,g) =>
 letk (!g) fun h =>
 bif h then
 some (0,0,2)
 else
 letk (decide (a < (0:Int))) fun i =>
 bif i then
 some (0,0,2)
 else
 letk (decide (a ≥ (4:Int))) fun j =>
 bif j then
 some (0,0,2)
 else
 letk (decide (b < (0:Int))) fun k =>
 bif k then
 some (0,0,2)
 else
 letk (decide (b > (1:Int))) fun l =>
 bif l then
 some (0,0,2)
 else
 letk (decide (d < (0:Int))) fun m =>
 bif m then
 some (0,0,2)
 else
 letk (decide (c < ((-2000):Int))) fun n =>
 bif n then
 some (0,0,2)
 else
 letk (decide (c > (2000:Int))) fun o =>
 bif o then
 some (0,0,2)
 else
 Flt.Make.j0 a b d c f
abbrev E11':Int × Int × Int → AV:=fun r=>(.tup [.lit (.int .i64 r.1),.lit (.int .i64 r.2.1),.lit (.int .i64 r.2.2)])
theorem Flt.Make_ok {q:Int} {a:Int} {b:Int} {c:Int} {d:Int} {r:Int × Int × Int} (t:Flt.Make q a b c d = some r):Gives Tryz.prog 76 [.lit (.int .i64 q),.lit (.int .i64 a),.lit (.int .i64 b),.lit (.int .i64 c),.lit (.int .i64 d)] (.tup [.lit (.int .i64 r.1),.lit (.int .i64 r.2.1),.lit (.int .i64 r.2.2)]):=by
 unfold Flt.Make at t
 refine W' [(0,4)] Tryz.func76 ?_
 obtain ⟨⟨e,_⟩,v,x⟩:=bind_elim t
 refine Gate.go (Z' (Flt.of_ok v) (V' (V' (CutN.of (fun s=>Flt.Make.j0 a b c d e = some r ∧ s = ⟨68,[(1,.lit (.int .i64 a)),(2,.lit (.int .i64 b)),(3,.lit (.int .i64 c)),(4,.lit (.int .i64 d)),(13,.ptr 0 0)],[.box [.lit (.int .i64 e.p),.lit (.int .i64 e.w)]]⟩) ?_ ?_))))
 refine C' x (fun f=>C' f (fun g=>C' g (fun h=>C' h (fun i=>C' i (fun j=>C' j (fun k=>C' k (fun l=>C' l (fun m=>?_) fun m=>R' (E:=E11') m) fun l=>R' (E:=E11') l) fun k=>R' (E:=E11') k) fun j=>R' (E:=E11') j) fun i=>R' (E:=E11') i) fun h=>R' (E:=E11') h) fun g=>R' (E:=E11') g) fun f=>R' (E:=E11') f
 exact B' [0] ⟨m,rfl⟩
 rintro s ⟨u,rfl⟩
 unfold Flt.Make.j0 at u
 refine C' u (fun n=>N' n fun _ o=>Gate.go (V' ?_)) fun n=>Gate.go (A' n Flt.shape.zero_ok fun _ o=>R' (E:=E11') o)
 obtain ⟨⟨_,_⟩,y,z⟩:=bind_elim o
 exact Gate.go (Z' (Flt.shape.round_ok y) (R' (E:=E11') z))
noncomputable def Flt.two.j0 (f:Int) (g:Int) (c:Int) (d:Int) (_:Int) (_:Int) (_:Int) (_:Int) (_:Int) (_:Int) (_:Int) (_:Int):Option (float.shape × float.number × float.number × Bool) :=
 Option.bind (Flt.shape.read (⟨c,d⟩:float.shape) f) fun (a,h) =>
 Option.bind (Flt.shape.read (⟨c,d⟩:float.shape) g) fun (b,i) =>
 bif h then
 some ((⟨c,d⟩:float.shape),(⟨a.class_,a.sign,a.m,a.e⟩:float.number),(⟨b.class_,b.sign,b.m,b.e⟩:float.number),i)
 else
 some ((⟨c,d⟩:float.shape),(⟨a.class_,a.sign,a.m,a.e⟩:float.number),(⟨b.class_,b.sign,b.m,b.e⟩:float.number),false)
noncomputable def Flt.two.j1 (b:Int) (c:Int) (a:float.shape) (d:Bool):Option (float.shape × float.number × float.number × Bool) :=
 bif d then
 some ((⟨a.p,a.w⟩:float.shape),(⟨0,0,0,0⟩:float.number),(⟨0,0,0,0⟩:float.number),false)
 else
 Flt.two.j0 b c a.p a.w 0 0 0 0 0 0 0 0
noncomputable def Flt.two (e:Int) (d:Int) (a:Int) (b:Int):Option (float.shape × float.number × float.number × Bool) :=
 Option.bind (Flt.of e) fun (c,f) =>
 letk (!f) fun g =>
 bif g then
 Flt.two.j1 a b c true
 else
 letk (decide (d < (0:Int))) fun h =>
 bif h then
 Flt.two.j1 a b c true
 else
 letk (decide (d ≥ (4:Int))) fun i =>
 Flt.two.j1 a b c i
abbrev E12':float.shape × float.number × float.number × Bool → AV:=fun r=>(.tup [float.shape.enc r.1,float.number.enc r.2.1,float.number.enc r.2.2.1,.lit (.bool r.2.2.2)])
theorem Flt.two_ok {ad:Int} {ae:Int} {g:Int} {h:Int} {r:float.shape × float.number × float.number × Bool} (h0:Flt.two ad ae g h = some r):Gives Tryz.prog 117 [.lit (.int .i64 ad),.lit (.int .i64 ae),.lit (.int .i64 g),.lit (.int .i64 h)] (.tup [float.shape.enc r.1,float.number.enc r.2.1,float.number.enc r.2.2.1,.lit (.bool r.2.2.2)]):=by
 unfold Flt.two at h0
 refine W' [(0,4),(37,7)] Tryz.func117 ?_
 refine V' (V' (V' ?_))
 obtain ⟨⟨c,_⟩,ag,h1⟩:=bind_elim h0
 refine Gate.go (Z' (Flt.of_ok ag) (V' (CutN.of (fun s=>∃ d f l n o q t u v x,Flt.two.j0 g h d f l n o q t u v x = some r ∧ s = ⟨50,[(2,.lit (.int .i64 g)),(3,.lit (.int .i64 h)),(8,.ptr 0 0),(9,.ptr 1 0),(10,.ptr 2 0)],[.box [.lit (.int .i64 d),.lit (.int .i64 f)],.box [.lit (.int .i64 l),.lit (.int .i64 n),.lit (.int .u64 o),.lit (.int .i64 q)],.box [.lit (.int .i64 t),.lit (.int .i64 u),.lit (.int .u64 v),.lit (.int .i64 x)]]⟩) ?_ ?_)))
 refine CutN.of (fun s=>∃ k,Flt.two.j1 g h c k = some r ∧ s = ⟨50,[(2,.lit (.int .i64 g)),(3,.lit (.int .i64 h)),(8,.ptr 0 0),(9,.ptr 1 0),(10,.ptr 2 0),(27,.lit (.bool k))],[.box [.lit (.int .i64 c.p),.lit (.int .i64 c.w)],.box [.lit (.int .i64 0),.lit (.int .i64 0),.lit (.int .u64 0),.lit (.int .i64 0)],.box [.lit (.int .i64 0),.lit (.int .i64 0),.lit (.int .u64 0),.lit (.int .i64 0)]]⟩) ?_ ?_
 refine C' h1 (fun y=>C' y (fun z=>N' z fun _ h6=>?_) fun z=>?_) fun y=>?_
 exact B' [0,1,2] ⟨_,h6,rfl⟩
 exact B' [0,1,2] ⟨_,z,rfl⟩
 exact B' [0,1,2] ⟨_,y,rfl⟩
 rintro s ⟨k,i,rfl⟩
 unfold Flt.two.j1 at i
 rcases k with _ | _
 have j:=bif_f i
 exact B' [0,1,2] ⟨_,_,_,_,_,_,_,_,_,_,j,rfl⟩
 have j:=bif_t i
 refine DrawB.ofFN 0 [.box [.lit (.int .i64 c.p),.lit (.int .i64 c.w)],.box [.lit (.int .i64 0),.lit (.int .i64 0),.lit (.int .u64 0),.lit (.int .i64 0)],.box [.lit (.int .i64 0),.lit (.int .i64 0),.lit (.int .u64 0),.lit (.int .i64 0)]] 3 3 [[0],[1],[2],[0],[1],[2],[]] [[],[],[],[0],[1],[2],[]] [none,none,none,none,none,none,none] Tryz_mixed (by kernel_rfl) rfl rfl rfl (by kernel_rfl) ?_
 refine FNode.rd (F:=[0]) (W:=[]) (.agg [.lit (.int .i64 c.p),.lit (.int .i64 c.w)]) ?_ rfl rfl ?_
 rfl
 refine FNode.rd (F:=[1]) (W:=[]) (.agg [.lit (.int .i64 0),.lit (.int .i64 0),.lit (.int .u64 0),.lit (.int .i64 0)]) ?_ rfl rfl ?_
 rfl
 refine FNode.rd (F:=[2]) (W:=[]) (.agg [.lit (.int .i64 0),.lit (.int .i64 0),.lit (.int .u64 0),.lit (.int .i64 0)]) ?_ rfl rfl ?_
 rfl
 refine FNode.pl (F:=[0]) (W:=[0]) (.undef) [.box [.lit (.int .i64 c.p),.lit (.int .i64 c.w)],.box [.lit (.int .i64 0),.lit (.int .i64 0),.lit (.int .u64 0),.lit (.int .i64 0)],.box [.lit (.int .i64 0),.lit (.int .i64 0),.lit (.int .u64 0),.lit (.int .i64 0)]] ?_ rfl rfl rfl rfl ?_
 refine V' ?_
 rfl
 refine FNode.pl (F:=[1]) (W:=[1]) (.undef) [.box [.lit (.int .i64 c.p),.lit (.int .i64 c.w)],.box [.lit (.int .i64 0),.lit (.int .i64 0),.lit (.int .u64 0),.lit (.int .i64 0)],.box [.lit (.int .i64 0),.lit (.int .i64 0),.lit (.int .u64 0),.lit (.int .i64 0)]] ?_ rfl rfl rfl rfl ?_
 refine V' ?_
 rfl
 refine FNode.pl (F:=[2]) (W:=[2]) (.undef) [.box [.lit (.int .i64 c.p),.lit (.int .i64 c.w)],.box [.lit (.int .i64 0),.lit (.int .i64 0),.lit (.int .u64 0),.lit (.int .i64 0)],.box [.lit (.int .i64 0),.lit (.int .i64 0),.lit (.int .u64 0),.lit (.int .i64 0)]] ?_ rfl rfl rfl rfl ?_
 refine V' ?_
 rfl
 refine FNode.no (W:=[]) (.lit (.bool false)) ?_ rfl ?_
 rfl
 exact R' (E:=E12') j
 rintro s ⟨d,f,l,n,o,q,t,u,v,x,i,rfl⟩
 unfold Flt.two.j0 at i
 obtain ⟨⟨a,aa⟩,ah,j⟩:=bind_elim i
 refine Gate.go (Z' (Flt.shape.read_ok ah) (V' ?_))
 obtain ⟨⟨b,ab⟩,ai,af⟩:=bind_elim j
 refine Gate.go (Z' (Flt.shape.read_ok ai) (V' (DrawB.ofFN 0 [.box [.lit (.int .i64 d),.lit (.int .i64 f)],.box [.lit (.int .i64 a.class_),.lit (.int .i64 a.sign),.lit (.int .u64 a.m),.lit (.int .i64 a.e)],.box [.lit (.int .i64 b.class_),.lit (.int .i64 b.sign),.lit (.int .u64 b.m),.lit (.int .i64 b.e)]] 3 3 [[0],[1],[2],[],[],[],[],[0],[1],[2],[]] [[],[],[],[],[],[],[],[0],[1],[2],[]] [none,none,none,none,none,none,none,none,none,none,none] Tryz_mixed (by kernel_rfl) rfl rfl rfl (by kernel_rfl) ?_)))
 refine FNode.rd (F:=[0]) (W:=[]) (.agg [.lit (.int .i64 d),.lit (.int .i64 f)]) ?_ rfl rfl ?_
 rfl
 refine FNode.rd (F:=[1]) (W:=[]) (.agg [.lit (.int .i64 a.class_),.lit (.int .i64 a.sign),.lit (.int .u64 a.m),.lit (.int .i64 a.e)]) ?_ rfl rfl ?_
 rfl
 refine FNode.rd (F:=[2]) (W:=[]) (.agg [.lit (.int .i64 b.class_),.lit (.int .i64 b.sign),.lit (.int .u64 b.m),.lit (.int .i64 b.e)]) ?_ rfl rfl ?_
 rfl
 refine FNode.no (W:=[]) (.lit (.bool aa)) ?_ rfl ?_
 rfl
 refine FNode.no (W:=[]) (.lit (.bool aa)) ?_ rfl ?_
 rfl
 rcases aa with _ | _
 have ac:=bif_f af
 refine FNode.no (W:=[]) (.lit (.bool false)) ?_ rfl ?_
 rfl
 refine FNode.pl (F:=[0]) (W:=[0]) (.undef) [.box [.lit (.int .i64 d),.lit (.int .i64 f)],.box [.lit (.int .i64 a.class_),.lit (.int .i64 a.sign),.lit (.int .u64 a.m),.lit (.int .i64 a.e)],.box [.lit (.int .i64 b.class_),.lit (.int .i64 b.sign),.lit (.int .u64 b.m),.lit (.int .i64 b.e)]] ?_ rfl rfl rfl rfl ?_
 refine V' ?_
 rfl
 refine FNode.pl (F:=[1]) (W:=[1]) (.undef) [.box [.lit (.int .i64 d),.lit (.int .i64 f)],.box [.lit (.int .i64 a.class_),.lit (.int .i64 a.sign),.lit (.int .u64 a.m),.lit (.int .i64 a.e)],.box [.lit (.int .i64 b.class_),.lit (.int .i64 b.sign),.lit (.int .u64 b.m),.lit (.int .i64 b.e)]] ?_ rfl rfl rfl rfl ?_
 refine V' ?_
 rfl
 refine FNode.pl (F:=[2]) (W:=[2]) (.undef) [.box [.lit (.int .i64 d),.lit (.int .i64 f)],.box [.lit (.int .i64 a.class_),.lit (.int .i64 a.sign),.lit (.int .u64 a.m),.lit (.int .i64 a.e)],.box [.lit (.int .i64 b.class_),.lit (.int .i64 b.sign),.lit (.int .u64 b.m),.lit (.int .i64 b.e)]] ?_ rfl rfl rfl rfl ?_
 refine V' ?_
 rfl
 refine FNode.no (W:=[]) (.lit (.bool false)) ?_ rfl ?_
 rfl
 exact R' (E:=E12') ac
 have ac:=bif_t af
 refine FNode.no (W:=[]) (.lit (.bool ab)) ?_ rfl ?_
 rfl
 refine FNode.no (W:=[]) (.lit (.bool ab)) ?_ rfl ?_
 rfl
 refine FNode.pl (F:=[0]) (W:=[0]) (.undef) [.box [.lit (.int .i64 d),.lit (.int .i64 f)],.box [.lit (.int .i64 a.class_),.lit (.int .i64 a.sign),.lit (.int .u64 a.m),.lit (.int .i64 a.e)],.box [.lit (.int .i64 b.class_),.lit (.int .i64 b.sign),.lit (.int .u64 b.m),.lit (.int .i64 b.e)]] ?_ rfl rfl rfl rfl ?_
 refine V' ?_
 rfl
 refine FNode.pl (F:=[1]) (W:=[1]) (.undef) [.box [.lit (.int .i64 d),.lit (.int .i64 f)],.box [.lit (.int .i64 a.class_),.lit (.int .i64 a.sign),.lit (.int .u64 a.m),.lit (.int .i64 a.e)],.box [.lit (.int .i64 b.class_),.lit (.int .i64 b.sign),.lit (.int .u64 b.m),.lit (.int .i64 b.e)]] ?_ rfl rfl rfl rfl ?_
 refine V' ?_
 rfl
 refine FNode.pl (F:=[2]) (W:=[2]) (.undef) [.box [.lit (.int .i64 d),.lit (.int .i64 f)],.box [.lit (.int .i64 a.class_),.lit (.int .i64 a.sign),.lit (.int .u64 a.m),.lit (.int .i64 a.e)],.box [.lit (.int .i64 b.class_),.lit (.int .i64 b.sign),.lit (.int .u64 b.m),.lit (.int .i64 b.e)]] ?_ rfl rfl rfl rfl ?_
 refine V' ?_
 rfl
 refine FNode.no (W:=[]) (.lit (.bool ab)) ?_ rfl ?_
 rfl
 exact R' (E:=E12') ac
noncomputable def Flt.shape.quiet (a:float.shape):Option Int :=
 Option.bind (Flt.shape.top (⟨a.p,a.w⟩:float.shape)) fun c =>
 letk (IntKind.i64.wrap (a.p - (2:Int))) fun b =>
 chk (0 ≤ b) <|
 letk (IntKind.u64.wrap ((1:Int) * 2 ^ (min b.toNat (IntKind.u64).bits))) fun d =>
 Option.bind (Flt.shape.pack (⟨a.p,a.w⟩:float.shape) 0 c d) fun e =>
 some e
theorem Flt.shape.quiet_ok {a:float.shape} {r:Int} (b:Flt.shape.quiet a = some r):Gives Tryz.prog 172 [float.shape.enc a] (.lit (.int .i64 r)):=by
 unfold Flt.shape.quiet at b
 refine W' [] Tryz.func172 ?_
 refine V' (DrawB.ofG [none,none,none,none,none,none,none,none,none] Tryz_mixed (by kernel_rfl) (by kernel_rfl) ?_)
 exact D' rfl (D' rfl (DC' b (fun e=>Z' (Flt.shape.top_ok e) rfl) fun _ d=>D' rfl (D' rfl (DN' d (fun e=>n' e rfl) fun _ f=>DS' f (fun c e=>Side.mk c (n' e rfl)) fun _ g=>DC' g (fun e=>Z' (Flt.shape.pack_ok e) rfl) fun _ h=>D' rfl (R' (E:=E2') h)))))
noncomputable def Flt.shape.none (a:float.shape) (b:Int):Option Int :=
 letk (b == (2:Int)) fun c =>
 bif c then
 Option.bind (Flt.shape.zero (⟨a.p,a.w⟩:float.shape) 1) fun d =>
 some d
 else
 Option.bind (Flt.shape.zero (⟨a.p,a.w⟩:float.shape) 0) fun e =>
 some e
theorem Flt.shape.none_ok {c:float.shape} {d:Int} {r:Int} (e:Flt.shape.none c d = some r):Gives Tryz.prog 173 [float.shape.enc c,.lit (.int .i64 d)] (.lit (.int .i64 r)):=by
 unfold Flt.shape.none at e
 refine W' [] Tryz.func173 ?_
 exact V' (C' e (fun a=>Gate.go (A' a Flt.shape.zero_ok fun _ b=>R' (E:=E2') b)) fun a=>Gate.go (A' a Flt.shape.zero_ok fun _ b=>R' (E:=E2') b))
noncomputable def Flt.left (b:Int) (a:Int):Option (Int × Int) :=
 letk (decide (a ≥ (64:Int))) fun e =>
 bif e then
 letk (IntKind.i64.wrap (a - (64:Int))) fun c =>
 chk (0 ≤ c) <|
 letk (IntKind.u64.wrap (b * 2 ^ (min c.toNat (IntKind.u64).bits))) fun f =>
 some (f,0)
 else
 letk (IntKind.i64.wrap ((64:Int) - a)) fun d =>
 chk (0 ≤ d) <|
 letk ((IntKind.u64,b.fdiv (2 ^ (min d.toNat (IntKind.u64).bits))).2) fun g =>
 chk (0 ≤ a) <|
 letk (IntKind.u64.wrap (b * 2 ^ (min a.toNat (IntKind.u64).bits))) fun h =>
 some (g,h)
abbrev E13':Int × Int → AV:=fun r=>(.tup [.lit (.int .u64 r.1),.lit (.int .u64 r.2)])
theorem Flt.left_ok {g:Int} {h:Int} {r:Int × Int} (i:Flt.left g h = some r):Gives Tryz.prog 190 [.lit (.int .u64 g),.lit (.int .i64 h)] (.tup [.lit (.int .u64 r.1),.lit (.int .u64 r.2)]):=by
 unfold Flt.left at i
 refine W' [] Tryz.func190 ?_
 refine C' i (fun a=>DrawB.ofG [none,none,none,none,none,none,none,none,none] Tryz_mixed (by kernel_rfl) (by kernel_rfl) ?_) fun a=>N' a fun _ b=>S' b fun d=>N' d fun _ f=>R' (E:=E13') f
 refine D' rfl (D' rfl (DN' a (fun e=>n' e rfl) fun _ b=>?_))
 obtain ⟨k,d⟩:=chk_elim b
 obtain ⟨j,l,f⟩:=letk_elim d
 refine DNodeB.of (.lit (.int .u64 j)) ?_ ?_
 refine Side.mk k ?_
 refine Nm.mk ⟨j,l,?_⟩
 rfl
 exact D' rfl (D' rfl (DS' f (fun c e=>Side.mk c (n' e rfl)) fun _ m=>D' rfl (D' rfl (R' (E:=E13') m))))
noncomputable def Flt.shape.sum.j4 (a:Int) (b:Int) (c:Int) (d:Int) (e:Int) (f:Int) (_:Int) (_:Int) (g:Int) (h:Bool):Option (Int × Int) :=
 Option.bind (Flt.shape.round (⟨e,f⟩:float.shape) a d (⟨c,b,g,h⟩:float.exact)) fun (i,j) =>
 some (i,j)
noncomputable def Flt.shape.sum.j5 (a:Int) (b:Int) (c:Int) (d:Int) (e:Int) (f:Int) (g:Int) (h:Int) (i:Int) (j:Bool) (k:Bool):Option (Int × Int) :=
 bif k then
 Option.bind (Flt.shape.none (⟨b,c⟩:float.shape) a) fun l =>
 some (l,0)
 else
 Flt.shape.sum.j4 a g h i b c d e f j
noncomputable def Flt.shape.sum.j3 (c:Int) (d:Int) (e:Int) (f:Int) (g:Int) (h:Int) (i:Bool) (a:Int) (b:Int) (j:Int):Option (Int × Int) :=
 letk (b == (0:Int)) fun k =>
 bif k then
 letk (a == (0:Int)) fun l =>
 Flt.shape.sum.j5 c d e f g h a b j i l
 else
 Flt.shape.sum.j5 c d e f g h a b j i false
noncomputable def Flt.shape.sum.j2 (c:Int) (d:Int) (e:Int) (_:Int) (j:Int) (_:Int) (_:Int) (_:Int) (k:Int) (_:Int) (_:Int) (a:Int) (b:Int) (f:Int) (g:Bool) (l:Int):Option (Int × Int) :=
 Option.bind (Bits.Sub64 b l 0) fun (h,m) =>
 Option.bind (Bits.Sub64 a 0 m) fun (i,n) =>
 letk (n == (1:Int)) fun o =>
 bif o then
 Option.bind (Bits.Sub64 0 h 0) fun (p,q) =>
 Option.bind (Bits.Sub64 0 i q) fun (r,_) =>
 Flt.shape.sum.j3 c d e a b f g p r k
 else
 Flt.shape.sum.j3 c d e a b f g h i j
noncomputable def Flt.shape.sum.j1 (b:Int) (c:Int) (d:Int) (j:Int) (a:Int) (k:Int) (l:Int) (m:Int) (e:Int) (n:Int) (o:Int) (q:Bool) (f:Int) (g:Int) (h:Int) (i:Bool) (p:Int):Option (Int × Int) :=
 letk (a == e) fun r =>
 bif r then
 Option.bind (Bits.Add64 g p 0) fun (s,t) =>
 letk (IntKind.u64.wrap (f + t)) fun u =>
 Option.bind (Flt.shape.round (⟨c,d⟩:float.shape) b a (⟨u,s,h,i⟩:float.exact)) fun (v,w) =>
 some (v,w)
 else
 bif q then
 Flt.shape.sum.j2 b c d j a k l m e n o f g h i 1
 else
 Flt.shape.sum.j2 b c d j a k l m e n o f g h i p
noncomputable def Flt.shape.sum.j0 (c:float.shape) (d:Int) (a:float.number) (b:float.number) (f:Int) (j:Bool):Option (Int × Int) :=
 letk (IntKind.i64.wrap (a.e - f)) fun g =>
 Option.bind (Flt.left a.m f) fun (h,i) =>
 bif j then
 Flt.shape.sum.j1 d c.p c.w a.class_ a.sign a.m a.e b.class_ b.sign b.m b.e true h i g true 0
 else
 Flt.shape.sum.j1 d c.p c.w a.class_ a.sign a.m a.e b.class_ b.sign b.m b.e false h i g false b.m
noncomputable def Flt.shape.sum (c:float.shape) (d:Int) (a:float.number) (b:float.number):Option (Int × Int) :=
 letk (IntKind.i64.wrap (a.e - b.e)) fun f =>
 letk (decide (f > (70:Int))) fun g =>
 bif g then
 Flt.shape.sum.j0 c d a b 70 true
 else
 Flt.shape.sum.j0 c d a b f false
theorem Flt.shape.sum_ok {l:float.shape} {c:Int} {g:float.number} {h:float.number} {r:Int × Int} (h0:Flt.shape.sum l c g h = some r):Gives Tryz.prog 174 [float.shape.enc l,.lit (.int .i64 c),float.number.enc g,float.number.enc h] (.tup [.lit (.int .i64 r.1),.lit (.int .i64 r.2)]):=by
 unfold Flt.shape.sum at h0
 refine W' [(0,5),(0,10),(0,17),(0,24),(0,26),(120,51)] Tryz.func174 ?_
 refine V' (V' (V' (N' h0 fun _ h1=>N' h1 fun bd h2=>CutN.of (fun s=>∃ an ak,Flt.shape.sum.j0 l c g h an ak = some r ∧ s = ⟨125,[(1,.lit (.int .i64 c)),(4,.ptr 0 0),(6,.ptr 1 0),(7,.ptr 2 0),(10,.lit (.int .i64 an)),(11,.lit (.bool ak))],[.box [.lit (.int .i64 l.p),.lit (.int .i64 l.w)],.box [.lit (.int .i64 g.class_),.lit (.int .i64 g.sign),.lit (.int .u64 g.m),.lit (.int .i64 g.e)],.box [.lit (.int .i64 h.class_),.lit (.int .i64 h.sign),.lit (.int .u64 h.m),.lit (.int .i64 h.e)]]⟩) ?_ ?_)))
 rcases bd with _ | _
 have h3:=bif_f h2
 exact B' [0,1,2] ⟨_,_,h3,rfl⟩
 have h3:=bif_t h2
 exact B' [0,1,2] ⟨_,_,h3,rfl⟩
 rintro s ⟨an,ak,a,rfl⟩
 unfold Flt.shape.sum.j0 at a
 refine N' a fun _ f=>Gate.go (V' (V' (V' ?_)))
 obtain ⟨⟨_,_⟩,be,b⟩:=bind_elim f
 refine Gate.go (Z' (Flt.left_ok be) (V' (V' (CutN.of (fun s=>∃ n o q t u v x y z aa al ab ac ad ao ap,Flt.shape.sum.j1 c n o q t u v x y z aa al ab ac ad ao ap = some r ∧ s = ⟨125,[(1,.lit (.int .i64 c)),(4,.ptr 0 0),(6,.ptr 1 0),(7,.ptr 2 0),(11,.lit (.bool al)),(12,.ptr 3 0),(13,.lit (.int .u64 ap))],[.box [.lit (.int .i64 n),.lit (.int .i64 o)],.box [.lit (.int .i64 q),.lit (.int .i64 t),.lit (.int .u64 u),.lit (.int .i64 v)],.box [.lit (.int .i64 x),.lit (.int .i64 y),.lit (.int .u64 z),.lit (.int .i64 aa)],.box [.lit (.int .u64 ab),.lit (.int .u64 ac),.lit (.int .i64 ad),.lit (.bool ao)]]⟩) ?_ ?_))))
 rcases ak with _ | _
 have d:=bif_f b
 exact B' [0,1,2,3] ⟨_,_,_,_,_,_,_,_,_,_,_,_,_,_,_,_,d,rfl⟩
 have d:=bif_t b
 refine V' ?_
 exact B' [0,1,2,3] ⟨_,_,_,_,_,_,_,_,_,_,_,_,_,_,_,_,d,rfl⟩
 rintro s ⟨n,o,q,t,u,v,x,y,z,aa,al,ab,ac,ad,ao,ap,a,rfl⟩
 unfold Flt.shape.sum.j1 at a
 refine C' a (fun b=>CutN.of (fun s=>∃ aq ar,Flt.shape.sum.j2 c n o q t u v x y z aa ab ac ad aq ar = some r ∧ s = ⟨125,[(1,.lit (.int .i64 c)),(4,.ptr 0 0),(6,.ptr 1 0),(7,.ptr 2 0),(12,.ptr 3 0),(13,.lit (.int .u64 ar))],[.box [.lit (.int .i64 n),.lit (.int .i64 o)],.box [.lit (.int .i64 q),.lit (.int .i64 t),.lit (.int .u64 u),.lit (.int .i64 v)],.box [.lit (.int .i64 x),.lit (.int .i64 y),.lit (.int .u64 z),.lit (.int .i64 aa)],.box [.lit (.int .u64 ab),.lit (.int .u64 ac),.lit (.int .i64 ad),.lit (.bool aq)]]⟩) ?_ ?_) fun b=>?_
 rcases al with _ | _
 have d:=bif_f b
 exact B' [0,1,2,3] ⟨_,_,d,rfl⟩
 have d:=bif_t b
 exact B' [0,1,2,3] ⟨_,_,d,rfl⟩
 rintro s ⟨aq,ar,a,rfl⟩
 unfold Flt.shape.sum.j2 at a
 obtain ⟨⟨_,_⟩,bf,f⟩:=bind_elim a
 refine Gate.go (Z' (Bits.Sub64_ok bf) ?_)
 obtain ⟨⟨_,_⟩,bg,b⟩:=bind_elim f
 refine Gate.go (Z' (Bits.Sub64_ok bg) (CutN.of (fun s=>∃ ae af ag ah ai au i j k,Flt.shape.sum.j3 c ae af ag ah ai au i j k = some r ∧ s = ⟨125,[(1,.lit (.int .i64 c)),(4,.ptr 0 0),(12,.ptr 1 0),(15,.lit (.int .u64 i)),(17,.lit (.int .u64 j)),(18,.lit (.int .i64 k))],[.box [.lit (.int .i64 ae),.lit (.int .i64 af)],.box [.lit (.int .u64 ag),.lit (.int .u64 ah),.lit (.int .i64 ai),.lit (.bool au)]]⟩) ?_ ?_))
 refine C' b (fun aj=>?_) fun aj=>?_
 exact B' [0,3] ⟨_,_,_,_,_,_,_,_,_,aj,rfl⟩
 obtain ⟨⟨_,_⟩,bh,av⟩:=bind_elim aj
 refine Gate.go (Z' (Bits.Sub64_ok bh) ?_)
 obtain ⟨⟨_,_⟩,bi,bj⟩:=bind_elim av
 refine Gate.go (Z' (Bits.Sub64_ok bi) ?_)
 exact B' [0,3] ⟨_,_,_,_,_,_,_,_,_,bj,rfl⟩
 rintro s ⟨ae,af,ag,ah,ai,au,i,j,k,a,rfl⟩
 unfold Flt.shape.sum.j3 at a
 refine CutN.of (fun s=>∃ aw ax ay az ba bb,Flt.shape.sum.j4 c i j k aw ax ay az ba bb = some r ∧ s = ⟨125,[(1,.lit (.int .i64 c)),(4,.ptr 0 0),(12,.ptr 1 0),(15,.lit (.int .u64 i)),(17,.lit (.int .u64 j)),(18,.lit (.int .i64 k))],[.box [.lit (.int .i64 aw),.lit (.int .i64 ax)],.box [.lit (.int .u64 ay),.lit (.int .u64 az),.lit (.int .i64 ba),.lit (.bool bb)]]⟩) ?_ ?_
 refine CutN.of (fun s=>∃ bc am,Flt.shape.sum.j5 c ae af ag ah ai i j k bc am = some r ∧ s = ⟨125,[(1,.lit (.int .i64 c)),(4,.ptr 0 0),(12,.ptr 1 0),(15,.lit (.int .u64 i)),(17,.lit (.int .u64 j)),(18,.lit (.int .i64 k)),(110,.lit (.bool am))],[.box [.lit (.int .i64 ae),.lit (.int .i64 af)],.box [.lit (.int .u64 ag),.lit (.int .u64 ah),.lit (.int .i64 ai),.lit (.bool bc)]]⟩) ?_ ?_
 refine C' a (fun b=>?_) fun b=>N' b fun _ d=>?_
 exact B' [0,1] ⟨_,_,b,rfl⟩
 exact B' [0,1] ⟨_,_,d,rfl⟩
 rintro s ⟨bc,am,a,rfl⟩
 unfold Flt.shape.sum.j5 at a
 rcases am with _ | _
 have f:=bif_f a
 exact B' [0,1] ⟨_,_,_,_,_,_,f,rfl⟩
 have f:=bif_t a
 exact Gate.go (A' f Flt.shape.none_ok fun _ b=>R' (E:=E10') b)
 rintro s ⟨aw,ax,ay,az,ba,bb,a,rfl⟩
 unfold Flt.shape.sum.j4 at a
 refine V' (V' ?_)
 obtain ⟨⟨_,_⟩,bk,f⟩:=bind_elim a
 exact Gate.go (Z' (Flt.shape.round_ok bk) (R' (E:=E10') f))
 obtain ⟨⟨_,_⟩,bl,d⟩:=bind_elim b
 refine Gate.go (Z' (Bits.Add64_ok bl) (V' (N' d fun _ aj=>V' ?_)))
 obtain ⟨⟨_,_⟩,bm,av⟩:=bind_elim aj
 exact Gate.go (Z' (Flt.shape.round_ok bm) (R' (E:=E10') av))
end Go.Q
