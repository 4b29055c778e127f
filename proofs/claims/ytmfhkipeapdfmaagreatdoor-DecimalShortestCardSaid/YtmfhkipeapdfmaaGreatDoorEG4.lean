import Derived.Test.YtmfhkipeapdfmaaGreatDoorEG3
import Derived.Test.YtmfhkipeapdfmaaGreatDoorFX
import Derived.Test.YtmfhkipeapdfmaaGreatDoorFY
import Derived.Test.YtmfhkipeapdfmaaGreatDoorProg
namespace Go.Q
open Go Go.Proofs
set_option maxRecDepth 10000
set_option maxHeartbeats 2000000
noncomputable def Ref2.fraction.scaled.j0 (c:Int) (d:Int) (_:List Int) (_:List Int) (f:List Int) (b:List Int):Option ((List Int)) :=
 Option.bind (Ref2.divide f b) fun (a,e) =>
 letk ((a.length:Int)) fun g =>
 letk (decide (g > (0:Int))) fun h =>
 bif h then
 chk (0 ≤ (0:Int)) <|
 Option.bind (a[(0:Int).toNat]?) fun i =>
 chk ((2:Int) ≠ 0) <|
 letk (i.tmod (2:Int)) fun j =>
 letk (j == (1:Int)) fun k =>
 Option.bind (Ref2.away c d k e b) fun l =>
 bif l then
 Option.bind (Ref2.plus a 1) fun m =>
 some m
 else
 some a
 else
 Option.bind (Ref2.away c d false e b) fun n =>
 bif n then
 Option.bind (Ref2.plus a 1) fun o =>
 some o
 else
 some a
noncomputable def Ref2.fraction.scaled (a:quadratref02.fraction) (c:Int) (b:Int):Option ((List Int)) :=
 letk (decide (b ≥ (0:Int))) fun d =>
 bif d then
 Option.bind (Ref2.power b) fun e =>
 Option.bind (Ref2.times a.num e) fun f =>
 Ref2.fraction.scaled.j0 c a.sign a.num a.den f a.den
 else
 letk (IntKind.i64.wrap (0 - b)) fun g =>
 Option.bind (Ref2.power g) fun h =>
 Option.bind (Ref2.times a.den h) fun i =>
 Ref2.fraction.scaled.j0 c a.sign a.num a.den a.num i
theorem Ref2.fraction.scaled_ok {p:quadratref02.fraction} {b:Int} {q:Int} {r:(List Int)} (t:Ref2.fraction.scaled p b q = some r):Gives Tryz.prog 67 [quadratref02.fraction.enc p,.lit (.int .i64 b),.lit (.int .i64 q)] (.vs 1 (r.map (eI .u32))):=by
 unfold Ref2.fraction.scaled at t
 refine W' [(0,5)] Tryz.func67 ?_
 refine V' (DrawB.ofG [none,none,none,none,none,none] Tryz_mixed (by kernel_rfl) (by kernel_rfl) ?_)
 refine D' rfl (D' rfl (D' rfl (D' rfl (D' rfl (D' rfl (CutN.of (fun s=>∃ f g h i j,Ref2.fraction.scaled.j0 b f g h i j = some r ∧ s = ⟨51,[(1,.lit (.int .i64 b)),(3,.ptr 0 0),(7,.vs 1 (i.map (eI .u32))),(8,.vs 1 (j.map (eI .u32)))],[.box [.lit (.int .i64 f),.vs 1 (g.map (eI .u32)),.vs 1 (h.map (eI .u32))]]⟩) ?_ ?_))))))
 refine C' t (fun k=>N' k fun _ l=>Gate.go (A' l Ref2.power_ok fun _ m=>Gate.go (A' m Ref2.times_ok fun _ y=>?_))) fun k=>Gate.go (A' k Ref2.power_ok fun _ l=>Gate.go (A' l Ref2.times_ok fun _ m=>?_))
 exact B' [0] ⟨_,_,_,_,_,y,rfl⟩
 exact B' [0] ⟨_,_,_,_,_,m,rfl⟩
 rintro s ⟨f,g,h,i,j,u,rfl⟩
 unfold Ref2.fraction.scaled.j0 at u
 obtain ⟨⟨_,_⟩,z,aa⟩:=bind_elim u
 refine Gate.go (Z' (Ref2.divide_ok z) (L' [0] [1,3,8,9,10] ?_))
 refine DrawB.ofG [none,none,none,none,none,none,none,some 38,some 38,some 38,some 38,some 38,none,none,none,none] Tryz_mixed (by kernel_rfl) (by kernel_rfl) ?_
 refine D' rfl (D' rfl (D' rfl (D' rfl ?_)))
 obtain ⟨v,ab,ac⟩:=letk_elim aa
 refine DNodeB.of (.lit (.int .i64 v)) ?_ ?_
 refine Nm.mk ⟨v,by rw [ab,List.length_map],?_⟩
 rfl
 refine DN' ac (fun e=>n' e rfl) fun ad w=>D' rfl ?_
 rcases ad with _ | _
 have n:=bif_f w
 refine D' rfl (D' rfl (D' rfl (DC' n (fun e=>Z' (Ref2.away_ok e) rfl) fun ae d=>?_)))
 rcases ae with _ | _
 have a:=bif_f d
 exact R' (E:=E24') a
 have a:=bif_t d
 exact Gate.go (A' a Ref2.plus_ok fun _ af=>R' (E:=E24') af)
 have n:=bif_t w
 refine D' rfl ?_
 obtain ⟨ag,d⟩:=chk_elim n
 obtain ⟨ah,ai,a⟩:=bind_elim d
 refine DNodeB.of (.iptr (.lit (.int .u32 ah))) ?_ ?_
 refine Side.mk ag ?_
 refine At.by ai ?_
 rfl
 refine D' rfl (DS' a (fun c e=>Side.mk c (n' e rfl)) fun _ aj=>DN' aj (fun e=>n' e rfl) fun _ ak=>D' rfl (D' rfl (D' rfl (DC' ak (fun e=>Z' (Ref2.away_ok e) rfl) fun al x=>?_))))
 rcases al with _ | _
 have o:=bif_f x
 exact R' (E:=E24') o
 have o:=bif_t x
 exact Gate.go (A' o Ref2.plus_ok fun _ am=>R' (E:=E24') am)
noncomputable def Ref2.nat.decimal.s1 (a:ByteArray):Option (ByteArray ⊕ ByteArray) :=
 letk ((a.size:Int)) fun b =>
 letk (decide (b > (0:Int))) fun c =>
 bif c then
 chk (0 ≤ (0:Int) ∧ (0:Int) < (a.size:Int)) <|
 letk (bt a (0:Int)) fun d =>
 letk (d == (48:Int)) fun e =>
 bif e then
 chk (0 ≤ (1:Int) ∧ (1:Int) ≤ (a.size:Int)) <|
 letk (a.extract (1:Int).toNat a.size) fun f =>
 some (.inl f)
 else
 some (.inr a)
 else
 some (.inr a)
noncomputable def Ref2.nat.decimal.l1 (a:ByteArray):Option ByteArray:=loopO (fun v:ByteArray=>Ref2.nat.decimal.s1 v) a
noncomputable def Ref2.nat.decimal.s2 (e:ByteArray) (h:List Int) (b:Int) (a:ByteArray) (f:Int):Option ((Int × ByteArray × Int) ⊕ (((List Int) × ByteArray) ⊕ ByteArray)) :=
 letk (decide (f < (9:Int))) fun i =>
 bif i then
 chk ((10:Int) ≠ 0) <|
 letk (b.tmod (10:Int)) fun c =>
 chk ((10:Int) ≠ 0) <|
 letk (b.tmod (10:Int)) fun j =>
 letk (IntKind.u64.wrap (j + (1:Int))) fun d =>
 chk (0 ≤ c ∧ c ≤ d ∧ d ≤ ((⟨#[48,49,50,51,52,53,54,55,56,57]⟩:ByteArray).size:Int)) <|
 letk ((⟨#[48,49,50,51,52,53,54,55,56,57]⟩:ByteArray).extract c.toNat d.toNat) fun g =>
 chk (((g.size + a.size:Nat):Int) ≤ 9223372036854775807) <|
 letk (g ++ a) fun k =>
 chk ((10:Int) ≠ 0) <|
 letk (IntKind.u64.wrap (b.tdiv (10:Int))) fun l =>
 letk (IntKind.i64.wrap (f + (1:Int))) fun m =>
 some (.inl (l,k,m))
 else
 ((
 chk (((a.size + e.size:Nat):Int) ≤ 9223372036854775807) <|
 letk (a ++ e) fun n =>
 some (.inl (h,n)))).map .inr
noncomputable def Ref2.nat.decimal.l2 (a:ByteArray) (b:List Int) (c:Int) (d:ByteArray) (e:Int):Option (((List Int) × ByteArray) ⊕ ByteArray):=loopO (fun v:Int × ByteArray × Int=>Ref2.nat.decimal.s2 a b v.1 v.2.1 v.2.2) (c,d,e)
noncomputable def Ref2.nat.decimal.s0 (a:List Int) (b:ByteArray):Option (((List Int) × ByteArray) ⊕ ByteArray) :=
 letk ((a.length:Int)) fun c =>
 letk (decide (c > (0:Int))) fun d =>
 bif d then
 Option.bind (Ref2.small 1000000000) fun e =>
 Option.bind (Ref2.divide a e) fun (f,g) =>
 Option.bind (Ref2.nat.value g) fun h =>
 Ref2.nat.decimal.l2 b f h (⟨#[]⟩) 0
 else
 (Ref2.nat.decimal.l1 b).map .inr
noncomputable def Ref2.nat.decimal.l0 (a:List Int) (b:ByteArray):Option ByteArray:=loopO (fun v:(List Int) × ByteArray=>Ref2.nat.decimal.s0 v.1 v.2) (a,b)
noncomputable def Ref2.nat.decimal (a:List Int):Option ByteArray :=
 Ref2.nat.decimal.l0 a (⟨#[]⟩)
theorem Ref2.nat.decimal_ok {f:List Int} {r:ByteArray} (g:Ref2.nat.decimal f = some r):Gives Tryz.prog 68 [.vs 1 (f.map (eI .u32))] (.lit (.string r)):=by
 unfold Ref2.nat.decimal at g
 refine W' [] Tryz.func68 ?_
 unfold Ref2.nat.decimal.l0 at g
 refine LoopB.of (σ:=(List Int) × ByteArray) (ρ:=ByteArray) (fun v:(List Int) × ByteArray=>Ref2.nat.decimal.s0 v.1 v.2) (fun v=>(⟨49,[(0,.vs 1 (v.1.map (eI .u32))),(3,.lit (.string v.2))],[]⟩:St)) (f,⟨#[]⟩) g (B' [] rfl) ?_
 rintro t ⟨u,a⟩ h b i c
 replace b:Ref2.nat.decimal.s0 u a = some h:=b
 unfold Ref2.nat.decimal.s0 at b
 obtain ⟨w,x,y⟩:=letk_elim b
 refine Nm.mk ⟨w,by rw [x,List.length_map],?_⟩
 refine C' y (fun j=>?_) fun j=>Gate.go (A' j Ref2.small_ok fun _ z=>?_)
 obtain ⟨_,q,k⟩:=map_elim j
 have k:=(c _ k.symm).symm
 subst k
 unfold Ref2.nat.decimal.l1 at q
 refine LoopB.of (σ:=ByteArray) (ρ:=ByteArray) (fun v:ByteArray=>Ref2.nat.decimal.s1 v) (fun v=>(⟨49,[(3,.lit (.string v))],[]⟩:St)) a q (B' [] rfl) ?_
 rintro t aa h d i c
 replace d:Ref2.nat.decimal.s1 aa = some h:=d
 unfold Ref2.nat.decimal.s1 at d
 refine N' d fun _ ab=>C' ab (fun l=>?_) fun l=>S' l fun ac=>N' ac fun _ ad=>C' ad (fun m=>?_) fun m=>S' m fun ae=>N' ae fun _ af=>?_
 have ag:=c _ (Option.some.inj l).symm
 have ah:=congrArg some ag
 exact R' (E:=E4') ah
 have ai:=c _ (Option.some.inj m).symm
 have aj:=congrArg some ai
 exact R' (E:=E4') aj
 exact B' [] ⟨_,i _ (Option.some.inj af).symm,rfl⟩
 obtain ⟨⟨n,_⟩,ak,al⟩:=bind_elim z
 refine Gate.go (Z' (Ref2.divide_ok ak) (Gate.go (A' al Ref2.nat.value_ok fun am s=>?_)))
 unfold Ref2.nat.decimal.l2 at s
 refine LoopB.of (σ:=Int × ByteArray × Int) (ρ:=((List Int) × ByteArray) ⊕ ByteArray) (fun v:Int × ByteArray × Int=>Ref2.nat.decimal.s2 a n v.1 v.2.1 v.2.2) (fun v=>(⟨49,[(3,.lit (.string a)),(4,.vs 1 (n.map (eI .u32))),(6,.lit (.int .u64 v.1)),(7,.lit (.string v.2.1)),(8,.lit (.int .i64 v.2.2))],[]⟩:St)) (am,⟨#[]⟩,0) s (B' [] rfl) ?_
 rintro _ ⟨n6,an,i8⟩ x2 e ao ap
 replace e:Ref2.nat.decimal.s2 a n n6 an i8 = some x2:=e
 unfold Ref2.nat.decimal.s2 at e
 refine C' e (fun o=>?_) fun o=>S' o fun aq=>N' aq fun _ ar=>S' ar fun au=>N' au fun _ av=>N' av fun _ aw=>S' aw fun ax=>N' ax fun _ ay=>S' ay fun az=>N' az fun _ ba=>S' ba fun bb=>N' bb fun _ bc=>N' bc fun _ bd=>?_
 obtain ⟨_,be,p⟩:=map_elim o
 have p:=(ap _ p.symm).symm
 subst p
 refine S' be fun bf=>N' bf fun _ bg=>?_
 exact B' [] ⟨_,i _ (Option.some.inj bg).symm,rfl⟩
 exact B' [] ⟨_,ao _ (Option.some.inj bd).symm,rfl⟩
noncomputable def Ref2.fraction.digits (a:quadratref02.fraction) (e:Int) (b:Int):Option (ByteArray × Int) :=
 Option.bind (Ref2.fraction.size (⟨a.sign,a.num,a.den⟩:quadratref02.fraction)) fun d =>
 letk (IntKind.i64.wrap (b - d)) fun f =>
 Option.bind (Ref2.fraction.scaled (⟨a.sign,a.num,a.den⟩:quadratref02.fraction) e f) fun g =>
 Option.bind (Ref2.nat.decimal g) fun c =>
 letk ((c.size:Int)) fun h =>
 letk (decide (h > b)) fun i =>
 bif i then
 chk (0 ≤ b ∧ b ≤ (c.size:Int)) <|
 letk (c.extract 0 b.toNat) fun j =>
 letk (IntKind.i64.wrap (d + (1:Int))) fun k =>
 some (j,k)
 else
 some (c,d)
theorem Ref2.fraction.digits_ok {b:quadratref02.fraction} {c:Int} {d:Int} {r:ByteArray × Int} (e:Ref2.fraction.digits b c d = some r):Gives Tryz.prog 36 [quadratref02.fraction.enc b,.lit (.int .i64 c),.lit (.int .i64 d)] (.tup [.lit (.string r.1),.lit (.int .i64 r.2)]):=by
 unfold Ref2.fraction.digits at e
 refine W' [] Tryz.func36 ?_
 exact V' (Gate.go (A' e Ref2.fraction.size_ok fun _ f=>N' f fun _ g=>Gate.go (A' g Ref2.fraction.scaled_ok fun _ h=>Gate.go (A' h Ref2.nat.decimal_ok fun _ i=>N' i fun _ j=>C' j (fun a=>R' (E:=E19') a) fun a=>S' a fun k=>N' k fun _ l=>N' l fun _ m=>R' (E:=E19') m))))
noncomputable def Ref2.lessH.j1 (_:List Int) (a:Int) (d:Int) (b:List Int) (e:Int):Option (((List Int) × Int × Int) ⊕ ((List Int))) :=
 chk (0 ≤ a ∧ a < (b.length:Int)) <|
 letk (0 + a.toNat) fun f =>
 Option.bind (b[f]?) fun g =>
 letk (IntKind.u64.wrap g) fun h =>
 letk (IntKind.u64.wrap (h - d)) fun i =>
 letk (IntKind.u32.wrap i) fun j =>
 chk (0 ≤ a ∧ a < (b.length:Int)) <|
 letk (0 + a.toNat) fun c =>
 Option.bind (b[c]?) fun _ =>
 letk (b.set c j) fun l =>
 letk (IntKind.i64.wrap (a + (1:Int))) fun k =>
 some (.inl (l,e,k))
noncomputable def Ref2.lessH.j0 (d:List Int) (a:Int) (b:List Int) (c:Int):Option (((List Int) × Int × Int) ⊕ ((List Int))) :=
 chk (0 ≤ a ∧ a < (b.length:Int)) <|
 letk (0 + a.toNat) fun e =>
 Option.bind (b[e]?) fun f =>
 letk (IntKind.u64.wrap f) fun g =>
 letk (decide (g < c)) fun h =>
 bif h then
 Ref2.lessH.j1 d a c b 1
 else
 Ref2.lessH.j1 d a c b 0
noncomputable def Ref2.lessH.s0 (b:List Int) (c:List Int) (d:Int) (a:Int):Option (((List Int) × Int × Int) ⊕ ((List Int))) :=
 letk ((c.length:Int)) fun e =>
 letk (decide (a < e)) fun f =>
 bif f then
 letk ((b.length:Int)) fun g =>
 letk (decide (a < g)) fun h =>
 bif h then
 chk (0 ≤ a) <|
 Option.bind (b[a.toNat]?) fun i =>
 letk (IntKind.u64.wrap i) fun j =>
 letk (IntKind.u64.wrap (d + j)) fun k =>
 Ref2.lessH.j0 b a c k
 else
 Ref2.lessH.j0 b a c d
 else
 ((
 Option.bind (Ref2.nat.trimH c) fun l =>
 some l)).map .inr
noncomputable def Ref2.lessH.l0 (a:List Int) (b:List Int) (c:Int) (d:Int):Option ((List Int)):=loopO (fun v:(List Int) × Int × Int=>Ref2.lessH.s0 a v.1 v.2.1 v.2.2) (b,c,d)
noncomputable def Ref2.lessH (a:List Int) (b:List Int):Option ((List Int)) :=
 Ref2.lessH.l0 b a 0 0
theorem Ref2.lessH_ok {b:List Int} {a:List Int} {r:(List Int)} (p:Ref2.lessH b a = some r):GivesK Tryz.prog 130 [.ref 0 0 ((b.map (eI .u32)).length),.vs 1 (a.map (eI .u32))] [.arr 1 (b.map (eI .u32))] 1 (.ref 0 0 ((r.map (eI .u32)).length)) [.arr 1 (r.map (eI .u32))]:=by
 unfold Ref2.lessH at p
 refine ACallsK.of_swp Tryz.func130 rfl (by decide) rfl (st0:=⟨46,[(0,.ref 0 0 ((b.map (eI .u32)).length)),(1,.vs 1 (a.map (eI .u32)))],[.arr 1 (b.map (eI .u32))]⟩) rfl rfl (bwp_ok (C:=[(0,8),(0,11)]) ?_)
 unfold Ref2.lessH.l0 at p
 refine LoopB.of (σ:=(List Int) × Int × Int) (ρ:=(List Int)) (fun v:(List Int) × Int × Int=>Ref2.lessH.s0 a v.1 v.2.1 v.2.2) (fun v=>(⟨46,[(0,.ref 0 0 ((v.1.map (eI .u32)).length)),(1,.vs 1 (a.map (eI .u32))),(5,.lit (.int .u64 v.2.1)),(6,.lit (.int .i64 v.2.2))],[.arr 1 (v.1.map (eI .u32))]⟩:St)) (b,0,0) p (B' [0] rfl) ?_
 rintro _ ⟨i,ad,c⟩ q j ae af
 replace j:Ref2.lessH.s0 a i ad c = some q:=j
 unfold Ref2.lessH.s0 at j
 obtain ⟨ag,ah,ai⟩:=letk_elim j
 refine Nm.mk ⟨ag,by rw [ah,List.length_map],?_⟩
 refine C' ai (fun t=>?_) fun t=>CutN.of (fun s=>∃ n d,Ref2.lessH.j0 a c n d = some q ∧ s = ⟨46,[(0,.ref 0 0 ((n.map (eI .u32)).length)),(1,.vs 1 (a.map (eI .u32))),(6,.lit (.int .i64 c)),(7,.lit (.int .u64 d))],[.arr 1 (n.map (eI .u32))]⟩) ?_ ?_
 obtain ⟨_,aj,u⟩:=map_elim t
 have u:=(af _ u.symm).symm
 subst u
 obtain ⟨o,ak,al⟩:=bind_elim aj
 refine Gate.weak (Sees.of (Weak.objs (k:=46) (keep:=[0]) (frz:=[]) (m:=0) (ts:=[(44,.ref 0 0 ((i.map (eI .u32)).length))]) (hs:=[.arr 1 (i.map (eI .u32))]) rfl (by decide) rfl rfl ⟨⟨_,rfl,.arr _ _⟩,⟨rfl,fun _ h=>by cases h⟩⟩ ⟨(.ref _ _ _ 0 rfl),trivial⟩)) ?_
 refine CallN.hand (k:=1) (v:=.ref 0 0 ((o.map (eI .u32)).length)) (hs':=[.arr 1 (o.map (eI .u32))]) (ts':=[(44,.ref 0 0 ((i.map (eI .u32)).length))]) (Ref2.nat.trimH_ok ak) rfl rfl ?_
 have am:=Option.some.inj al
 subst am
 exact Returns.hand (v:=.ref 0 0 ((o.map (eI .u32)).length)) (keep:=[0]) (frz:=[]) (m:=0) (h':=[.arr 1 (o.map (eI .u32))]) rfl rfl (WH.of (by decide) rfl rfl ⟨⟨_,rfl,.arr _ _⟩,⟨rfl,fun _ h=>by cases h⟩⟩) (.ref _ _ _ 0 rfl) ⟨rfl,rfl⟩
 obtain ⟨an,ao,ap⟩:=letk_elim t
 refine Nm.mk ⟨an,by rw [ao,List.length_map],?_⟩
 refine C' ap (fun w=>?_) fun w=>?_
 exact B' [0] ⟨_,_,w,rfl⟩
 obtain ⟨aq,ar⟩:=chk_elim w
 obtain ⟨_,au,av⟩:=bind_elim ar
 refine Side.mk aq ?_
 refine At.by au ?_
 refine N' av fun _ aw=>N' aw fun _ ax=>?_
 exact B' [0] ⟨_,_,ax,rfl⟩
 rintro s ⟨n,d,e,rfl⟩
 unfold Ref2.lessH.j0 at e
 refine CutN.of (fun s=>∃ f x,Ref2.lessH.j1 a c d f x = some q ∧ s = ⟨46,[(0,.ref 0 0 ((f.map (eI .u32)).length)),(1,.vs 1 (a.map (eI .u32))),(5,.lit (.int .u64 x)),(6,.lit (.int .i64 c)),(7,.lit (.int .u64 d))],[.arr 1 (f.map (eI .u32))]⟩) ?_ ?_
 obtain ⟨y,z⟩:=chk_elim e
 obtain ⟨ay,az,aa⟩:=letk_elim z
 refine Side.mk (by simpa only [List.length_map] using y) ?_
 refine Nm.mk ⟨ay,az,?_⟩
 obtain ⟨_,ba,ab⟩:=bind_elim aa
 refine At.by ba ?_
 refine N' ab fun _ ac=>C' ac (fun g=>?_) fun g=>?_
 exact B' [0] ⟨_,_,g,rfl⟩
 exact B' [0] ⟨_,_,g,rfl⟩
 rintro s ⟨f,x,e,rfl⟩
 unfold Ref2.lessH.j1 at e
 obtain ⟨y,z⟩:=chk_elim e
 obtain ⟨bb,bc,aa⟩:=letk_elim z
 refine Side.mk (by simpa only [List.length_map] using y) ?_
 refine Nm.mk ⟨bb,bc,?_⟩
 obtain ⟨_,bd,ab⟩:=bind_elim aa
 refine At.by bd ?_
 refine N' ab fun _ ac=>N' ac fun _ be=>N' be fun _ g=>?_
 obtain ⟨bf,bg⟩:=chk_elim g
 obtain ⟨bh,bi,bj⟩:=letk_elim bg
 refine Side.mk (by simpa only [List.length_map] using bf) ?_
 refine Nm.mk ⟨bh,bi,?_⟩
 obtain ⟨_,bk,bl⟩:=bind_elim bj
 obtain ⟨l,el,bm⟩:=letk_elim bl
 refine At.by bk ?_
 refine Side.mk ⟨Nat.le_of_ble_eq_true rfl,rfl⟩ ?_
 refine Nm.mk ⟨l.map (eI .u32),by rw [el,List.map_set]; rfl,?_⟩
 rw [show (f.map (eI .u32)).length = (l.map (eI .u32)).length from by rw [el,List.length_map,List.length_map,List.length_set]]
 refine N' bm fun _ bn=>?_
 exact B' [0] ⟨_,ae _ (Option.some.inj bn).symm,rfl⟩
noncomputable def Ref2.fraction.distance (c:quadratref02.fraction) (d:ByteArray) (f:Int):Option ((List Int)) :=
 letk ((d.size:Int)) fun g =>
 letk (IntKind.i64.wrap (f - g)) fun h =>
 Option.bind (Ref2.text.fraction (⟨0,d,h,⟨#[]⟩⟩:quadratref02.text)) fun (e,_) =>
 Option.bind (Ref2.times c.num e.den) fun a =>
 Option.bind (Ref2.times e.num c.den) fun b =>
 Option.bind (Ref2.compare a b) fun i =>
 letk (decide (i ≥ (0:Int))) fun j =>
 bif j then
 chk (((([]:List Int)).length + a.length) * 4 ≤ 140737488355328) <|
 letk ((([]:List Int)) ++ a) fun k =>
 Option.bind (Ref2.lessH k b) fun l =>
 some l
 else
 chk (((([]:List Int)).length + b.length) * 4 ≤ 140737488355328) <|
 letk ((([]:List Int)) ++ b) fun m =>
 Option.bind (Ref2.lessH m a) fun n =>
 some n
theorem Ref2.fraction.distance_ok {p:quadratref02.fraction} {q:ByteArray} {t:Int} {r:(List Int)} (u:Ref2.fraction.distance p q t = some r):Gives Tryz.prog 132 [quadratref02.fraction.enc p,.lit (.string q),.lit (.int .i64 t)] (.vs 1 (r.map (eI .u32))):=by
 unfold Ref2.fraction.distance at u
 refine W' [] Tryz.func132 ?_
 refine V' (N' u fun _ y=>N' y fun _ z=>Gate.go (V' (V' (V' ?_))))
 obtain ⟨⟨_,_⟩,aa,h3⟩:=bind_elim z
 refine Gate.go (Z' (Ref2.text.fraction_ok aa) (V' (V' (L' [0,2] [3,8] ?_))))
 refine DrawB.ofG [none,none,none,none,none,none,none,none,none,none,none,none] Tryz_mixed (by kernel_rfl) (by kernel_rfl) ?_
 refine D' rfl (D' rfl (D' rfl (D' rfl (DC' h3 (fun e=>Z' (Ref2.times_ok e) rfl) fun w h4=>D' rfl (D' rfl (D' rfl (D' rfl (DC' h4 (fun e=>Z' (Ref2.times_ok e) rfl) fun x h5=>D' rfl (D' rfl (Gate.go (A' h5 Ref2.compare_ok fun _ h6=>C' h6 (fun d=>Gate.go (Nm.mk ⟨(([]:List Int)).map (eI .u32),rfl,?_⟩)) fun d=>Gate.go (Nm.mk ⟨(([]:List Int)).map (eI .u32),rfl,?_⟩))))))))))))
 obtain ⟨f,g⟩:=chk_elim d
 obtain ⟨b,ab,i⟩:=letk_elim g
 refine Gate.go (Side.mk (full_le _) ?_)
 refine Side.mk (one_map (fun _ _ a=>by simp only [AV.cells,List.mem_singleton] at a; subst a; rfl)) ?_
 refine Side.mk (side_rv (by decide) f) ?_
 refine Nm.mk ⟨b.map (eI .u32),by rw [ab]; exact app_rv,?_⟩
 obtain ⟨j,ac,l⟩:=bind_elim i
 refine Gate.weak (Sees.of (Weak.objs (k:=47) (keep:=[3]) (frz:=[]) (m:=0) (ts:=[(44,.ref 0 0 ((b.map (eI .u32)).length)),(45,.vs 1 (w.map (eI .u32)))]) (hs:=[.arr 1 (b.map (eI .u32))]) rfl (by decide) rfl rfl ⟨⟨_,rfl,.arr _ _⟩,⟨rfl,fun _ h=>by cases h⟩⟩ ⟨(.ref _ _ _ 0 rfl),.s,trivial⟩)) ?_
 refine CallN.hand (k:=1) (v:=.ref 0 0 ((j.map (eI .u32)).length)) (hs':=[.arr 1 (j.map (eI .u32))]) (ts':=[(44,.ref 0 0 ((b.map (eI .u32)).length)),(45,.vs 1 (w.map (eI .u32)))]) (Ref2.lessH_ok ac) rfl rfl ?_
 have n:=Option.some.inj l
 subst n
 exact Returns.frozen (r:=.vs 1 (j.map (eI .u32))) [0] rfl rfl (WV.all (k:=0) (by decide) rfl) ⟨rfl,rfl⟩
 obtain ⟨f,g⟩:=chk_elim d
 obtain ⟨c,ad,i⟩:=letk_elim g
 refine Gate.go (Side.mk (full_le _) ?_)
 refine Side.mk (one_map (fun _ _ a=>by simp only [AV.cells,List.mem_singleton] at a; subst a; rfl)) ?_
 refine Side.mk (side_rv (by decide) f) ?_
 refine Nm.mk ⟨c.map (eI .u32),by rw [ad]; exact app_rv,?_⟩
 obtain ⟨o,ae,l⟩:=bind_elim i
 refine Gate.weak (Sees.of (Weak.objs (k:=47) (keep:=[3]) (frz:=[]) (m:=0) (ts:=[(39,.ref 0 0 ((c.map (eI .u32)).length)),(40,.vs 1 (x.map (eI .u32)))]) (hs:=[.arr 1 (c.map (eI .u32))]) rfl (by decide) rfl rfl ⟨⟨_,rfl,.arr _ _⟩,⟨rfl,fun _ h=>by cases h⟩⟩ ⟨(.ref _ _ _ 0 rfl),.s,trivial⟩)) ?_
 refine CallN.hand (k:=1) (v:=.ref 0 0 ((o.map (eI .u32)).length)) (hs':=[.arr 1 (o.map (eI .u32))]) (ts':=[(39,.ref 0 0 ((c.map (eI .u32)).length)),(40,.vs 1 (x.map (eI .u32)))]) (Ref2.lessH_ok ae) rfl rfl ?_
 have n:=Option.some.inj l
 subst n
 exact Returns.frozen (r:=.vs 1 (o.map (eI .u32))) [0] rfl rfl (WV.all (k:=0) (by decide) rfl) ⟨rfl,rfl⟩
noncomputable def Ref2.fraction.over_.j0 (d:Int) (a:(List Int)) (b:Int) (e:Bool):Option ((List Int)) :=
 bif e then
 letk (IntKind.i64.wrap (0 - d)) fun c =>
 letk (if c < b then c else b) fun f =>
 Option.bind (Ref2.power f) fun g =>
 Option.bind (Ref2.times a g) fun h =>
 some h
 else
 some a
noncomputable def Ref2.fraction.over_ (b:quadratref02.fraction) (d:ByteArray) (e:Int) (a:Int):Option ((List Int)) :=
 Option.bind (Ref2.fraction.distance (⟨b.sign,b.num,b.den⟩:quadratref02.fraction) d e) fun f =>
 letk ((d.size:Int)) fun g =>
 letk (IntKind.i64.wrap (e - g)) fun h =>
 letk (IntKind.i64.wrap (h - a)) fun c =>
 letk (decide (c > (0:Int))) fun i =>
 bif i then
 letk (decide (a < (0:Int))) fun j =>
 Ref2.fraction.over_.j0 a f c j
 else
 Ref2.fraction.over_.j0 a f c false
theorem Ref2.fraction.over__ok {f:quadratref02.fraction} {g:ByteArray} {h:Int} {a:Int} {r:(List Int)} (i:Ref2.fraction.over_ f g h a = some r):Gives Tryz.prog 90 [quadratref02.fraction.enc f,.lit (.string g),.lit (.int .i64 h),.lit (.int .i64 a)] (.vs 1 (r.map (eI .u32))):=by
 unfold Ref2.fraction.over_ at i
 refine W' [(36,9)] Tryz.func90 ?_
 refine V' (Gate.go (A' i Ref2.fraction.distance_ok fun j l=>N' l fun _ m=>N' m fun _ n=>N' n fun k o=>CutN.of (fun s=>∃ b,Ref2.fraction.over_.j0 a j k b = some r ∧ s = ⟨35,[(3,.lit (.int .i64 a)),(9,.vs 1 (j.map (eI .u32))),(10,.lit (.int .i64 k)),(26,.lit (.bool b))],[]⟩) ?_ ?_))
 refine C' o (fun c=>?_) fun c=>N' c fun _ p=>?_
 exact B' [] ⟨_,c,rfl⟩
 exact B' [] ⟨_,p,rfl⟩
 rintro s ⟨b,d,rfl⟩
 unfold Ref2.fraction.over_.j0 at d
 rcases b with _ | _
 have e:=bif_f d
 exact R' (E:=E24') e
 have e:=bif_t d
 exact N' e fun _ q=>N' q fun _ t=>Gate.go (A' t Ref2.power_ok fun _ u=>Gate.go (A' u Ref2.times_ok fun _ v=>R' (E:=E24') v))
noncomputable def Ref2.nearer (a:quadratref02.fraction) (b:ByteArray) (d:Int) (e:ByteArray) (f:Int):Option Bool :=
 letk ((b.size:Int)) fun k =>
 letk (IntKind.i64.wrap (d - k)) fun g =>
 letk ((e.size:Int)) fun l =>
 letk (IntKind.i64.wrap (f - l)) fun h =>
 letk (if h < g then h else g) fun i =>
 Option.bind (Ref2.fraction.over_ (⟨a.sign,a.num,a.den⟩:quadratref02.fraction) b d i) fun m =>
 Option.bind (Ref2.fraction.over_ (⟨a.sign,a.num,a.den⟩:quadratref02.fraction) e f i) fun n =>
 Option.bind (Ref2.compare m n) fun j =>
 letk (decide (j < (0:Int))) fun o =>
 bif o then
 some true
 else
 letk (j == (0:Int)) fun p =>
 bif p then
 letk ((b.size:Int)) fun q =>
 letk (IntKind.i64.wrap (q - (1:Int))) fun c =>
 chk (0 ≤ c ∧ c < (b.size:Int)) <|
 letk (bt b c) fun r =>
 letk (IntKind.u8.wrap (r - (48:Int))) fun s =>
 chk ((2:Int) ≠ 0) <|
 letk (s.tmod (2:Int)) fun t =>
 letk (t == (0:Int)) fun u =>
 some u
 else
 some false
theorem Ref2.nearer_ok {c:quadratref02.fraction} {d:ByteArray} {f:Int} {g:ByteArray} {h:Int} {r:Bool} (i:Ref2.nearer c d f g h = some r):Gives Tryz.prog 39 [quadratref02.fraction.enc c,.lit (.string d),.lit (.int .i64 f),.lit (.string g),.lit (.int .i64 h)] (.lit (.bool r)):=by
 unfold Ref2.nearer at i
 refine W' [] Tryz.func39 ?_
 refine V' (N' i fun _ j=>N' j fun _ k=>N' k fun _ l=>N' l fun _ m=>N' m fun _ n=>L' [0] [1,2,3,4,5,11] ?_)
 refine DrawB.ofG [none,none,none,none,none,none,none,none,none,none,none,none] Tryz_mixed (by kernel_rfl) (by kernel_rfl) ?_
 exact D' rfl (D' rfl (D' rfl (D' rfl (DC' n (fun e=>Z' (Ref2.fraction.over__ok e) rfl) fun _ o=>D' rfl (D' rfl (D' rfl (D' rfl (DC' o (fun e=>Z' (Ref2.fraction.over__ok e) rfl) fun _ p=>D' rfl (D' rfl (Gate.go (A' p Ref2.compare_ok fun _ q=>C' q (fun a=>C' a (fun b=>R' (E:=E1') b) fun b=>N' b fun _ s=>N' s fun _ t=>S' t fun u=>N' u fun _ v=>N' v fun _ w=>S' w fun x=>N' x fun _ y=>N' y fun _ z=>R' (E:=E1') z) fun a=>R' (E:=E1') a)))))))))))
noncomputable def Ref2.Shortest.s1 (p:Int) (n:Int) (e:Int) (f:Int) (a:Int) (i:List Int) (j:List Int) (b:Int) (c:List Int) (d:List Int) (g:ByteArray) (k:Int) (h:Int):Option ((Int × Int × Int × (List Int) × (List Int) × Int × (List Int) × (List Int) × ByteArray × Int × Int) ⊕ ((Int × Int × Int × (List Int) × (List Int) × Int × (List Int) × (List Int) × Int) ⊕ (Int × ByteArray × Int × Int))) :=
 letk (decide (h ≤ (3:Int))) fun q =>
 bif q then
 Option.bind (Ref2.fraction.digits (⟨b,c,d⟩:quadratref02.fraction) h n) fun (l,m) =>
 letk (IntKind.i64.wrap (m - n)) fun r =>
 Option.bind (Ref2.text.fraction (⟨a,l,r,⟨#[]⟩⟩:quadratref02.text)) fun (o,_) =>
 Option.bind (Ref2.Form.round (⟨e,f⟩:quadratref02.Form) 0 (⟨o.sign,o.num,o.den⟩:quadratref02.fraction)) fun (s,_) =>
 letk (s != p) fun t =>
 bif t then
 letk (IntKind.i64.wrap (h + (2:Int))) fun u =>
 some (.inl (e,f,a,i,j,b,c,d,g,k,u))
 else
 letk (g.toList == (⟨#[]⟩:ByteArray).toList) fun v =>
 bif v then
 letk (IntKind.i64.wrap (h + (2:Int))) fun w =>
 some (.inl (e,f,a,i,j,b,c,d,l,m,w))
 else
 Option.bind (Ref2.nearer (⟨b,c,d⟩:quadratref02.fraction) l m g k) fun x =>
 bif x then
 letk (IntKind.i64.wrap (h + (2:Int))) fun y =>
 some (.inl (e,f,a,i,j,b,c,d,l,m,y))
 else
 letk (IntKind.i64.wrap (h + (2:Int))) fun z =>
 some (.inl (e,f,a,i,j,b,c,d,g,k,z))
 else
 ((
 letk (!(g.toList == (⟨#[]⟩:ByteArray).toList)) fun aa =>
 bif aa then
 some (.inr (a,g,k,0))
 else
 letk (IntKind.i64.wrap (n + (1:Int))) fun ab =>
 some (.inl (e,f,a,i,j,b,c,d,ab)))).map .inr
noncomputable def Ref2.Shortest.l1 (a:Int) (b:Int) (c:Int) (d:Int) (e:Int) (f:List Int) (g:List Int) (h:Int) (i:List Int) (j:List Int) (k:ByteArray) (l:Int) (m:Int):Option ((Int × Int × Int × (List Int) × (List Int) × Int × (List Int) × (List Int) × Int) ⊕ (Int × ByteArray × Int × Int)):=loopO (fun v:Int × Int × Int × (List Int) × (List Int) × Int × (List Int) × (List Int) × ByteArray × Int × Int=>Ref2.Shortest.s1 a b v.1 v.2.1 v.2.2.1 v.2.2.2.1 v.2.2.2.2.1 v.2.2.2.2.2.1 v.2.2.2.2.2.2.1 v.2.2.2.2.2.2.2.1 v.2.2.2.2.2.2.2.2.1 v.2.2.2.2.2.2.2.2.2.1 v.2.2.2.2.2.2.2.2.2.2) (c,d,e,f,g,h,i,j,k,l,m)
theorem Ref2.Shortest.l1_eq (a1:Int) (n12:Int) (f8_0_1:Int) (f8_1_1:Int) (x9_0_1:Int) (x9_1_1:List Int) (x9_2_1:List Int) (x011_0_1:Int) (x011_1_1:List Int) (x011_2_1:List Int) (best13:ByteArray) (at14:Int) (mode15:Int):Ref2.Shortest.l1 a1 n12 f8_0_1 f8_1_1 x9_0_1 x9_1_1 x9_2_1 x011_0_1 x011_1_1 x011_2_1 best13 at14 mode15 = (Ref2.Shortest.s1 a1 n12 f8_0_1 f8_1_1 x9_0_1 x9_1_1 x9_2_1 x011_0_1 x011_1_1 x011_2_1 best13 at14 mode15).bind (Sum.elim (fun v=>Ref2.Shortest.l1 a1 n12 v.1 v.2.1 v.2.2.1 v.2.2.2.1 v.2.2.2.2.1 v.2.2.2.2.2.1 v.2.2.2.2.2.2.1 v.2.2.2.2.2.2.2.1 v.2.2.2.2.2.2.2.2.1 v.2.2.2.2.2.2.2.2.2.1 v.2.2.2.2.2.2.2.2.2.2) some):=loopO_eq _ _
noncomputable def Ref2.Shortest.s0 (a:Int) (b:Int) (c:Int) (d:Int) (e:List Int) (f:List Int) (g:Int) (h:List Int) (i:List Int) (j:Int):Option ((Int × Int × Int × (List Int) × (List Int) × Int × (List Int) × (List Int) × Int) ⊕ (Int × ByteArray × Int × Int)) :=
 Ref2.Shortest.l1 a j b c d e f g h i (⟨#[]⟩) 0 1
noncomputable def Ref2.Shortest.l0 (a:Int) (b:Int) (c:Int) (d:Int) (e:List Int) (f:List Int) (g:Int) (h:List Int) (i:List Int) (j:Int):Option (Int × ByteArray × Int × Int):=loopO (fun v:Int × Int × Int × (List Int) × (List Int) × Int × (List Int) × (List Int) × Int=>Ref2.Shortest.s0 a v.1 v.2.1 v.2.2.1 v.2.2.2.1 v.2.2.2.2.1 v.2.2.2.2.2.1 v.2.2.2.2.2.2.1 v.2.2.2.2.2.2.2.1 v.2.2.2.2.2.2.2.2) (b,c,d,e,f,g,h,i,j)
theorem Ref2.Shortest.l0_eq (a1:Int) (f8_0:Int) (f8_1:Int) (x9_0:Int) (x9_1:List Int) (x9_2:List Int) (x011_0:Int) (x011_1:List Int) (x011_2:List Int) (n12:Int):Ref2.Shortest.l0 a1 f8_0 f8_1 x9_0 x9_1 x9_2 x011_0 x011_1 x011_2 n12 = (Ref2.Shortest.s0 a1 f8_0 f8_1 x9_0 x9_1 x9_2 x011_0 x011_1 x011_2 n12).bind (Sum.elim (fun v=>Ref2.Shortest.l0 a1 v.1 v.2.1 v.2.2.1 v.2.2.2.1 v.2.2.2.2.1 v.2.2.2.2.2.1 v.2.2.2.2.2.2.1 v.2.2.2.2.2.2.2.1 v.2.2.2.2.2.2.2.2) some):=loopO_eq _ _
noncomputable def Ref2.Shortest (d:Int) (b:Int):Option (Int × ByteArray × Int × Int) :=
 Option.bind (Ref2.asked d 0 b) fun (c,a,e) =>
 letk (!e) fun f =>
 bif f then
 some (0,⟨#[]⟩,0,2)
 else
 Ref2.Shortest.l0 b c.P c.W a.sign a.num a.den 0 a.num a.den 1
theorem Ref2.Shortest_ok {p:Int} {a:Int} {r:Int × ByteArray × Int × Int} (q:Ref2.Shortest p a = some r):Gives Tryz.prog 12 [.lit (.int .i64 p),.lit (.int .i64 a)] (.tup [.lit (.int .i64 r.1),.lit (.string r.2.1),.lit (.int .i64 r.2.2.1),.lit (.int .i64 r.2.2.2)]):=by
 unfold Ref2.Shortest at q
 refine W' [] Tryz.func12 ?_
 obtain ⟨⟨s,b,_⟩,af,h1⟩:=bind_elim q
 refine Gate.go (Z' (Ref2.asked_ok af) (V' (V' (V' (V' (C' h1 (fun d=>V' (V' (V' ?_))) fun d=>R' (E:=E20') d))))))
 unfold Ref2.Shortest.l0 at d
 refine LoopB.of (σ:=Int × Int × Int × (List Int) × (List Int) × Int × (List Int) × (List Int) × Int) (ρ:=Int × ByteArray × Int × Int) (fun v:Int × Int × Int × (List Int) × (List Int) × Int × (List Int) × (List Int) × Int=>Ref2.Shortest.s0 a v.1 v.2.1 v.2.2.1 v.2.2.2.1 v.2.2.2.2.1 v.2.2.2.2.2.1 v.2.2.2.2.2.2.1 v.2.2.2.2.2.2.2.1 v.2.2.2.2.2.2.2.2) (fun v=>(⟨84,[(1,.lit (.int .i64 a)),(8,.ptr 0 0),(9,.ptr 1 0),(11,.ptr 2 0),(12,.lit (.int .i64 v.2.2.2.2.2.2.2.2))],[.box [.lit (.int .i64 v.1),.lit (.int .i64 v.2.1)],.box [.lit (.int .i64 v.2.2.1),.vs 1 (v.2.2.2.1.map (eI .u32)),.vs 1 (v.2.2.2.2.1.map (eI .u32))],.box [.lit (.int .i64 v.2.2.2.2.2.1),.vs 1 (v.2.2.2.2.2.2.1.map (eI .u32)),.vs 1 (v.2.2.2.2.2.2.2.1.map (eI .u32))]]⟩:St)) (s.P,s.W,b.sign,b.num,b.den,0,b.num,b.den,1) d (B' [0,1,2] rfl) ?_
 rintro _ ⟨t,u,w,x,y,z,aa,ab,e⟩ x1 c ag ah
 replace c:Ref2.Shortest.s0 a t u w x y z aa ab e = some x1:=c
 unfold Ref2.Shortest.s0 at c
 unfold Ref2.Shortest.l1 at c
 refine LoopB.of (σ:=Int × Int × Int × (List Int) × (List Int) × Int × (List Int) × (List Int) × ByteArray × Int × Int) (ρ:=(Int × Int × Int × (List Int) × (List Int) × Int × (List Int) × (List Int) × Int) ⊕ (Int × ByteArray × Int × Int)) (fun v:Int × Int × Int × (List Int) × (List Int) × Int × (List Int) × (List Int) × ByteArray × Int × Int=>Ref2.Shortest.s1 a e v.1 v.2.1 v.2.2.1 v.2.2.2.1 v.2.2.2.2.1 v.2.2.2.2.2.1 v.2.2.2.2.2.2.1 v.2.2.2.2.2.2.2.1 v.2.2.2.2.2.2.2.2.1 v.2.2.2.2.2.2.2.2.2.1 v.2.2.2.2.2.2.2.2.2.2) (fun v=>(⟨84,[(1,.lit (.int .i64 a)),(8,.ptr 0 0),(9,.ptr 1 0),(11,.ptr 2 0),(12,.lit (.int .i64 e)),(13,.lit (.string v.2.2.2.2.2.2.2.2.1)),(14,.lit (.int .i64 v.2.2.2.2.2.2.2.2.2.1)),(15,.lit (.int .i64 v.2.2.2.2.2.2.2.2.2.2))],[.box [.lit (.int .i64 v.1),.lit (.int .i64 v.2.1)],.box [.lit (.int .i64 v.2.2.1),.vs 1 (v.2.2.2.1.map (eI .u32)),.vs 1 (v.2.2.2.2.1.map (eI .u32))],.box [.lit (.int .i64 v.2.2.2.2.2.1),.vs 1 (v.2.2.2.2.2.2.1.map (eI .u32)),.vs 1 (v.2.2.2.2.2.2.2.1.map (eI .u32))]]⟩:St)) (t,u,w,x,y,z,aa,ab,⟨#[]⟩,0,1) c (B' [0,1,2] rfl) ?_
 rintro _ ⟨ai,aj,ac,ak,al,am,an,ao,ad,ae,ap⟩ x2 f g aq
 replace f:Ref2.Shortest.s1 a e ai aj ac ak al am an ao ad ae ap = some x2:=f
 unfold Ref2.Shortest.s1 at f
 refine C' f (fun i=>?_) fun i=>?_
 obtain ⟨_,ar,j⟩:=map_elim i
 have j:=(aq _ j.symm).symm
 subst j
 refine C' ar (fun k=>N' k fun _ au=>?_) fun k=>?_
 exact B' [0,1,2] ⟨_,ag _ (Option.some.inj au).symm,rfl⟩
 have av:=ah _ (Option.some.inj k).symm
 subst av
 exact Returns.pure (r:=.tup [.lit (.int .i64 ac),.lit (.string ad),.lit (.int .i64 ae),.lit (.int .i64 0)]) rfl rfl rfl rfl ⟨rfl,rfl⟩
 obtain ⟨⟨_,_⟩,aw,ax⟩:=bind_elim i
 refine Gate.go (Z' (Ref2.fraction.digits_ok aw) (N' ax fun _ ay=>Gate.go (V' ?_)))
 obtain ⟨⟨_,_⟩,az,ba⟩:=bind_elim ay
 refine Gate.go (Z' (Ref2.text.fraction_ok az) (V' (V' ?_)))
 obtain ⟨⟨_,_⟩,bb,bc⟩:=bind_elim ba
 refine Gate.go (Z' (Ref2.Form.round_ok bb) (C' bc (fun l=>C' l (fun m=>Gate.go (A' m Ref2.nearer_ok fun bd h=>?_)) fun m=>N' m fun _ h=>?_) fun l=>N' l fun _ be=>?_))
 rcases bd with _ | _
 have n:=bif_f h
 refine N' n fun _ o=>?_
 exact B' [0,1,2] ⟨_,g _ (Option.some.inj o).symm,rfl⟩
 have n:=bif_t h
 refine N' n fun _ o=>?_
 exact B' [0,1,2] ⟨_,g _ (Option.some.inj o).symm,rfl⟩
 exact B' [0,1,2] ⟨_,g _ (Option.some.inj h).symm,rfl⟩
 exact B' [0,1,2] ⟨_,g _ (Option.some.inj be).symm,rfl⟩
noncomputable def Ref2.Form.special (a:quadratref02.Form) (b:Int):Option (ByteArray × Bool) :=
 Option.bind (Ref2.Form.parts (⟨a.P,a.W⟩:quadratref02.Form) b) fun (c,d,e) =>
 Option.bind (Ref2.Form.top (⟨a.P,a.W⟩:quadratref02.Form)) fun f =>
 letk (decide (d < f)) fun g =>
 bif g then
 some (⟨#[]⟩,false)
 else
 letk (e != (0:Int)) fun h =>
 bif h then
 some (⟨#[110,97,110]⟩,true)
 else
 letk (c == (1:Int)) fun i =>
 bif i then
 some (⟨#[45,105,110,102]⟩,true)
 else
 some (⟨#[105,110,102]⟩,true)
theorem Ref2.Form.special_ok {d:quadratref02.Form} {e:Int} {r:ByteArray × Bool} (f:Ref2.Form.special d e = some r):Gives Tryz.prog 49 [quadratref02.Form.enc d,.lit (.int .i64 e)] (.tup [.lit (.string r.1),.lit (.bool r.2)]):=by
 unfold Ref2.Form.special at f
 refine W' [] Tryz.func49 ?_
 refine V' ?_
 obtain ⟨⟨_,_,_⟩,g,h⟩:=bind_elim f
 exact Gate.go (Z' (Ref2.Form.parts_ok g) (Gate.go (A' h Ref2.Form.top_ok fun _ i=>C' i (fun a=>C' a (fun b=>C' b (fun c=>R' (E:=E16') c) fun c=>R' (E:=E16') c) fun b=>R' (E:=E16') b) fun a=>R' (E:=E16') a)))
noncomputable def Ref2.Form.minus (a:quadratref02.Form) (b:Int):Option ByteArray :=
 Option.bind (Ref2.Form.parts (⟨a.P,a.W⟩:quadratref02.Form) b) fun (c,_,_) =>
 letk (c == (1:Int)) fun d =>
 bif d then
 some ⟨#[45]⟩
 else
 some ⟨#[]⟩
theorem Ref2.Form.minus_ok {b:quadratref02.Form} {c:Int} {r:ByteArray} (d:Ref2.Form.minus b c = some r):Gives Tryz.prog 50 [quadratref02.Form.enc b,.lit (.int .i64 c)] (.lit (.string r)):=by
 unfold Ref2.Form.minus at d
 refine W' [] Tryz.func50 ?_
 refine V' ?_
 obtain ⟨⟨_,_,_⟩,e,f⟩:=bind_elim d
 exact Gate.go (Z' (Ref2.Form.parts_ok e) (C' f (fun a=>R' (E:=E4') a) fun a=>R' (E:=E4') a))
structure Rec51 where
  f51:Int → Option ByteArray
structure Rec51.Ok (R:Rec51):Prop where
  f51_ok:∀ {n0:Int} {r:ByteArray},R.f51 n0 = some r → Gives Tryz.prog 51 [.lit (.int .i64 n0)] (.lit (.string r))
noncomputable def Ref2.whole.F (R:Rec51) (a:Int):Option ByteArray :=
 letk (decide (a < (0:Int))) fun f =>
 bif f then
 letk (IntKind.i64.wrap (0 - a)) fun g =>
 Option.bind (R.f51 g) fun c =>
 chk ((((⟨#[45]⟩:ByteArray).size + c.size:Nat):Int) ≤ 9223372036854775807) <|
 letk ((⟨#[45]⟩:ByteArray) ++ c) fun h =>
 some h
 else
 letk (decide (a < (10:Int))) fun i =>
 bif i then
 letk (IntKind.i64.wrap (a + (1:Int))) fun b =>
 chk (0 ≤ a ∧ a ≤ b ∧ b ≤ ((⟨#[48,49,50,51,52,53,54,55,56,57]⟩:ByteArray).size:Int)) <|
 letk ((⟨#[48,49,50,51,52,53,54,55,56,57]⟩:ByteArray).extract a.toNat b.toNat) fun j =>
 some j
 else
 chk ((10:Int) ≠ 0) <|
 letk (IntKind.i64.wrap (a.tdiv (10:Int))) fun k =>
 Option.bind (R.f51 k) fun d =>
 chk ((10:Int) ≠ 0) <|
 letk (a.tmod (10:Int)) fun l =>
 Option.bind (R.f51 l) fun e =>
 chk (((d.size + e.size:Nat):Int) ≤ 9223372036854775807) <|
 letk (d ++ e) fun m =>
 some m
theorem Ref2.whole.F_ok {R:Rec51} {g:Int} {r:ByteArray} (d:Rec51.Ok R) (h:Ref2.whole.F R g = some r):Gives Tryz.prog 51 [.lit (.int .i64 g)] (.lit (.string r)):=by
 unfold Ref2.whole.F at h
 refine W' [] Tryz.func51 ?_
 refine C' h (fun e=>C' e (fun a=>?_) fun a=>N' a fun _ b=>S' b fun c=>N' c fun _ f=>R' (E:=E4') f) fun e=>N' e fun _ i=>Gate.go (A' i d.f51_ok fun _ a=>S' a fun b=>N' b fun _ c=>R' (E:=E4') c)
 obtain ⟨j,b⟩:=chk_elim a
 obtain ⟨k,l,c⟩:=letk_elim b
 refine Side.mk j ?_
 refine Nm.mk ⟨k,l,?_⟩
 exact Gate.go (A' c d.f51_ok fun _ f=>S' f fun m=>N' m fun _ n=>Gate.go (A' n d.f51_ok fun _ o=>S' o fun p=>N' p fun _ q=>R' (E:=E4') q))
noncomputable def Rec51.at_:Nat → Rec51
 | 0=>⟨fun _=>none⟩
 | k + 1=>⟨Ref2.whole.F (Rec51.at_ k)⟩
theorem Rec51.at_ok:∀ k,Rec51.Ok (Rec51.at_ k)
  | 0=>⟨fun h=>by cases h⟩
  | k + 1=>⟨fun h=>Ref2.whole.F_ok (Rec51.at_ok k) h⟩
noncomputable def Ref2.whole (a:Int):Option ByteArray:=(Rec51.at_ 100000000).f51 a
theorem Ref2.whole_ok {n0:Int} {r:ByteArray} (h0:Ref2.whole n0 = some r):Gives Tryz.prog 51 [.lit (.int .i64 n0)] (.lit (.string r)):=(Rec51.at_ok _).f51_ok h0
noncomputable def Ref2.Plain.j3 (a:ByteArray) (b:ByteArray) (c:ByteArray):Option (ByteArray × Int) :=
 chk (((a.size + b.size:Nat):Int) ≤ 9223372036854775807) <|
 letk (a ++ b) fun d =>
 chk (((d.size + (⟨#[46]⟩:ByteArray).size:Nat):Int) ≤ 9223372036854775807) <|
 letk (d ++ (⟨#[46]⟩:ByteArray)) fun e =>
 chk (((e.size + c.size:Nat):Int) ≤ 9223372036854775807) <|
 letk (e ++ c) fun f =>
 some (f,0)
noncomputable def Ref2.Plain.j2 (a:ByteArray) (b:ByteArray) (c:ByteArray):Option (ByteArray × Int) :=
 letk (b.toList == (⟨#[]⟩:ByteArray).toList) fun d =>
 bif d then
 Ref2.Plain.j3 a c (⟨#[48]⟩)
 else
 Ref2.Plain.j3 a c b
noncomputable def Ref2.Plain.s1 (c:ByteArray) (b:ByteArray) (a:Int):Option ((ByteArray × Int) ⊕ (ByteArray × Int)) :=
 letk (decide (a < (0:Int))) fun f =>
 bif f then
 chk ((((⟨#[48]⟩:ByteArray).size + b.size:Nat):Int) ≤ 9223372036854775807) <|
 letk ((⟨#[48]⟩:ByteArray) ++ b) fun g =>
 letk (IntKind.i64.wrap (a + (1:Int))) fun h =>
 some (.inl (g,h))
 else
 ((
 chk (0 ≤ a ∧ a ≤ (b.size:Int)) <|
 letk (b.extract 0 a.toNat) fun d =>
 chk (0 ≤ a ∧ a ≤ (b.size:Int)) <|
 letk (b.extract a.toNat b.size) fun e =>
 letk (d.toList == (⟨#[]⟩:ByteArray).toList) fun i =>
 bif i then
 Ref2.Plain.j2 c e (⟨#[48]⟩)
 else
 Ref2.Plain.j2 c e d)).map .inr
noncomputable def Ref2.Plain.l1 (a:ByteArray) (b:ByteArray) (c:Int):Option (ByteArray × Int):=loopO (fun v:ByteArray × Int=>Ref2.Plain.s1 a v.1 v.2) (b,c)
theorem Ref2.Plain.l1_eq (t55:ByteArray) (s11_1:ByteArray) (x12:Int):Ref2.Plain.l1 t55 s11_1 x12 = (Ref2.Plain.s1 t55 s11_1 x12).bind (Sum.elim (fun v=>Ref2.Plain.l1 t55 v.1 v.2) some):=loopO_eq _ _
noncomputable def Ref2.Plain.s0 (b:Int) (c:ByteArray) (a:ByteArray):Option (ByteArray ⊕ (ByteArray × Int)) :=
 letk ((a.size:Int)) fun d =>
 letk (decide (d < b)) fun e =>
 bif e then
 chk (((a.size + (⟨#[48]⟩:ByteArray).size:Nat):Int) ≤ 9223372036854775807) <|
 letk (a ++ (⟨#[48]⟩:ByteArray)) fun f =>
 some (.inl f)
 else
 (Ref2.Plain.l1 c a b).map .inr
noncomputable def Ref2.Plain.l0 (a:Int) (b:ByteArray) (c:ByteArray):Option (ByteArray × Int):=loopO (fun v:ByteArray=>Ref2.Plain.s0 a b v) c
theorem Ref2.Plain.l0_eq (t42_2:Int) (t55:ByteArray) (s11:ByteArray):Ref2.Plain.l0 t42_2 t55 s11 = (Ref2.Plain.s0 t42_2 t55 s11).bind (Sum.elim (fun v=>Ref2.Plain.l0 t42_2 t55 v) some):=loopO_eq _ _
noncomputable def Ref2.Plain.j1 (a:ByteArray) (b:Int) (c:ByteArray):Option (ByteArray × Int) :=
 Ref2.Plain.l0 b c a
noncomputable def Ref2.Plain.j5 (a:ByteArray) (j:Int) (b:ByteArray) (c:ByteArray):Option (ByteArray × Int) :=
 chk (0 ≤ (1:Int) ∧ (1:Int) ≤ (a.size:Int)) <|
 letk (a.extract 0 ((1:Int).toNat)) fun d =>
 chk (((b.size + d.size:Nat):Int) ≤ 9223372036854775807) <|
 letk (b ++ d) fun e =>
 chk (((e.size + (⟨#[46]⟩:ByteArray).size:Nat):Int) ≤ 9223372036854775807) <|
 letk (e ++ (⟨#[46]⟩:ByteArray)) fun f =>
 chk (((f.size + c.size:Nat):Int) ≤ 9223372036854775807) <|
 letk (f ++ c) fun g =>
 chk (((g.size + (⟨#[69]⟩:ByteArray).size:Nat):Int) ≤ 9223372036854775807) <|
 letk (g ++ (⟨#[69]⟩:ByteArray)) fun h =>
 letk (IntKind.i64.wrap (j - (1:Int))) fun k =>
 Option.bind (Ref2.whole k) fun i =>
 chk (((h.size + i.size:Nat):Int) ≤ 9223372036854775807) <|
 letk (h ++ i) fun l =>
 some (l,0)
noncomputable def Ref2.Plain.j4 (a:ByteArray) (b:Int) (c:ByteArray) (e:Bool):Option (ByteArray × Int) :=
 bif e then
 chk (0 ≤ (1:Int) ∧ (1:Int) ≤ (a.size:Int)) <|
 letk (a.extract (1:Int).toNat a.size) fun d =>
 letk (d.toList == (⟨#[]⟩:ByteArray).toList) fun f =>
 bif f then
 Ref2.Plain.j5 a b c (⟨#[48]⟩)
 else
 Ref2.Plain.j5 a b c d
 else
 Ref2.Plain.j1 a b c
noncomputable def Ref2.Plain.j0 (h:Int) (a:Int) (c:Int) (d:Int):Option (ByteArray × Int) :=
 Option.bind (Ref2.Form.special (⟨c,d⟩:quadratref02.Form) a) fun (i,j) =>
 bif j then
 some (i,0)
 else
 Option.bind (Ref2.Shortest h a) fun (_,e,b,k) =>
 letk (k != (0:Int)) fun l =>
 bif l then
 Option.bind (Ref2.Form.minus (⟨c,d⟩:quadratref02.Form) a) fun f =>
 chk (((f.size + (⟨#[48,46,48]⟩:ByteArray).size:Nat):Int) ≤ 9223372036854775807) <|
 letk (f ++ (⟨#[48,46,48]⟩:ByteArray)) fun m =>
 some (m,0)
 else
 Option.bind (Ref2.Form.minus (⟨c,d⟩:quadratref02.Form) a) fun g =>
 letk (decide (b < ((-3):Int))) fun n =>
 bif n then
 Ref2.Plain.j4 e b g true
 else
 letk (decide (b > (9:Int))) fun o =>
 Ref2.Plain.j4 e b g o
noncomputable def Ref2.Plain (a:Int) (b:Int):Option (ByteArray × Int) :=
 Option.bind (Ref2.FormOf a) fun (c,d) =>
 letk (!d) fun e =>
 bif e then
 some (⟨#[]⟩,2)
 else
 Option.bind (Ref2.isBits a b) fun f =>
 letk (!f) fun g =>
 bif g then
 some (⟨#[]⟩,2)
 else
 Ref2.Plain.j0 a b c.P c.W
theorem Ref2.Plain_ok {n:Int} {o:Int} {r:ByteArray × Int} (h0:Ref2.Plain n o = some r):Gives Tryz.prog 14 [.lit (.int .i64 n),.lit (.int .i64 o)] (.tup [.lit (.string r.1),.lit (.int .i64 r.2)]):=by
 unfold Ref2.Plain at h0
 refine W' [(0,4),(1,0),(0,23),(0,25),(71,25),(0,15)] Tryz.func14 ?_
 obtain ⟨⟨_,_⟩,ar,h1⟩:=bind_elim h0
 refine Gate.go (Z' (Ref2.FormOf_ok ar) (V' (V' (CutN.of (fun s=>∃ u w,Ref2.Plain.j0 n o u w = some r ∧ s = ⟨106,[(0,.lit (.int .i64 n)),(1,.lit (.int .i64 o)),(6,.ptr 0 0)],[.box [.lit (.int .i64 u),.lit (.int .i64 w)]]⟩) ?_ ?_))))
 refine C' h1 (fun x=>Gate.go (A' x Ref2.isBits_ok fun _ h4=>C' h4 (fun y=>?_) fun y=>R' (E:=E19') y)) fun x=>R' (E:=E19') x
 exact B' [0] ⟨_,_,y,rfl⟩
 rintro s ⟨u,w,a,rfl⟩
 unfold Ref2.Plain.j0 at a
 obtain ⟨⟨_,au⟩,av,g⟩:=bind_elim a
 refine Gate.go (Z' (Ref2.Form.special_ok av) ?_)
 rcases au with _ | _
 have d:=bif_f g
 obtain ⟨⟨_,i,h,_⟩,aw,j⟩:=bind_elim d
 refine Gate.go (Z' (Ref2.Shortest_ok aw) (C' j (fun f=>Gate.go (A' f Ref2.Form.minus_ok fun b k=>CutN.of (fun s=>Ref2.Plain.j1 i h b = some r ∧ s = ⟨106,[(11,.lit (.string i)),(12,.lit (.int .i64 h)),(14,.lit (.string b))],[]⟩) ?_ ?_)) fun f=>Gate.go (A' f Ref2.Form.minus_ok fun _ k=>S' k fun z=>N' z fun _ l=>R' (E:=E19') l)))
 refine CutN.of (fun s=>∃ p,Ref2.Plain.j4 i h b p = some r ∧ s = ⟨106,[(11,.lit (.string i)),(12,.lit (.int .i64 h)),(14,.lit (.string b)),(61,.lit (.bool p))],[]⟩) ?_ ?_
 refine C' k (fun l=>N' l fun _ ax=>?_) fun l=>?_
 exact B' [] ⟨_,ax,rfl⟩
 exact B' [] ⟨_,l,rfl⟩
 rintro s ⟨p,a,rfl⟩
 unfold Ref2.Plain.j4 at a
 rcases p with _ | _
 have g:=bif_f a
 exact B' [] ⟨g,rfl⟩
 have g:=bif_t a
 refine S' g fun d=>N' d fun _ j=>CutN.of (fun s=>∃ aa,Ref2.Plain.j5 i h b aa = some r ∧ s = ⟨106,[(11,.lit (.string i)),(12,.lit (.int .i64 h)),(14,.lit (.string b)),(15,.lit (.string aa))],[]⟩) ?_ ?_
 refine C' j (fun f=>?_) fun f=>?_
 exact B' [] ⟨_,f,rfl⟩
 exact B' [] ⟨_,f,rfl⟩
 rintro s ⟨aa,a,rfl⟩
 unfold Ref2.Plain.j5 at a
 refine L' [] [11,12,14,15] ?_
 refine DrawB.ofG [none,none,none,none,none,none,none,none,none,none,none,none,none,none] Tryz_mixed (by kernel_rfl) (by kernel_rfl) ?_
 refine D' rfl (D' rfl ?_)
 obtain ⟨ay,g⟩:=chk_elim a
 obtain ⟨ak,az,d⟩:=letk_elim g
 refine DNodeB.of (.lit (.string ak)) ?_ ?_
 refine Side.mk ay ?_
 refine Nm.mk ⟨ak,az,?_⟩
 rfl
 obtain ⟨ba,j⟩:=chk_elim d
 obtain ⟨al,bb,ab⟩:=letk_elim j
 refine DNodeB.of (.lit (.string al)) ?_ ?_
 refine Side.mk ba ?_
 refine Nm.mk ⟨al,bb,?_⟩
 rfl
 obtain ⟨bc,f⟩:=chk_elim ab
 obtain ⟨am,bd,k⟩:=letk_elim f
 refine DNodeB.of (.lit (.string am)) ?_ ?_
 refine Side.mk bc ?_
 refine Nm.mk ⟨am,bd,?_⟩
 rfl
 refine D' rfl ?_
 obtain ⟨be,z⟩:=chk_elim k
 obtain ⟨an,bf,l⟩:=letk_elim z
 refine DNodeB.of (.lit (.string an)) ?_ ?_
 refine Side.mk be ?_
 refine Nm.mk ⟨an,bf,?_⟩
 rfl
 exact DS' l (fun c e=>Side.mk c (n' e rfl)) fun _ bg=>D' rfl (DN' bg (fun e=>n' e rfl) fun _ bh=>DC' bh (fun e=>Z' (Ref2.whole_ok e) rfl) fun _ bi=>DS' bi (fun c e=>Side.mk c (n' e rfl)) fun _ bj=>D' rfl (D' rfl (R' (E:=E19') bj)))
 rintro s ⟨a,rfl⟩
 unfold Ref2.Plain.j1 at a
 unfold Ref2.Plain.l0 at a
 refine LoopB.of (σ:=ByteArray) (ρ:=ByteArray × Int) (fun v:ByteArray=>Ref2.Plain.s0 h b v) (fun v=>(⟨106,[(11,.lit (.string v)),(12,.lit (.int .i64 h)),(14,.lit (.string b))],[]⟩:St)) i a (B' [] rfl) ?_
 rintro K1 ao x1 q ac ad
 replace q:Ref2.Plain.s0 h b ao = some x1:=q
 unfold Ref2.Plain.s0 at q
 refine N' q fun _ bk=>C' bk (fun ae=>?_) fun ae=>S' ae fun bl=>N' bl fun _ bm=>?_
 obtain ⟨_,ap,af⟩:=map_elim ae
 have af:=(ad _ af.symm).symm
 subst af
 unfold Ref2.Plain.l1 at ap
 refine LoopB.of (σ:=ByteArray × Int) (ρ:=ByteArray × Int) (fun v:ByteArray × Int=>Ref2.Plain.s1 b v.1 v.2) (fun v=>(⟨106,[(11,.lit (.string v.1)),(12,.lit (.int .i64 v.2)),(14,.lit (.string b))],[]⟩:St)) (ao,h) ap (B' [] rfl) ?_
 rintro K1 ⟨bn,bo⟩ x1 t ac ad
 replace t:Ref2.Plain.s1 b bn bo = some x1:=t
 unfold Ref2.Plain.s1 at t
 refine C' t (fun ag=>?_) fun ag=>S' ag fun bp=>N' bp fun _ bq=>N' bq fun _ br=>?_
 obtain ⟨_,bs,ah⟩:=map_elim ag
 have ah:=(ad _ ah.symm).symm
 subst ah
 refine DrawB.ofG [none,none,none,none,none,none,none,none] Tryz_mixed (by kernel_rfl) (by kernel_rfl) ?_
 refine D' rfl (D' rfl (DS' bs (fun c e=>Side.mk c (n' e rfl)) fun _ bt=>D' rfl (D' rfl (DS' bt (fun c e=>Side.mk c (n' e rfl)) fun aq bu=>D' rfl (D' rfl (CutN.of (fun s=>∃ m,Ref2.Plain.j2 b aq m = some r ∧ s = ⟨106,[(14,.lit (.string b)),(16,.lit (.string m)),(17,.lit (.string aq))],[]⟩) ?_ ?_))))))
 refine C' bu (fun ai=>?_) fun ai=>?_
 exact B' [] ⟨_,ai,rfl⟩
 exact B' [] ⟨_,ai,rfl⟩
 rintro s ⟨m,a,rfl⟩
 unfold Ref2.Plain.j2 at a
 refine CutN.of (fun s=>∃ aj,Ref2.Plain.j3 b m aj = some r ∧ s = ⟨106,[(14,.lit (.string b)),(16,.lit (.string m)),(17,.lit (.string aj))],[]⟩) ?_ ?_
 refine C' a (fun d=>?_) fun d=>?_
 exact B' [] ⟨_,d,rfl⟩
 exact B' [] ⟨_,d,rfl⟩
 rintro s ⟨aj,a,rfl⟩
 unfold Ref2.Plain.j3 at a
 exact S' a fun g=>N' g fun _ d=>S' d fun j=>N' j fun _ ab=>S' ab fun f=>N' f fun _ k=>R' (E:=E19') k
 exact B' [] ⟨_,ac _ (Option.some.inj br).symm,rfl⟩
 exact B' [] ⟨_,ac _ (Option.some.inj bm).symm,rfl⟩
 have d:=bif_t g
 exact R' (E:=E19') d
noncomputable def Law2.DecimalShortest.j0 (a:Int) (b:Int):Option Bool :=
 Option.bind (Dec.Plain a b) fun (c,d) =>
 Option.bind (Ref2.Plain a b) fun (e,f) =>
 letk (c.toList == e.toList) fun g =>
 bif g then
 letk (d == f) fun h =>
 bif h then
 Option.bind (Law2.Awake) fun i =>
 some i
 else
 some false
 else
 some false
noncomputable def Law2.DecimalShortest (a:Int) (b:Int):Option Bool :=
 Option.bind (Dec.Shortest a b) fun (c,d,e,f) =>
 Option.bind (Ref2.Shortest a b) fun (g,h,i,j) =>
 letk (c != g) fun k =>
 bif k then
 some false
 else
 letk (!(d.toList == h.toList)) fun l =>
 bif l then
 some false
 else
 letk (e != i) fun m =>
 bif m then
 some false
 else
 letk (f != j) fun n =>
 bif n then
 some false
 else
 Law2.DecimalShortest.j0 a b
theorem Law2.DecimalShortest_ok {a:Int} {b:Int} {r:Bool} (i:Law2.DecimalShortest a b = some r):Gives Tryz.prog 3 [.lit (.int .i64 a),.lit (.int .i64 b)] (.lit (.bool r)):=by
 unfold Law2.DecimalShortest at i
 refine W' [(0,5)] Tryz.func3 ?_
 obtain ⟨⟨_,_,_,_⟩,k,l⟩:=bind_elim i
 refine Gate.go (Z' (Dec.Shortest_ok k) ?_)
 obtain ⟨⟨_,_,_,_⟩,m,n⟩:=bind_elim l
 refine Gate.go (Z' (Ref2.Shortest_ok m) (CutN.of (fun s=>Law2.DecimalShortest.j0 a b = some r ∧ s = ⟨74,[(0,.lit (.int .i64 a)),(1,.lit (.int .i64 b))],[]⟩) ?_ ?_))
 refine C' n (fun c=>C' c (fun d=>C' d (fun e=>C' e (fun f=>?_) fun f=>R' (E:=E1') f) fun e=>R' (E:=E1') e) fun d=>R' (E:=E1') d) fun c=>R' (E:=E1') c
 exact B' [] ⟨f,rfl⟩
 rintro s ⟨j,rfl⟩
 unfold Law2.DecimalShortest.j0 at j
 obtain ⟨⟨_,_⟩,o,p⟩:=bind_elim j
 refine Gate.go (Z' (Dec.Plain_ok o) ?_)
 obtain ⟨⟨_,_⟩,q,t⟩:=bind_elim p
 exact Gate.go (Z' (Ref2.Plain_ok q) (C' t (fun g=>R' (E:=E1') g) fun g=>C' g (fun h=>R' (E:=E1') h) fun h=>Gate.go (A' h Law2.Awake_ok fun _ u=>R' (E:=E1') u)))
end Go.Q
