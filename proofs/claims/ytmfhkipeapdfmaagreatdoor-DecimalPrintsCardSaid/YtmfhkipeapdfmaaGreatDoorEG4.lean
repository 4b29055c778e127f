import Derived.Test.YtmfhkipeapdfmaaGreatDoorEG3
import Derived.Test.YtmfhkipeapdfmaaGreatDoorFX
import Derived.Test.YtmfhkipeapdfmaaGreatDoorFY
import Derived.Test.YtmfhkipeapdfmaaGreatDoorProg
namespace Go.Q
open Go Go.Proofs
set_option maxRecDepth 10000
set_option maxHeartbeats 2000000
noncomputable def Ref2.fraction.scaled.j0 (c:Int) (d:Int) (_:List Int) (_:List Int) (f:List Int) (b:List Int):Option ((List Int)) :=
 Option.bind (Ref2.divide f b) fun (a,e) =>
 letk ((a.length:Int)) fun g =>
 letk (decide (g > (0:Int))) fun h =>
 bif h then
 chk (0 ≤ (0:Int)) <|
 Option.bind (a[(0:Int).toNat]?) fun i =>
 chk ((2:Int) ≠ 0) <|
 letk (i.tmod (2:Int)) fun j =>
 letk (j == (1:Int)) fun k =>
 Option.bind (Ref2.away c d k e b) fun l =>
 bif l then
 Option.bind (Ref2.plus a 1) fun m =>
 some m
 else
 some a
 else
 Option.bind (Ref2.away c d false e b) fun n =>
 bif n then
 Option.bind (Ref2.plus a 1) fun o =>
 some o
 else
 some a
noncomputable def Ref2.fraction.scaled (a:quadratref02.fraction) (c:Int) (b:Int):Option ((List Int)) :=
 letk (decide (b ≥ (0:Int))) fun d =>
 bif d then
 Option.bind (Ref2.power b) fun e =>
 Option.bind (Ref2.times a.num e) fun f =>
 Ref2.fraction.scaled.j0 c a.sign a.num a.den f a.den
 else
 letk (IntKind.i64.wrap (0 - b)) fun g =>
 Option.bind (Ref2.power g) fun h =>
 Option.bind (Ref2.times a.den h) fun i =>
 Ref2.fraction.scaled.j0 c a.sign a.num a.den a.num i
theorem Ref2.fraction.scaled_ok {p:quadratref02.fraction} {b:Int} {q:Int} {r:(List Int)} (t:Ref2.fraction.scaled p b q = some r):Gives Tryz.prog 67 [quadratref02.fraction.enc p,.lit (.int .i64 b),.lit (.int .i64 q)] (.vs 1 (r.map (eI .u32))):=by
 unfold Ref2.fraction.scaled at t
 refine W' [(0,5)] Tryz.func67 ?_
 refine V' (DrawB.ofG [none,none,none,none,none,none] Tryz_mixed (by kernel_rfl) (by kernel_rfl) ?_)
 refine D' rfl (D' rfl (D' rfl (D' rfl (D' rfl (D' rfl (CutN.of (fun s=>∃ f g h i j,Ref2.fraction.scaled.j0 b f g h i j = some r ∧ s = ⟨51,[(1,.lit (.int .i64 b)),(3,.ptr 0 0),(7,.vs 1 (i.map (eI .u32))),(8,.vs 1 (j.map (eI .u32)))],[.box [.lit (.int .i64 f),.vs 1 (g.map (eI .u32)),.vs 1 (h.map (eI .u32))]]⟩) ?_ ?_))))))
 refine C' t (fun k=>N' k fun _ l=>Gate.go (A' l Ref2.power_ok fun _ m=>Gate.go (A' m Ref2.times_ok fun _ y=>?_))) fun k=>Gate.go (A' k Ref2.power_ok fun _ l=>Gate.go (A' l Ref2.times_ok fun _ m=>?_))
 exact B' [0] ⟨_,_,_,_,_,y,rfl⟩
 exact B' [0] ⟨_,_,_,_,_,m,rfl⟩
 rintro s ⟨f,g,h,i,j,u,rfl⟩
 unfold Ref2.fraction.scaled.j0 at u
 obtain ⟨⟨_,_⟩,z,aa⟩:=bind_elim u
 refine Gate.go (Z' (Ref2.divide_ok z) (L' [0] [1,3,8,9,10] ?_))
 refine DrawB.ofG [none,none,none,none,none,none,none,some 38,some 38,some 38,some 38,some 38,none,none,none,none] Tryz_mixed (by kernel_rfl) (by kernel_rfl) ?_
 refine D' rfl (D' rfl (D' rfl (D' rfl ?_)))
 obtain ⟨v,ab,ac⟩:=letk_elim aa
 refine DNodeB.of (.lit (.int .i64 v)) ?_ ?_
 refine Nm.mk ⟨v,by rw [ab,List.length_map],?_⟩
 rfl
 refine DN' ac (fun e=>n' e rfl) fun ad w=>D' rfl ?_
 rcases ad with _ | _
 have n:=bif_f w
 refine D' rfl (D' rfl (D' rfl (DC' n (fun e=>Z' (Ref2.away_ok e) rfl) fun ae d=>?_)))
 rcases ae with _ | _
 have a:=bif_f d
 exact R' (E:=E24') a
 have a:=bif_t d
 exact Gate.go (A' a Ref2.plus_ok fun _ af=>R' (E:=E24') af)
 have n:=bif_t w
 refine D' rfl ?_
 obtain ⟨ag,d⟩:=chk_elim n
 obtain ⟨ah,ai,a⟩:=bind_elim d
 refine DNodeB.of (.iptr (.lit (.int .u32 ah))) ?_ ?_
 refine Side.mk ag ?_
 refine At.by ai ?_
 rfl
 refine D' rfl (DS' a (fun c e=>Side.mk c (n' e rfl)) fun _ aj=>DN' aj (fun e=>n' e rfl) fun _ ak=>D' rfl (D' rfl (D' rfl (DC' ak (fun e=>Z' (Ref2.away_ok e) rfl) fun al x=>?_))))
 rcases al with _ | _
 have o:=bif_f x
 exact R' (E:=E24') o
 have o:=bif_t x
 exact Gate.go (A' o Ref2.plus_ok fun _ am=>R' (E:=E24') am)
noncomputable def Ref2.nat.decimal.s1 (a:ByteArray):Option (ByteArray ⊕ ByteArray) :=
 letk ((a.size:Int)) fun b =>
 letk (decide (b > (0:Int))) fun c =>
 bif c then
 chk (0 ≤ (0:Int) ∧ (0:Int) < (a.size:Int)) <|
 letk (bt a (0:Int)) fun d =>
 letk (d == (48:Int)) fun e =>
 bif e then
 chk (0 ≤ (1:Int) ∧ (1:Int) ≤ (a.size:Int)) <|
 letk (a.extract (1:Int).toNat a.size) fun f =>
 some (.inl f)
 else
 some (.inr a)
 else
 some (.inr a)
noncomputable def Ref2.nat.decimal.l1 (a:ByteArray):Option ByteArray:=loopO (fun v:ByteArray=>Ref2.nat.decimal.s1 v) a
noncomputable def Ref2.nat.decimal.s2 (e:ByteArray) (h:List Int) (b:Int) (a:ByteArray) (f:Int):Option ((Int × ByteArray × Int) ⊕ (((List Int) × ByteArray) ⊕ ByteArray)) :=
 letk (decide (f < (9:Int))) fun i =>
 bif i then
 chk ((10:Int) ≠ 0) <|
 letk (b.tmod (10:Int)) fun c =>
 chk ((10:Int) ≠ 0) <|
 letk (b.tmod (10:Int)) fun j =>
 letk (IntKind.u64.wrap (j + (1:Int))) fun d =>
 chk (0 ≤ c ∧ c ≤ d ∧ d ≤ ((⟨#[48,49,50,51,52,53,54,55,56,57]⟩:ByteArray).size:Int)) <|
 letk ((⟨#[48,49,50,51,52,53,54,55,56,57]⟩:ByteArray).extract c.toNat d.toNat) fun g =>
 chk (((g.size + a.size:Nat):Int) ≤ 9223372036854775807) <|
 letk (g ++ a) fun k =>
 chk ((10:Int) ≠ 0) <|
 letk (IntKind.u64.wrap (b.tdiv (10:Int))) fun l =>
 letk (IntKind.i64.wrap (f + (1:Int))) fun m =>
 some (.inl (l,k,m))
 else
 ((
 chk (((a.size + e.size:Nat):Int) ≤ 9223372036854775807) <|
 letk (a ++ e) fun n =>
 some (.inl (h,n)))).map .inr
noncomputable def Ref2.nat.decimal.l2 (a:ByteArray) (b:List Int) (c:Int) (d:ByteArray) (e:Int):Option (((List Int) × ByteArray) ⊕ ByteArray):=loopO (fun v:Int × ByteArray × Int=>Ref2.nat.decimal.s2 a b v.1 v.2.1 v.2.2) (c,d,e)
noncomputable def Ref2.nat.decimal.s0 (a:List Int) (b:ByteArray):Option (((List Int) × ByteArray) ⊕ ByteArray) :=
 letk ((a.length:Int)) fun c =>
 letk (decide (c > (0:Int))) fun d =>
 bif d then
 Option.bind (Ref2.small 1000000000) fun e =>
 Option.bind (Ref2.divide a e) fun (f,g) =>
 Option.bind (Ref2.nat.value g) fun h =>
 Ref2.nat.decimal.l2 b f h (⟨#[]⟩) 0
 else
 (Ref2.nat.decimal.l1 b).map .inr
noncomputable def Ref2.nat.decimal.l0 (a:List Int) (b:ByteArray):Option ByteArray:=loopO (fun v:(List Int) × ByteArray=>Ref2.nat.decimal.s0 v.1 v.2) (a,b)
noncomputable def Ref2.nat.decimal (a:List Int):Option ByteArray :=
 Ref2.nat.decimal.l0 a (⟨#[]⟩)
theorem Ref2.nat.decimal_ok {f:List Int} {r:ByteArray} (g:Ref2.nat.decimal f = some r):Gives Tryz.prog 68 [.vs 1 (f.map (eI .u32))] (.lit (.string r)):=by
 unfold Ref2.nat.decimal at g
 refine W' [] Tryz.func68 ?_
 unfold Ref2.nat.decimal.l0 at g
 refine LoopB.of (σ:=(List Int) × ByteArray) (ρ:=ByteArray) (fun v:(List Int) × ByteArray=>Ref2.nat.decimal.s0 v.1 v.2) (fun v=>(⟨49,[(0,.vs 1 (v.1.map (eI .u32))),(3,.lit (.string v.2))],[]⟩:St)) (f,⟨#[]⟩) g (B' [] rfl) ?_
 rintro t ⟨u,a⟩ h b i c
 replace b:Ref2.nat.decimal.s0 u a = some h:=b
 unfold Ref2.nat.decimal.s0 at b
 obtain ⟨w,x,y⟩:=letk_elim b
 refine Nm.mk ⟨w,by rw [x,List.length_map],?_⟩
 refine C' y (fun j=>?_) fun j=>Gate.go (A' j Ref2.small_ok fun _ z=>?_)
 obtain ⟨_,q,k⟩:=map_elim j
 have k:=(c _ k.symm).symm
 subst k
 unfold Ref2.nat.decimal.l1 at q
 refine LoopB.of (σ:=ByteArray) (ρ:=ByteArray) (fun v:ByteArray=>Ref2.nat.decimal.s1 v) (fun v=>(⟨49,[(3,.lit (.string v))],[]⟩:St)) a q (B' [] rfl) ?_
 rintro t aa h d i c
 replace d:Ref2.nat.decimal.s1 aa = some h:=d
 unfold Ref2.nat.decimal.s1 at d
 refine N' d fun _ ab=>C' ab (fun l=>?_) fun l=>S' l fun ac=>N' ac fun _ ad=>C' ad (fun m=>?_) fun m=>S' m fun ae=>N' ae fun _ af=>?_
 have ag:=c _ (Option.some.inj l).symm
 have ah:=congrArg some ag
 exact R' (E:=E4') ah
 have ai:=c _ (Option.some.inj m).symm
 have aj:=congrArg some ai
 exact R' (E:=E4') aj
 exact B' [] ⟨_,i _ (Option.some.inj af).symm,rfl⟩
 obtain ⟨⟨n,_⟩,ak,al⟩:=bind_elim z
 refine Gate.go (Z' (Ref2.divide_ok ak) (Gate.go (A' al Ref2.nat.value_ok fun am s=>?_)))
 unfold Ref2.nat.decimal.l2 at s
 refine LoopB.of (σ:=Int × ByteArray × Int) (ρ:=((List Int) × ByteArray) ⊕ ByteArray) (fun v:Int × ByteArray × Int=>Ref2.nat.decimal.s2 a n v.1 v.2.1 v.2.2) (fun v=>(⟨49,[(3,.lit (.string a)),(4,.vs 1 (n.map (eI .u32))),(6,.lit (.int .u64 v.1)),(7,.lit (.string v.2.1)),(8,.lit (.int .i64 v.2.2))],[]⟩:St)) (am,⟨#[]⟩,0) s (B' [] rfl) ?_
 rintro _ ⟨n6,an,i8⟩ x2 e ao ap
 replace e:Ref2.nat.decimal.s2 a n n6 an i8 = some x2:=e
 unfold Ref2.nat.decimal.s2 at e
 refine C' e (fun o=>?_) fun o=>S' o fun aq=>N' aq fun _ ar=>S' ar fun au=>N' au fun _ av=>N' av fun _ aw=>S' aw fun ax=>N' ax fun _ ay=>S' ay fun az=>N' az fun _ ba=>S' ba fun bb=>N' bb fun _ bc=>N' bc fun _ bd=>?_
 obtain ⟨_,be,p⟩:=map_elim o
 have p:=(ap _ p.symm).symm
 subst p
 refine S' be fun bf=>N' bf fun _ bg=>?_
 exact B' [] ⟨_,i _ (Option.some.inj bg).symm,rfl⟩
 exact B' [] ⟨_,ao _ (Option.some.inj bd).symm,rfl⟩
noncomputable def Ref2.fraction.digits (a:quadratref02.fraction) (e:Int) (b:Int):Option (ByteArray × Int) :=
 Option.bind (Ref2.fraction.size (⟨a.sign,a.num,a.den⟩:quadratref02.fraction)) fun d =>
 letk (IntKind.i64.wrap (b - d)) fun f =>
 Option.bind (Ref2.fraction.scaled (⟨a.sign,a.num,a.den⟩:quadratref02.fraction) e f) fun g =>
 Option.bind (Ref2.nat.decimal g) fun c =>
 letk ((c.size:Int)) fun h =>
 letk (decide (h > b)) fun i =>
 bif i then
 chk (0 ≤ b ∧ b ≤ (c.size:Int)) <|
 letk (c.extract 0 b.toNat) fun j =>
 letk (IntKind.i64.wrap (d + (1:Int))) fun k =>
 some (j,k)
 else
 some (c,d)
theorem Ref2.fraction.digits_ok {b:quadratref02.fraction} {c:Int} {d:Int} {r:ByteArray × Int} (e:Ref2.fraction.digits b c d = some r):Gives Tryz.prog 36 [quadratref02.fraction.enc b,.lit (.int .i64 c),.lit (.int .i64 d)] (.tup [.lit (.string r.1),.lit (.int .i64 r.2)]):=by
 unfold Ref2.fraction.digits at e
 refine W' [] Tryz.func36 ?_
 exact V' (Gate.go (A' e Ref2.fraction.size_ok fun _ f=>N' f fun _ g=>Gate.go (A' g Ref2.fraction.scaled_ok fun _ h=>Gate.go (A' h Ref2.nat.decimal_ok fun _ i=>N' i fun _ j=>C' j (fun a=>R' (E:=E19') a) fun a=>S' a fun k=>N' k fun _ l=>N' l fun _ m=>R' (E:=E19') m))))
noncomputable def Ref2.lessH.j1 (_:List Int) (a:Int) (d:Int) (b:List Int) (e:Int):Option (((List Int) × Int × Int) ⊕ ((List Int))) :=
 chk (0 ≤ a ∧ a < (b.length:Int)) <|
 letk (0 + a.toNat) fun f =>
 Option.bind (b[f]?) fun g =>
 letk (IntKind.u64.wrap g) fun h =>
 letk (IntKind.u64.wrap (h - d)) fun i =>
 letk (IntKind.u32.wrap i) fun j =>
 chk (0 ≤ a ∧ a < (b.length:Int)) <|
 letk (0 + a.toNat) fun c =>
 Option.bind (b[c]?) fun _ =>
 letk (b.set c j) fun l =>
 letk (IntKind.i64.wrap (a + (1:Int))) fun k =>
 some (.inl (l,e,k))
noncomputable def Ref2.lessH.j0 (d:List Int) (a:Int) (b:List Int) (c:Int):Option (((List Int) × Int × Int) ⊕ ((List Int))) :=
 chk (0 ≤ a ∧ a < (b.length:Int)) <|
 letk (0 + a.toNat) fun e =>
 Option.bind (b[e]?) fun f =>
 letk (IntKind.u64.wrap f) fun g =>
 letk (decide (g < c)) fun h =>
 bif h then
 Ref2.lessH.j1 d a c b 1
 else
 Ref2.lessH.j1 d a c b 0
noncomputable def Ref2.lessH.s0 (b:List Int) (c:List Int) (d:Int) (a:Int):Option (((List Int) × Int × Int) ⊕ ((List Int))) :=
 letk ((c.length:Int)) fun e =>
 letk (decide (a < e)) fun f =>
 bif f then
 letk ((b.length:Int)) fun g =>
 letk (decide (a < g)) fun h =>
 bif h then
 chk (0 ≤ a) <|
 Option.bind (b[a.toNat]?) fun i =>
 letk (IntKind.u64.wrap i) fun j =>
 letk (IntKind.u64.wrap (d + j)) fun k =>
 Ref2.lessH.j0 b a c k
 else
 Ref2.lessH.j0 b a c d
 else
 ((
 Option.bind (Ref2.nat.trimH c) fun l =>
 some l)).map .inr
noncomputable def Ref2.lessH.l0 (a:List Int) (b:List Int) (c:Int) (d:Int):Option ((List Int)):=loopO (fun v:(List Int) × Int × Int=>Ref2.lessH.s0 a v.1 v.2.1 v.2.2) (b,c,d)
noncomputable def Ref2.lessH (a:List Int) (b:List Int):Option ((List Int)) :=
 Ref2.lessH.l0 b a 0 0
noncomputable def Ref2.Form.special (a:quadratref02.Form) (b:Int):Option (ByteArray × Bool) :=
 Option.bind (Ref2.Form.parts (⟨a.P,a.W⟩:quadratref02.Form) b) fun (c,d,e) =>
 Option.bind (Ref2.Form.top (⟨a.P,a.W⟩:quadratref02.Form)) fun f =>
 letk (decide (d < f)) fun g =>
 bif g then
 some (⟨#[]⟩,false)
 else
 letk (e != (0:Int)) fun h =>
 bif h then
 some (⟨#[110,97,110]⟩,true)
 else
 letk (c == (1:Int)) fun i =>
 bif i then
 some (⟨#[45,105,110,102]⟩,true)
 else
 some (⟨#[105,110,102]⟩,true)
theorem Ref2.Form.special_ok {d:quadratref02.Form} {e:Int} {r:ByteArray × Bool} (f:Ref2.Form.special d e = some r):Gives Tryz.prog 49 [quadratref02.Form.enc d,.lit (.int .i64 e)] (.tup [.lit (.string r.1),.lit (.bool r.2)]):=by
 unfold Ref2.Form.special at f
 refine W' [] Tryz.func49 ?_
 refine V' ?_
 obtain ⟨⟨_,_,_⟩,g,h⟩:=bind_elim f
 exact Gate.go (Z' (Ref2.Form.parts_ok g) (Gate.go (A' h Ref2.Form.top_ok fun _ i=>C' i (fun a=>C' a (fun b=>C' b (fun c=>R' (E:=E16') c) fun c=>R' (E:=E16') c) fun b=>R' (E:=E16') b) fun a=>R' (E:=E16') a)))
noncomputable def Ref2.Form.minus (a:quadratref02.Form) (b:Int):Option ByteArray :=
 Option.bind (Ref2.Form.parts (⟨a.P,a.W⟩:quadratref02.Form) b) fun (c,_,_) =>
 letk (c == (1:Int)) fun d =>
 bif d then
 some ⟨#[45]⟩
 else
 some ⟨#[]⟩
theorem Ref2.Form.minus_ok {b:quadratref02.Form} {c:Int} {r:ByteArray} (d:Ref2.Form.minus b c = some r):Gives Tryz.prog 50 [quadratref02.Form.enc b,.lit (.int .i64 c)] (.lit (.string r)):=by
 unfold Ref2.Form.minus at d
 refine W' [] Tryz.func50 ?_
 refine V' ?_
 obtain ⟨⟨_,_,_⟩,e,f⟩:=bind_elim d
 exact Gate.go (Z' (Ref2.Form.parts_ok e) (C' f (fun a=>R' (E:=E4') a) fun a=>R' (E:=E4') a))
structure Rec51 where
  f51:Int → Option ByteArray
structure Rec51.Ok (R:Rec51):Prop where
  f51_ok:∀ {n0:Int} {r:ByteArray},R.f51 n0 = some r → Gives Tryz.prog 51 [.lit (.int .i64 n0)] (.lit (.string r))
noncomputable def Ref2.whole.F (R:Rec51) (a:Int):Option ByteArray :=
 letk (decide (a < (0:Int))) fun f =>
 bif f then
 letk (IntKind.i64.wrap (0 - a)) fun g =>
 Option.bind (R.f51 g) fun c =>
 chk ((((⟨#[45]⟩:ByteArray).size + c.size:Nat):Int) ≤ 9223372036854775807) <|
 letk ((⟨#[45]⟩:ByteArray) ++ c) fun h =>
 some h
 else
 letk (decide (a < (10:Int))) fun i =>
 bif i then
 letk (IntKind.i64.wrap (a + (1:Int))) fun b =>
 chk (0 ≤ a ∧ a ≤ b ∧ b ≤ ((⟨#[48,49,50,51,52,53,54,55,56,57]⟩:ByteArray).size:Int)) <|
 letk ((⟨#[48,49,50,51,52,53,54,55,56,57]⟩:ByteArray).extract a.toNat b.toNat) fun j =>
 some j
 else
 chk ((10:Int) ≠ 0) <|
 letk (IntKind.i64.wrap (a.tdiv (10:Int))) fun k =>
 Option.bind (R.f51 k) fun d =>
 chk ((10:Int) ≠ 0) <|
 letk (a.tmod (10:Int)) fun l =>
 Option.bind (R.f51 l) fun e =>
 chk (((d.size + e.size:Nat):Int) ≤ 9223372036854775807) <|
 letk (d ++ e) fun m =>
 some m
theorem Ref2.whole.F_ok {R:Rec51} {g:Int} {r:ByteArray} (d:Rec51.Ok R) (h:Ref2.whole.F R g = some r):Gives Tryz.prog 51 [.lit (.int .i64 g)] (.lit (.string r)):=by
 unfold Ref2.whole.F at h
 refine W' [] Tryz.func51 ?_
 refine C' h (fun e=>C' e (fun a=>?_) fun a=>N' a fun _ b=>S' b fun c=>N' c fun _ f=>R' (E:=E4') f) fun e=>N' e fun _ i=>Gate.go (A' i d.f51_ok fun _ a=>S' a fun b=>N' b fun _ c=>R' (E:=E4') c)
 obtain ⟨j,b⟩:=chk_elim a
 obtain ⟨k,l,c⟩:=letk_elim b
 refine Side.mk j ?_
 refine Nm.mk ⟨k,l,?_⟩
 exact Gate.go (A' c d.f51_ok fun _ f=>S' f fun m=>N' m fun _ n=>Gate.go (A' n d.f51_ok fun _ o=>S' o fun p=>N' p fun _ q=>R' (E:=E4') q))
noncomputable def Rec51.at_:Nat → Rec51
 | 0=>⟨fun _=>none⟩
 | k + 1=>⟨Ref2.whole.F (Rec51.at_ k)⟩
theorem Rec51.at_ok:∀ k,Rec51.Ok (Rec51.at_ k)
  | 0=>⟨fun h=>by cases h⟩
  | k + 1=>⟨fun h=>Ref2.whole.F_ok (Rec51.at_ok k) h⟩
noncomputable def Ref2.whole (a:Int):Option ByteArray:=(Rec51.at_ 100000000).f51 a
theorem Ref2.whole_ok {n0:Int} {r:ByteArray} (h0:Ref2.whole n0 = some r):Gives Tryz.prog 51 [.lit (.int .i64 n0)] (.lit (.string r)):=(Rec51.at_ok _).f51_ok h0
end Go.Q
