import Derived.Test.YtmfhkipeapdfmaaGreatDoorEG3
import Derived.Test.YtmfhkipeapdfmaaGreatDoorFX
import Derived.Test.YtmfhkipeapdfmaaGreatDoorFY
import Derived.Test.YtmfhkipeapdfmaaGreatDoorProg
namespace Go.Q
open Go Go.Proofs
set_option maxRecDepth 10000
set_option maxHeartbeats 2000000
noncomputable def Ref2.fraction.scaled.j0 (c:Int) (d:Int) (_:List Int) (_:List Int) (f:List Int) (b:List Int):Option ((List Int)) :=
 Option.bind (Ref2.divide f b) fun (a,e) =>
 letk ((a.length:Int)) fun g =>
 letk (decide (g > (0:Int))) fun h =>
 bif h then
 chk (0 ≤ (0:Int)) <|
 Option.bind (a[(0:Int).toNat]?) fun i =>
 chk ((2:Int) ≠ 0) <|
 letk (i.tmod (2:Int)) fun j =>
 letk (j == (1:Int)) fun k =>
 Option.bind (Ref2.away c d k e b) fun l =>
 bif l then
 Option.bind (Ref2.plus a 1) fun m =>
 some m
 else
 some a
 else
 Option.bind (Ref2.away c d false e b) fun n =>
 bif n then
 Option.bind (Ref2.plus a 1) fun o =>
 some o
 else
 some a
noncomputable def Ref2.fraction.scaled (a:quadratref02.fraction) (c:Int) (b:Int):Option ((List Int)) :=
 letk (decide (b ≥ (0:Int))) fun d =>
 bif d then
 Option.bind (Ref2.power b) fun e =>
 Option.bind (Ref2.times a.num e) fun f =>
 Ref2.fraction.scaled.j0 c a.sign a.num a.den f a.den
 else
 letk (IntKind.i64.wrap (0 - b)) fun g =>
 Option.bind (Ref2.power g) fun h =>
 Option.bind (Ref2.times a.den h) fun i =>
 Ref2.fraction.scaled.j0 c a.sign a.num a.den a.num i
theorem Ref2.fraction.scaled_ok {p:quadratref02.fraction} {b:Int} {q:Int} {r:(List Int)} (t:Ref2.fraction.scaled p b q = some r):Gives Tryz.prog 67 [quadratref02.fraction.enc p,.lit (.int .i64 b),.lit (.int .i64 q)] (.vs 1 (r.map (eI .u32))):=by
 unfold Ref2.fraction.scaled at t
 refine W' [(0,5)] Tryz.func67 ?_
 refine V' (DrawB.ofG [none,none,none,none,none,none] Tryz_mixed (by kernel_rfl) (by kernel_rfl) ?_)
 refine D' rfl (D' rfl (D' rfl (D' rfl (D' rfl (D' rfl (CutN.of (fun s=>∃ f g h i j,Ref2.fraction.scaled.j0 b f g h i j = some r ∧ s = ⟨51,[(1,.lit (.int .i64 b)),(3,.ptr 0 0),(7,.vs 1 (i.map (eI .u32))),(8,.vs 1 (j.map (eI .u32)))],[.box [.lit (.int .i64 f),.vs 1 (g.map (eI .u32)),.vs 1 (h.map (eI .u32))]]⟩) ?_ ?_))))))
 refine C' t (fun k=>N' k fun _ l=>Gate.go (A' l Ref2.power_ok fun _ m=>Gate.go (A' m Ref2.times_ok fun _ y=>?_))) fun k=>Gate.go (A' k Ref2.power_ok fun _ l=>Gate.go (A' l Ref2.times_ok fun _ m=>?_))
 exact B' [0] ⟨_,_,_,_,_,y,rfl⟩
 exact B' [0] ⟨_,_,_,_,_,m,rfl⟩
 rintro s ⟨f,g,h,i,j,u,rfl⟩
 unfold Ref2.fraction.scaled.j0 at u
 obtain ⟨⟨_,_⟩,z,aa⟩:=bind_elim u
 refine Gate.go (Z' (Ref2.divide_ok z) (L' [0] [1,3,8,9,10] ?_))
 refine DrawB.ofG [none,none,none,none,none,none,none,some 38,some 38,some 38,some 38,some 38,none,none,none,none] Tryz_mixed (by kernel_rfl) (by kernel_rfl) ?_
 refine D' rfl (D' rfl (D' rfl (D' rfl ?_)))
 obtain ⟨v,ab,ac⟩:=letk_elim aa
 refine DNodeB.of (.lit (.int .i64 v)) ?_ ?_
 refine Nm.mk ⟨v,by rw [ab,List.length_map],?_⟩
 rfl
 refine DN' ac (fun e=>n' e rfl) fun ad w=>D' rfl ?_
 rcases ad with _ | _
 have n:=bif_f w
 refine D' rfl (D' rfl (D' rfl (DC' n (fun e=>Z' (Ref2.away_ok e) rfl) fun ae d=>?_)))
 rcases ae with _ | _
 have a:=bif_f d
 exact R' (E:=E24') a
 have a:=bif_t d
 exact Gate.go (A' a Ref2.plus_ok fun _ af=>R' (E:=E24') af)
 have n:=bif_t w
 refine D' rfl ?_
 obtain ⟨ag,d⟩:=chk_elim n
 obtain ⟨ah,ai,a⟩:=bind_elim d
 refine DNodeB.of (.iptr (.lit (.int .u32 ah))) ?_ ?_
 refine Side.mk ag ?_
 refine At.by ai ?_
 rfl
 refine D' rfl (DS' a (fun c e=>Side.mk c (n' e rfl)) fun _ aj=>DN' aj (fun e=>n' e rfl) fun _ ak=>D' rfl (D' rfl (D' rfl (DC' ak (fun e=>Z' (Ref2.away_ok e) rfl) fun al x=>?_))))
 rcases al with _ | _
 have o:=bif_f x
 exact R' (E:=E24') o
 have o:=bif_t x
 exact Gate.go (A' o Ref2.plus_ok fun _ am=>R' (E:=E24') am)
noncomputable def Ref2.nat.decimal.s1 (a:ByteArray):Option (ByteArray ⊕ ByteArray) :=
 letk ((a.size:Int)) fun b =>
 letk (decide (b > (0:Int))) fun c =>
 bif c then
 chk (0 ≤ (0:Int) ∧ (0:Int) < (a.size:Int)) <|
 letk (bt a (0:Int)) fun d =>
 letk (d == (48:Int)) fun e =>
 bif e then
 chk (0 ≤ (1:Int) ∧ (1:Int) ≤ (a.size:Int)) <|
 letk (a.extract (1:Int).toNat a.size) fun f =>
 some (.inl f)
 else
 some (.inr a)
 else
 some (.inr a)
noncomputable def Ref2.nat.decimal.l1 (a:ByteArray):Option ByteArray:=loopO (fun v:ByteArray=>Ref2.nat.decimal.s1 v) a
noncomputable def Ref2.nat.decimal.s2 (e:ByteArray) (h:List Int) (b:Int) (a:ByteArray) (f:Int):Option ((Int × ByteArray × Int) ⊕ (((List Int) × ByteArray) ⊕ ByteArray)) :=
 letk (decide (f < (9:Int))) fun i =>
 bif i then
 chk ((10:Int) ≠ 0) <|
 letk (b.tmod (10:Int)) fun c =>
 chk ((10:Int) ≠ 0) <|
 letk (b.tmod (10:Int)) fun j =>
 letk (IntKind.u64.wrap (j + (1:Int))) fun d =>
 chk (0 ≤ c ∧ c ≤ d ∧ d ≤ ((⟨#[48,49,50,51,52,53,54,55,56,57]⟩:ByteArray).size:Int)) <|
 letk ((⟨#[48,49,50,51,52,53,54,55,56,57]⟩:ByteArray).extract c.toNat d.toNat) fun g =>
 chk (((g.size + a.size:Nat):Int) ≤ 9223372036854775807) <|
 letk (g ++ a) fun k =>
 chk ((10:Int) ≠ 0) <|
 letk (IntKind.u64.wrap (b.tdiv (10:Int))) fun l =>
 letk (IntKind.i64.wrap (f + (1:Int))) fun m =>
 some (.inl (l,k,m))
 else
 ((
 chk (((a.size + e.size:Nat):Int) ≤ 9223372036854775807) <|
 letk (a ++ e) fun n =>
 some (.inl (h,n)))).map .inr
noncomputable def Ref2.nat.decimal.l2 (a:ByteArray) (b:List Int) (c:Int) (d:ByteArray) (e:Int):Option (((List Int) × ByteArray) ⊕ ByteArray):=loopO (fun v:Int × ByteArray × Int=>Ref2.nat.decimal.s2 a b v.1 v.2.1 v.2.2) (c,d,e)
noncomputable def Ref2.nat.decimal.s0 (a:List Int) (b:ByteArray):Option (((List Int) × ByteArray) ⊕ ByteArray) :=
 letk ((a.length:Int)) fun c =>
 letk (decide (c > (0:Int))) fun d =>
 bif d then
 Option.bind (Ref2.small 1000000000) fun e =>
 Option.bind (Ref2.divide a e) fun (f,g) =>
 Option.bind (Ref2.nat.value g) fun h =>
 Ref2.nat.decimal.l2 b f h (⟨#[]⟩) 0
 else
 (Ref2.nat.decimal.l1 b).map .inr
noncomputable def Ref2.nat.decimal.l0 (a:List Int) (b:ByteArray):Option ByteArray:=loopO (fun v:(List Int) × ByteArray=>Ref2.nat.decimal.s0 v.1 v.2) (a,b)
noncomputable def Ref2.nat.decimal (a:List Int):Option ByteArray :=
 Ref2.nat.decimal.l0 a (⟨#[]⟩)
theorem Ref2.nat.decimal_ok {f:List Int} {r:ByteArray} (g:Ref2.nat.decimal f = some r):Gives Tryz.prog 68 [.vs 1 (f.map (eI .u32))] (.lit (.string r)):=by
 unfold Ref2.nat.decimal at g
 refine W' [] Tryz.func68 ?_
 unfold Ref2.nat.decimal.l0 at g
 refine LoopB.of (σ:=(List Int) × ByteArray) (ρ:=ByteArray) (fun v:(List Int) × ByteArray=>Ref2.nat.decimal.s0 v.1 v.2) (fun v=>(⟨49,[(0,.vs 1 (v.1.map (eI .u32))),(3,.lit (.string v.2))],[]⟩:St)) (f,⟨#[]⟩) g (B' [] rfl) ?_
 rintro t ⟨u,a⟩ h b i c
 replace b:Ref2.nat.decimal.s0 u a = some h:=b
 unfold Ref2.nat.decimal.s0 at b
 obtain ⟨w,x,y⟩:=letk_elim b
 refine Nm.mk ⟨w,by rw [x,List.length_map],?_⟩
 refine C' y (fun j=>?_) fun j=>Gate.go (A' j Ref2.small_ok fun _ z=>?_)
 obtain ⟨_,q,k⟩:=map_elim j
 have k:=(c _ k.symm).symm
 subst k
 unfold Ref2.nat.decimal.l1 at q
 refine LoopB.of (σ:=ByteArray) (ρ:=ByteArray) (fun v:ByteArray=>Ref2.nat.decimal.s1 v) (fun v=>(⟨49,[(3,.lit (.string v))],[]⟩:St)) a q (B' [] rfl) ?_
 rintro t aa h d i c
 replace d:Ref2.nat.decimal.s1 aa = some h:=d
 unfold Ref2.nat.decimal.s1 at d
 refine N' d fun _ ab=>C' ab (fun l=>?_) fun l=>S' l fun ac=>N' ac fun _ ad=>C' ad (fun m=>?_) fun m=>S' m fun ae=>N' ae fun _ af=>?_
 have ag:=c _ (Option.some.inj l).symm
 have ah:=congrArg some ag
 exact R' (E:=E4') ah
 have ai:=c _ (Option.some.inj m).symm
 have aj:=congrArg some ai
 exact R' (E:=E4') aj
 exact B' [] ⟨_,i _ (Option.some.inj af).symm,rfl⟩
 obtain ⟨⟨n,_⟩,ak,al⟩:=bind_elim z
 refine Gate.go (Z' (Ref2.divide_ok ak) (Gate.go (A' al Ref2.nat.value_ok fun am s=>?_)))
 unfold Ref2.nat.decimal.l2 at s
 refine LoopB.of (σ:=Int × ByteArray × Int) (ρ:=((List Int) × ByteArray) ⊕ ByteArray) (fun v:Int × ByteArray × Int=>Ref2.nat.decimal.s2 a n v.1 v.2.1 v.2.2) (fun v=>(⟨49,[(3,.lit (.string a)),(4,.vs 1 (n.map (eI .u32))),(6,.lit (.int .u64 v.1)),(7,.lit (.string v.2.1)),(8,.lit (.int .i64 v.2.2))],[]⟩:St)) (am,⟨#[]⟩,0) s (B' [] rfl) ?_
 rintro _ ⟨n6,an,i8⟩ x2 e ao ap
 replace e:Ref2.nat.decimal.s2 a n n6 an i8 = some x2:=e
 unfold Ref2.nat.decimal.s2 at e
 refine C' e (fun o=>?_) fun o=>S' o fun aq=>N' aq fun _ ar=>S' ar fun au=>N' au fun _ av=>N' av fun _ aw=>S' aw fun ax=>N' ax fun _ ay=>S' ay fun az=>N' az fun _ ba=>S' ba fun bb=>N' bb fun _ bc=>N' bc fun _ bd=>?_
 obtain ⟨_,be,p⟩:=map_elim o
 have p:=(ap _ p.symm).symm
 subst p
 refine S' be fun bf=>N' bf fun _ bg=>?_
 exact B' [] ⟨_,i _ (Option.some.inj bg).symm,rfl⟩
 exact B' [] ⟨_,ao _ (Option.some.inj bd).symm,rfl⟩
noncomputable def Ref2.fraction.digits (a:quadratref02.fraction) (e:Int) (b:Int):Option (ByteArray × Int) :=
 Option.bind (Ref2.fraction.size (⟨a.sign,a.num,a.den⟩:quadratref02.fraction)) fun d =>
 letk (IntKind.i64.wrap (b - d)) fun f =>
 Option.bind (Ref2.fraction.scaled (⟨a.sign,a.num,a.den⟩:quadratref02.fraction) e f) fun g =>
 Option.bind (Ref2.nat.decimal g) fun c =>
 letk ((c.size:Int)) fun h =>
 letk (decide (h > b)) fun i =>
 bif i then
 chk (0 ≤ b ∧ b ≤ (c.size:Int)) <|
 letk (c.extract 0 b.toNat) fun j =>
 letk (IntKind.i64.wrap (d + (1:Int))) fun k =>
 some (j,k)
 else
 some (c,d)
theorem Ref2.fraction.digits_ok {b:quadratref02.fraction} {c:Int} {d:Int} {r:ByteArray × Int} (e:Ref2.fraction.digits b c d = some r):Gives Tryz.prog 36 [quadratref02.fraction.enc b,.lit (.int .i64 c),.lit (.int .i64 d)] (.tup [.lit (.string r.1),.lit (.int .i64 r.2)]):=by
 unfold Ref2.fraction.digits at e
 refine W' [] Tryz.func36 ?_
 exact V' (Gate.go (A' e Ref2.fraction.size_ok fun _ f=>N' f fun _ g=>Gate.go (A' g Ref2.fraction.scaled_ok fun _ h=>Gate.go (A' h Ref2.nat.decimal_ok fun _ i=>N' i fun _ j=>C' j (fun a=>R' (E:=E19') a) fun a=>S' a fun k=>N' k fun _ l=>N' l fun _ m=>R' (E:=E19') m))))
noncomputable def Ref2.Digits.j0 (b:Int) (c:Int) (a:quadratref02.fraction):Option (Int × ByteArray × Int × Int) :=
 Option.bind (Ref2.fraction.digits (⟨a.sign,a.num,a.den⟩:quadratref02.fraction) b c) fun (d,e) =>
 some (a.sign,d,e,0)
noncomputable def Ref2.Digits (c:Int) (b:Int) (d:Int) (a:Int):Option (Int × ByteArray × Int × Int) :=
 Option.bind (Ref2.asked c b d) fun (_,e,f) =>
 letk (!f) fun g =>
 bif g then
 some (0,⟨#[]⟩,0,2)
 else
 letk (decide (a < (1:Int))) fun h =>
 bif h then
 some (0,⟨#[]⟩,0,2)
 else
 letk (decide (a > (40:Int))) fun i =>
 bif i then
 some (0,⟨#[]⟩,0,2)
 else
 Ref2.Digits.j0 b a e
theorem Ref2.Digits_ok {g:Int} {a:Int} {h:Int} {b:Int} {r:Int × ByteArray × Int × Int} (i:Ref2.Digits g a h b = some r):Gives Tryz.prog 22 [.lit (.int .i64 g),.lit (.int .i64 a),.lit (.int .i64 h),.lit (.int .i64 b)] (.tup [.lit (.int .i64 r.1),.lit (.string r.2.1),.lit (.int .i64 r.2.2.1),.lit (.int .i64 r.2.2.2)]):=by
 unfold Ref2.Digits at i
 refine W' [(0,4)] Tryz.func22 ?_
 obtain ⟨⟨_,c,_⟩,k,l⟩:=bind_elim i
 refine Gate.go (Z' (Ref2.asked_ok k) (V' (V' (V' (V' (CutN.of (fun s=>Ref2.Digits.j0 a b c = some r ∧ s = ⟨46,[(1,.lit (.int .i64 a)),(3,.lit (.int .i64 b)),(13,.ptr 0 0)],[.box [.lit (.int .i64 c.sign),.vs 1 (c.num.map (eI .u32)),.vs 1 (c.den.map (eI .u32))]]⟩) ?_ ?_))))))
 refine C' l (fun d=>C' d (fun e=>C' e (fun f=>?_) fun f=>R' (E:=E20') f) fun e=>R' (E:=E20') e) fun d=>R' (E:=E20') d
 exact B' [1] ⟨f,rfl⟩
 rintro s ⟨j,rfl⟩
 unfold Ref2.Digits.j0 at j
 obtain ⟨⟨_,_⟩,m,n⟩:=bind_elim j
 exact Gate.go (Z' (Ref2.fraction.digits_ok m) (R' (E:=E20') n))
noncomputable def Law2.DecimalDigits (a:quadratlaw02.Float) (b:Int):Option Bool :=
 Option.bind (Dec.Digits a.Kind a.Mode a.Bits b) fun (c,d,e,f) =>
 Option.bind (Ref2.Digits a.Kind a.Mode a.Bits b) fun (g,h,i,j) =>
 letk (c == g) fun k =>
 bif k then
 letk (d.toList == h.toList) fun l =>
 bif l then
 letk (e == i) fun m =>
 bif m then
 letk (f == j) fun n =>
 bif n then
 Option.bind (Law2.Awake) fun o =>
 some o
 else
 some false
 else
 some false
 else
 some false
 else
 some false
theorem Law2.DecimalDigits_ok {e:quadratlaw02.Float} {f:Int} {r:Bool} (g:Law2.DecimalDigits e f = some r):Gives Tryz.prog 6 [quadratlaw02.Float.enc e,.lit (.int .i64 f)] (.lit (.bool r)):=by
 unfold Law2.DecimalDigits at g
 refine W' [] Tryz.func6 ?_
 refine V' ?_
 obtain ⟨⟨_,_,_,_⟩,h,i⟩:=bind_elim g
 refine Gate.go (Z' (Dec.Digits_ok h) ?_)
 obtain ⟨⟨_,_,_,_⟩,j,k⟩:=bind_elim i
 exact Gate.go (Z' (Ref2.Digits_ok j) (C' k (fun a=>R' (E:=E1') a) fun a=>C' a (fun b=>R' (E:=E1') b) fun b=>C' b (fun c=>R' (E:=E1') c) fun c=>C' c (fun d=>R' (E:=E1') d) fun d=>Gate.go (A' d Law2.Awake_ok fun _ l=>R' (E:=E1') l)))
noncomputable def Ref2.lessH.j1 (_:List Int) (a:Int) (d:Int) (b:List Int) (e:Int):Option (((List Int) × Int × Int) ⊕ ((List Int))) :=
 chk (0 ≤ a ∧ a < (b.length:Int)) <|
 letk (0 + a.toNat) fun f =>
 Option.bind (b[f]?) fun g =>
 letk (IntKind.u64.wrap g) fun h =>
 letk (IntKind.u64.wrap (h - d)) fun i =>
 letk (IntKind.u32.wrap i) fun j =>
 chk (0 ≤ a ∧ a < (b.length:Int)) <|
 letk (0 + a.toNat) fun c =>
 Option.bind (b[c]?) fun _ =>
 letk (b.set c j) fun l =>
 letk (IntKind.i64.wrap (a + (1:Int))) fun k =>
 some (.inl (l,e,k))
noncomputable def Ref2.lessH.j0 (d:List Int) (a:Int) (b:List Int) (c:Int):Option (((List Int) × Int × Int) ⊕ ((List Int))) :=
 chk (0 ≤ a ∧ a < (b.length:Int)) <|
 letk (0 + a.toNat) fun e =>
 Option.bind (b[e]?) fun f =>
 letk (IntKind.u64.wrap f) fun g =>
 letk (decide (g < c)) fun h =>
 bif h then
 Ref2.lessH.j1 d a c b 1
 else
 Ref2.lessH.j1 d a c b 0
noncomputable def Ref2.lessH.s0 (b:List Int) (c:List Int) (d:Int) (a:Int):Option (((List Int) × Int × Int) ⊕ ((List Int))) :=
 letk ((c.length:Int)) fun e =>
 letk (decide (a < e)) fun f =>
 bif f then
 letk ((b.length:Int)) fun g =>
 letk (decide (a < g)) fun h =>
 bif h then
 chk (0 ≤ a) <|
 Option.bind (b[a.toNat]?) fun i =>
 letk (IntKind.u64.wrap i) fun j =>
 letk (IntKind.u64.wrap (d + j)) fun k =>
 Ref2.lessH.j0 b a c k
 else
 Ref2.lessH.j0 b a c d
 else
 ((
 Option.bind (Ref2.nat.trimH c) fun l =>
 some l)).map .inr
noncomputable def Ref2.lessH.l0 (a:List Int) (b:List Int) (c:Int) (d:Int):Option ((List Int)):=loopO (fun v:(List Int) × Int × Int=>Ref2.lessH.s0 a v.1 v.2.1 v.2.2) (b,c,d)
noncomputable def Ref2.lessH (a:List Int) (b:List Int):Option ((List Int)) :=
 Ref2.lessH.l0 b a 0 0
structure Rec51 where
  f51:Int → Option ByteArray
structure Rec51.Ok (R:Rec51):Prop where
  f51_ok:∀ {n0:Int} {r:ByteArray},R.f51 n0 = some r → Gives Tryz.prog 51 [.lit (.int .i64 n0)] (.lit (.string r))
end Go.Q
