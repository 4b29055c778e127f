import Derived.Test.YtmfhkipeapdfmaaGreatDoorEG4
import Derived.Test.YtmfhkipeapdfmaaGreatDoorFX
import Derived.Test.YtmfhkipeapdfmaaGreatDoorFY
import Derived.Test.YtmfhkipeapdfmaaGreatDoorProg
namespace Go.Q
open Go Go.Proofs
set_option maxRecDepth 10000
set_option maxHeartbeats 2000000
noncomputable def Ref2.pointed.s0 (b:Int) (a:ByteArray):Option (ByteArray ⊕ ByteArray) :=
 letk ((a.size:Int)) fun h =>
 letk (decide (h ≤ b)) fun i =>
 bif i then
 chk ((((⟨#[48]⟩:ByteArray).size + a.size:Nat):Int) ≤ 9223372036854775807) <|
 letk ((⟨#[48]⟩:ByteArray) ++ a) fun j =>
 some (.inl j)
 else
 ((
 letk ((a.size:Int)) fun k =>
 letk (IntKind.i64.wrap (k - b)) fun c =>
 chk (0 ≤ c ∧ c ≤ (a.size:Int)) <|
 letk (a.extract 0 c.toNat) fun e =>
 chk (((e.size + (⟨#[46]⟩:ByteArray).size:Nat):Int) ≤ 9223372036854775807) <|
 letk (e ++ (⟨#[46]⟩:ByteArray)) fun f =>
 letk ((a.size:Int)) fun l =>
 letk (IntKind.i64.wrap (l - b)) fun d =>
 chk (0 ≤ d ∧ d ≤ (a.size:Int)) <|
 letk (a.extract d.toNat a.size) fun g =>
 chk (((f.size + g.size:Nat):Int) ≤ 9223372036854775807) <|
 letk (f ++ g) fun m =>
 some m)).map .inr
noncomputable def Ref2.pointed.l0 (a:Int) (b:ByteArray):Option ByteArray:=loopO (fun v:ByteArray=>Ref2.pointed.s0 a v) b
noncomputable def Ref2.pointed (a:ByteArray) (b:Int):Option ByteArray :=
 Ref2.pointed.l0 b a
theorem Ref2.pointed_ok {s0:ByteArray} {a:Int} {r:ByteArray} (d:Ref2.pointed s0 a = some r):Gives Tryz.prog 69 [.lit (.string s0),.lit (.int .i64 a)] (.lit (.string r)):=by
 unfold Ref2.pointed at d
 refine W' [] Tryz.func69 ?_
 unfold Ref2.pointed.l0 at d
 refine LoopB.of (σ:=ByteArray) (ρ:=ByteArray) (fun v:ByteArray=>Ref2.pointed.s0 a v) (fun v=>(⟨25,[(0,.lit (.string v)),(1,.lit (.int .i64 a))],[]⟩:St)) s0 d (B' [] rfl) ?_
 rintro _ h i b j k
 replace b:Ref2.pointed.s0 a h = some i:=b
 unfold Ref2.pointed.s0 at b
 refine N' b fun _ l=>C' l (fun f=>?_) fun f=>S' f fun m=>N' m fun _ n=>?_
 obtain ⟨_,o,g⟩:=map_elim f
 have g:=(k _ g.symm).symm
 subst g
 refine L' [] [0,1] ?_
 refine DrawB.ofG [none,none,none,none,none,none,none,none,none,none,none,none,none,none,none] Tryz_mixed (by kernel_rfl) (by kernel_rfl) ?_
 exact D' rfl (D' rfl (DN' o (fun e=>n' e rfl) fun _ p=>D' rfl (DN' p (fun e=>n' e rfl) fun _ q=>DS' q (fun c e=>Side.mk c (n' e rfl)) fun _ s=>DS' s (fun c e=>Side.mk c (n' e rfl)) fun _ t=>D' rfl (D' rfl (DN' t (fun e=>n' e rfl) fun _ u=>D' rfl (DN' u (fun e=>n' e rfl) fun _ w=>DS' w (fun c e=>Side.mk c (n' e rfl)) fun _ x=>DS' x (fun c e=>Side.mk c (n' e rfl)) fun _ y=>D' rfl (R' (E:=E4') y)))))))
 exact B' [] ⟨_,j _ (Option.some.inj n).symm,rfl⟩
noncomputable def Ref2.Fixed.j1 (c:Int) (d:Int) (e:Int) (f:Int) (g:ByteArray):Option (ByteArray × Int) :=
 Option.bind (Ref2.Form.minus (⟨e,f⟩:quadratref02.Form) c) fun a =>
 Option.bind (Ref2.pointed g d) fun b =>
 chk (((a.size + b.size:Nat):Int) ≤ 9223372036854775807) <|
 letk (a ++ b) fun h =>
 some (h,0)
noncomputable def Ref2.Fixed.j0 (f:Int) (a:Int) (d:Int) (b:Int) (c:Int):Option (ByteArray × Int) :=
 Option.bind (Ref2.Form.special (⟨b,c⟩:quadratref02.Form) a) fun (g,h) =>
 bif h then
 some (g,0)
 else
 Option.bind (Ref2.Form.of (⟨b,c⟩:quadratref02.Form) a) fun (e,i) =>
 bif i then
 Option.bind (Ref2.fraction.scaled (⟨e.sign,e.num,e.den⟩:quadratref02.fraction) f d) fun j =>
 Option.bind (Ref2.nat.decimal j) fun k =>
 Ref2.Fixed.j1 a d b c k
 else
 Ref2.Fixed.j1 a d b c (⟨#[]⟩)
noncomputable def Ref2.Fixed (c:Int) (a:Int) (d:Int) (b:Int):Option (ByteArray × Int) :=
 Option.bind (Ref2.FormOf c) fun (e,f) =>
 letk (!f) fun g =>
 bif g then
 some (⟨#[]⟩,2)
 else
 letk (decide (a < (0:Int))) fun h =>
 bif h then
 some (⟨#[]⟩,2)
 else
 letk (decide (a > (3:Int))) fun i =>
 bif i then
 some (⟨#[]⟩,2)
 else
 Option.bind (Ref2.isBits c d) fun j =>
 letk (!j) fun k =>
 bif k then
 some (⟨#[]⟩,2)
 else
 letk (decide (b < (0:Int))) fun l =>
 bif l then
 some (⟨#[]⟩,2)
 else
 letk (decide (b > (40:Int))) fun m =>
 bif m then
 some (⟨#[]⟩,2)
 else
 Ref2.Fixed.j0 a d b e.P e.W
theorem Ref2.Fixed_ok {v:Int} {f:Int} {a:Int} {b:Int} {r:ByteArray × Int} (w:Ref2.Fixed v f a b = some r):Gives Tryz.prog 28 [.lit (.int .i64 v),.lit (.int .i64 f),.lit (.int .i64 a),.lit (.int .i64 b)] (.tup [.lit (.string r.1),.lit (.int .i64 r.2)]):=by
 unfold Ref2.Fixed at w
 refine W' [(0,4),(0,11)] Tryz.func28 ?_
 obtain ⟨⟨_,_⟩,x,y⟩:=bind_elim w
 refine Gate.go (Z' (Ref2.FormOf_ok x) (V' (V' (CutN.of (fun s=>∃ i j,Ref2.Fixed.j0 f a b i j = some r ∧ s = ⟨73,[(1,.lit (.int .i64 f)),(2,.lit (.int .i64 a)),(3,.lit (.int .i64 b)),(10,.ptr 0 0)],[.box [.lit (.int .i64 i),.lit (.int .i64 j)]]⟩) ?_ ?_))))
 refine C' y (fun k=>C' k (fun l=>C' l (fun m=>Gate.go (A' m Ref2.isBits_ok fun _ z=>C' z (fun n=>C' n (fun o=>C' o (fun p=>?_) fun p=>R' (E:=E19') p) fun o=>R' (E:=E19') o) fun n=>R' (E:=E19') n)) fun m=>R' (E:=E19') m) fun l=>R' (E:=E19') l) fun k=>R' (E:=E19') k
 exact B' [0] ⟨_,_,p,rfl⟩
 rintro s ⟨i,j,c,rfl⟩
 unfold Ref2.Fixed.j0 at c
 obtain ⟨⟨_,aa⟩,ab,g⟩:=bind_elim c
 refine Gate.go (Z' (Ref2.Form.special_ok ab) ?_)
 rcases aa with _ | _
 have d:=bif_f g
 refine CutN.of (fun s=>∃ q t u,Ref2.Fixed.j1 a b q t u = some r ∧ s = ⟨73,[(2,.lit (.int .i64 a)),(3,.lit (.int .i64 b)),(10,.ptr 0 0),(14,.lit (.string u))],[.box [.lit (.int .i64 q),.lit (.int .i64 t)]]⟩) ?_ ?_
 obtain ⟨⟨_,ac⟩,ad,h⟩:=bind_elim d
 refine Gate.go (Z' (Ref2.Form.of_ok ad) (V' (V' ?_)))
 rcases ac with _ | _
 have e:=bif_f h
 exact B' [0] ⟨_,_,_,e,rfl⟩
 have e:=bif_t h
 refine Gate.go (A' e Ref2.fraction.scaled_ok fun _ ae=>Gate.go (A' ae Ref2.nat.decimal_ok fun _ af=>?_))
 exact B' [0] ⟨_,_,_,af,rfl⟩
 rintro s ⟨q,t,u,c,rfl⟩
 unfold Ref2.Fixed.j1 at c
 exact Gate.go (A' c Ref2.Form.minus_ok fun _ g=>Gate.go (A' g Ref2.pointed_ok fun _ d=>S' d fun h=>N' h fun _ e=>R' (E:=E19') e))
 have d:=bif_t g
 exact R' (E:=E19') d
noncomputable def Ref2.Power.s1 (k:Int) (l:Int) (b:ByteArray) (c:ByteArray) (d:Int) (e:Int) (a:ByteArray):Option ((Int × Int × ByteArray) ⊕ (ByteArray × Int)) :=
 letk ((a.size:Int)) fun m =>
 letk (decide (m < l)) fun n =>
 bif n then
 chk ((((⟨#[48]⟩:ByteArray).size + a.size:Nat):Int) ≤ 9223372036854775807) <|
 letk ((⟨#[48]⟩:ByteArray) ++ a) fun o =>
 some (.inl (d,e,o))
 else
 ((
 Option.bind (Ref2.Form.minus (⟨d,e⟩:quadratref02.Form) k) fun f =>
 chk (((f.size + (⟨#[48,46]⟩:ByteArray).size:Nat):Int) ≤ 9223372036854775807) <|
 letk (f ++ (⟨#[48,46]⟩:ByteArray)) fun g =>
 chk (((g.size + b.size:Nat):Int) ≤ 9223372036854775807) <|
 letk (g ++ b) fun h =>
 chk (((h.size + (⟨#[69]⟩:ByteArray).size:Nat):Int) ≤ 9223372036854775807) <|
 letk (h ++ (⟨#[69]⟩:ByteArray)) fun i =>
 chk (((i.size + c.size:Nat):Int) ≤ 9223372036854775807) <|
 letk (i ++ c) fun j =>
 chk (((j.size + a.size:Nat):Int) ≤ 9223372036854775807) <|
 letk (j ++ a) fun p =>
 some (p,0)):Option (ByteArray × Int)).map .inr
noncomputable def Ref2.Power.l1 (a:Int) (b:Int) (c:ByteArray) (d:ByteArray) (e:Int) (f:Int) (g:ByteArray):Option (ByteArray × Int):=loopO (fun v:Int × Int × ByteArray=>Ref2.Power.s1 a b c d v.1 v.2.1 v.2.2) (e,f,g)
noncomputable def Ref2.Power.j2 (a:Int) (b:Int) (c:Int) (d:Int) (e:ByteArray) (f:ByteArray) (g:ByteArray):Option (ByteArray × Int) :=
 Ref2.Power.l1 a b e g c d f
noncomputable def Ref2.Power.s0 (e:Int) (i:Int) (f:Int) (b:Int) (c:Int) (d:Int) (a:ByteArray):Option ((Int × Int × ByteArray) ⊕ (ByteArray × Int)) :=
 letk ((a.size:Int)) fun j =>
 letk (decide (j < i)) fun k =>
 bif k then
 chk (((a.size + (⟨#[48]⟩:ByteArray).size:Nat):Int) ≤ 9223372036854775807) <|
 letk (a ++ (⟨#[48]⟩:ByteArray)) fun l =>
 some (.inl (c,d,l))
 else
 ((
 letk (IntKind.i64.wrap (0 - b)) fun g =>
 letk (if g > b then g else b) fun m =>
 Option.bind (Ref2.whole m) fun h =>
 letk (decide (b < (0:Int))) fun n =>
 bif n then
 Ref2.Power.j2 e f c d a h (⟨#[45]⟩)
 else
 Ref2.Power.j2 e f c d a h (⟨#[43]⟩))).map .inr
noncomputable def Ref2.Power.l0 (a:Int) (b:Int) (c:Int) (d:Int) (e:Int) (f:Int) (g:ByteArray):Option (ByteArray × Int):=loopO (fun v:Int × Int × ByteArray=>Ref2.Power.s0 a b c d v.1 v.2.1 v.2.2) (e,f,g)
noncomputable def Ref2.Power.j1 (a:Int) (b:Int) (c:Int) (d:Int) (e:Int) (f:ByteArray) (g:Int):Option (ByteArray × Int) :=
 Ref2.Power.l0 a b c g d e f
noncomputable def Ref2.Power.j0 (g:Int) (a:Int) (d:Int) (f:Int) (b:Int) (c:Int):Option (ByteArray × Int) :=
 Option.bind (Ref2.Form.special (⟨b,c⟩:quadratref02.Form) a) fun (h,i) =>
 bif i then
 some (h,0)
 else
 Option.bind (Ref2.Form.of (⟨b,c⟩:quadratref02.Form) a) fun (e,j) =>
 bif j then
 Option.bind (Ref2.fraction.digits (⟨e.sign,e.num,e.den⟩:quadratref02.fraction) g d) fun (k,l) =>
 Ref2.Power.j1 a d f b c k l
 else
 Ref2.Power.j1 a d f b c (⟨#[]⟩) 0
noncomputable def Ref2.Power (d:Int) (a:Int) (e:Int) (b:Int) (c:Int):Option (ByteArray × Int) :=
 Option.bind (Ref2.FormOf d) fun (f,g) =>
 letk (!g) fun h =>
 bif h then
 some (⟨#[]⟩,2)
 else
 letk (decide (a < (0:Int))) fun i =>
 bif i then
 some (⟨#[]⟩,2)
 else
 letk (decide (a > (3:Int))) fun j =>
 bif j then
 some (⟨#[]⟩,2)
 else
 Option.bind (Ref2.isBits d e) fun k =>
 letk (!k) fun l =>
 bif l then
 some (⟨#[]⟩,2)
 else
 letk (decide (b < (1:Int))) fun m =>
 bif m then
 some (⟨#[]⟩,2)
 else
 letk (decide (b > (40:Int))) fun n =>
 bif n then
 some (⟨#[]⟩,2)
 else
 letk (decide (c < (2:Int))) fun o =>
 bif o then
 some (⟨#[]⟩,2)
 else
 letk (decide (c > (4:Int))) fun p =>
 bif p then
 some (⟨#[]⟩,2)
 else
 Ref2.Power.j0 a e b c f.P f.W
theorem Ref2.Power_ok {am:Int} {h:Int} {a:Int} {d:Int} {b:Int} {r:ByteArray × Int} (h0:Ref2.Power am h a d b = some r):Gives Tryz.prog 29 [.lit (.int .i64 am),.lit (.int .i64 h),.lit (.int .i64 a),.lit (.int .i64 d),.lit (.int .i64 b)] (.tup [.lit (.string r.1),.lit (.int .i64 r.2)]):=by
 unfold Ref2.Power at h0
 refine W' [(0,4),(1,0),(1,2)] Tryz.func29 ?_
 obtain ⟨⟨_,_⟩,ap,h1⟩:=bind_elim h0
 refine Gate.go (Z' (Ref2.FormOf_ok ap) (V' (V' (CutN.of (fun s=>∃ p q,Ref2.Power.j0 h a d b p q = some r ∧ s = ⟨111,[(1,.lit (.int .i64 h)),(2,.lit (.int .i64 a)),(3,.lit (.int .i64 d)),(4,.lit (.int .i64 b)),(12,.ptr 0 0)],[.box [.lit (.int .i64 p),.lit (.int .i64 q)]]⟩) ?_ ?_))))
 refine C' h1 (fun t=>C' t (fun u=>C' u (fun w=>Gate.go (A' w Ref2.isBits_ok fun _ h8=>C' h8 (fun x=>C' x (fun y=>C' y (fun z=>C' z (fun aa=>C' aa (fun ab=>?_) fun ab=>R' (E:=E19') ab) fun aa=>R' (E:=E19') aa) fun z=>R' (E:=E19') z) fun y=>R' (E:=E19') y) fun x=>R' (E:=E19') x)) fun w=>R' (E:=E19') w) fun u=>R' (E:=E19') u) fun t=>R' (E:=E19') t
 exact B' [0] ⟨_,_,ab,rfl⟩
 rintro s ⟨p,q,c,rfl⟩
 unfold Ref2.Power.j0 at c
 obtain ⟨⟨_,aq⟩,ar,an⟩:=bind_elim c
 refine Gate.go (Z' (Ref2.Form.special_ok ar) ?_)
 rcases aq with _ | _
 have ac:=bif_f an
 refine CutN.of (fun s=>∃ i j k e,Ref2.Power.j1 a d b i j k e = some r ∧ s = ⟨111,[(2,.lit (.int .i64 a)),(3,.lit (.int .i64 d)),(4,.lit (.int .i64 b)),(12,.ptr 0 0),(16,.lit (.string k)),(17,.lit (.int .i64 e))],[.box [.lit (.int .i64 i),.lit (.int .i64 j)]]⟩) ?_ ?_
 obtain ⟨⟨_,au⟩,av,ao⟩:=bind_elim ac
 refine Gate.go (Z' (Ref2.Form.of_ok av) (V' (V' ?_)))
 rcases au with _ | _
 have ad:=bif_f ao
 exact B' [0] ⟨_,_,_,_,ad,rfl⟩
 have ad:=bif_t ao
 obtain ⟨⟨_,_⟩,aw,ax⟩:=bind_elim ad
 refine Gate.go (Z' (Ref2.fraction.digits_ok aw) ?_)
 exact B' [0] ⟨_,_,_,_,ax,rfl⟩
 rintro s ⟨i,j,k,e,c,rfl⟩
 unfold Ref2.Power.j1 at c
 unfold Ref2.Power.l0 at c
 refine LoopB.of (σ:=Int × Int × ByteArray) (ρ:=ByteArray × Int) (fun v:Int × Int × ByteArray=>Ref2.Power.s0 a d b e v.1 v.2.1 v.2.2) (fun v=>(⟨111,[(2,.lit (.int .i64 a)),(3,.lit (.int .i64 d)),(4,.lit (.int .i64 b)),(12,.ptr 0 0),(16,.lit (.string v.2.2)),(17,.lit (.int .i64 e))],[.box [.lit (.int .i64 v.1),.lit (.int .i64 v.2.1)]]⟩:St)) (i,j,k) c (B' [0] rfl) ?_
 rintro K1 ⟨l,m,f⟩ x1 n ae af
 replace n:Ref2.Power.s0 a d b e l m f = some x1:=n
 unfold Ref2.Power.s0 at n
 refine N' n fun _ ay=>C' ay (fun ag=>?_) fun ag=>S' ag fun az=>N' az fun _ ba=>?_
 obtain ⟨_,bb,ah⟩:=map_elim ag
 have ah:=(af _ ah.symm).symm
 subst ah
 refine N' bb fun _ bc=>N' bc fun _ bd=>Gate.go (A' bd Ref2.whole_ok fun ai be=>CutN.of (fun s=>∃ g,Ref2.Power.j2 a b l m f ai g = some r ∧ s = ⟨111,[(2,.lit (.int .i64 a)),(4,.lit (.int .i64 b)),(12,.ptr 0 0),(16,.lit (.string f)),(20,.lit (.string g)),(21,.lit (.string ai))],[.box [.lit (.int .i64 l),.lit (.int .i64 m)]]⟩) ?_ ?_)
 refine C' be (fun aj=>?_) fun aj=>?_
 exact B' [0] ⟨_,aj,rfl⟩
 exact B' [0] ⟨_,aj,rfl⟩
 rintro s ⟨g,c,rfl⟩
 unfold Ref2.Power.j2 at c
 unfold Ref2.Power.l1 at c
 refine LoopB.of (σ:=Int × Int × ByteArray) (ρ:=ByteArray × Int) (fun v:Int × Int × ByteArray=>Ref2.Power.s1 a b f g v.1 v.2.1 v.2.2) (fun v=>(⟨111,[(2,.lit (.int .i64 a)),(4,.lit (.int .i64 b)),(12,.ptr 0 0),(16,.lit (.string f)),(20,.lit (.string g)),(21,.lit (.string v.2.2))],[.box [.lit (.int .i64 v.1),.lit (.int .i64 v.2.1)]]⟩:St)) (l,m,ai) c (B' [0] rfl) ?_
 rintro K1 ⟨bf,bg,bh⟩ x1 o ae af
 replace o:Ref2.Power.s1 a b f g bf bg bh = some x1:=o
 unfold Ref2.Power.s1 at o
 refine N' o fun _ bi=>C' bi (fun ak=>?_) fun ak=>S' ak fun bj=>N' bj fun _ bk=>?_
 obtain ⟨_,bl,al⟩:=map_elim ak
 have al:=(af _ al.symm).symm
 subst al
 exact Gate.go (A' bl Ref2.Form.minus_ok fun _ bm=>S' bm fun bn=>N' bn fun _ bo=>S' bo fun bp=>N' bp fun _ bq=>S' bq fun br=>N' br fun _ bs=>S' bs fun bt=>N' bt fun _ bu=>S' bu fun bv=>N' bv fun _ bw=>R' (E:=E19') bw)
 exact B' [0] ⟨_,ae _ (Option.some.inj bk).symm,rfl⟩
 exact B' [0] ⟨_,ae _ (Option.some.inj ba).symm,rfl⟩
 have ac:=bif_t an
 exact R' (E:=E19') ac
noncomputable def Law2.DecimalPrints (a:quadratlaw02.Float) (b:Int) (c:Int):Option Bool :=
 Option.bind (Dec.Fixed a.Kind a.Mode a.Bits b) fun (d,e) =>
 Option.bind (Ref2.Fixed a.Kind a.Mode a.Bits b) fun (f,g) =>
 Option.bind (Dec.Power a.Kind a.Mode a.Bits b c) fun (h,i) =>
 Option.bind (Ref2.Power a.Kind a.Mode a.Bits b c) fun (j,k) =>
 letk (d.toList == f.toList) fun l =>
 bif l then
 letk (e == g) fun m =>
 bif m then
 letk (h.toList == j.toList) fun n =>
 bif n then
 letk (i == k) fun o =>
 bif o then
 Option.bind (Law2.Awake) fun p =>
 some p
 else
 some false
 else
 some false
 else
 some false
 else
 some false
theorem Law2.DecimalPrints_ok {e:quadratlaw02.Float} {f:Int} {g:Int} {r:Bool} (h:Law2.DecimalPrints e f g = some r):Gives Tryz.prog 10 [quadratlaw02.Float.enc e,.lit (.int .i64 f),.lit (.int .i64 g)] (.lit (.bool r)):=by
 unfold Law2.DecimalPrints at h
 refine W' [] Tryz.func10 ?_
 refine V' ?_
 obtain ⟨⟨_,_⟩,i,j⟩:=bind_elim h
 refine Gate.go (Z' (Dec.Fixed_ok i) ?_)
 obtain ⟨⟨_,_⟩,k,l⟩:=bind_elim j
 refine Gate.go (Z' (Ref2.Fixed_ok k) ?_)
 obtain ⟨⟨_,_⟩,m,n⟩:=bind_elim l
 refine Gate.go (Z' (Dec.Power_ok m) ?_)
 obtain ⟨⟨_,_⟩,o,p⟩:=bind_elim n
 exact Gate.go (Z' (Ref2.Power_ok o) (C' p (fun a=>R' (E:=E1') a) fun a=>C' a (fun b=>R' (E:=E1') b) fun b=>C' b (fun c=>R' (E:=E1') c) fun c=>C' c (fun d=>R' (E:=E1') d) fun d=>Gate.go (A' d Law2.Awake_ok fun _ q=>R' (E:=E1') q)))
end Go.Q
