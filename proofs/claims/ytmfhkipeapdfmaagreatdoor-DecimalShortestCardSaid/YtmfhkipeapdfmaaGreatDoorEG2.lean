import Derived.Test.YtmfhkipeapdfmaaGreatDoorEG1
import Derived.Test.YtmfhkipeapdfmaaGreatDoorFX
import Derived.Test.YtmfhkipeapdfmaaGreatDoorFY
import Derived.Test.YtmfhkipeapdfmaaGreatDoorProg
namespace Go.Q
open Go Go.Proofs
set_option maxRecDepth 10000
set_option maxHeartbeats 2000000
noncomputable def Ref2.text.fraction.s0 (b:ByteArray) (c:Int) (d:Int) (g:ByteArray) (h:Int) (i:ByteArray) (j:Int) (k:List Int) (l:List Int) (e:List Int) (a:Int):Option ((Int × ByteArray × Int × ByteArray × Int × (List Int) × (List Int) × (List Int) × Int) ⊕ (quadratref02.fraction × Bool)) :=
 letk ((b.size:Int)) fun m =>
 letk (decide (a < m)) fun n =>
 bif n then
 Option.bind (Ref2.small 10) fun o =>
 Option.bind (Ref2.times e o) fun p =>
 chk (0 ≤ a ∧ a < (b.size:Int)) <|
 letk (bt b a) fun q =>
 letk (IntKind.u8.wrap (q - (48:Int))) fun r =>
 letk (IntKind.u32.wrap r) fun s =>
 Option.bind (Ref2.plus p s) fun t =>
 letk (IntKind.i64.wrap (a + (1:Int))) fun u =>
 some (.inl (d,g,h,i,j,k,l,t,u))
 else
 ((
 Option.bind (Ref2.nat.trim e) fun f =>
 letk (decide (c ≥ (0:Int))) fun v =>
 bif v then
 Option.bind (Ref2.power c) fun w =>
 Option.bind (Ref2.times f w) fun x =>
 Option.bind (Ref2.small 1) fun y =>
 some ((⟨d,x,y⟩:quadratref02.fraction),true)
 else
 letk (IntKind.i64.wrap (0 - c)) fun z =>
 Option.bind (Ref2.power z) fun aa =>
 some ((⟨d,f,aa⟩:quadratref02.fraction),true))).map .inr
noncomputable def Ref2.text.fraction.l0 (a:ByteArray) (b:Int) (c:Int) (d:ByteArray) (e:Int) (f:ByteArray) (g:Int) (h:List Int) (i:List Int) (j:List Int) (k:Int):Option (quadratref02.fraction × Bool):=loopO (fun v:Int × ByteArray × Int × ByteArray × Int × (List Int) × (List Int) × (List Int) × Int=>Ref2.text.fraction.s0 a b v.1 v.2.1 v.2.2.1 v.2.2.2.1 v.2.2.2.2.1 v.2.2.2.2.2.1 v.2.2.2.2.2.2.1 v.2.2.2.2.2.2.2.1 v.2.2.2.2.2.2.2.2) (c,d,e,f,g,h,i,j,k)
noncomputable def Ref2.text.fraction.j1 (a:Int) (b:ByteArray) (c:Int) (d:ByteArray) (e:Int) (f:List Int) (g:List Int) (h:ByteArray) (i:Int):Option (quadratref02.fraction × Bool) :=
 Ref2.text.fraction.l0 h i a b c d e f g ([]) 0
noncomputable def Ref2.text.fraction.j0 (c:Int) (d:ByteArray) (a:Int) (e:ByteArray) (f:Int) (g:List Int) (h:List Int) (b:ByteArray):Option (quadratref02.fraction × Bool) :=
 letk (b.toList == (⟨#[]⟩:ByteArray).toList) fun i =>
 bif i then
 some ((⟨0,[],[]⟩:quadratref02.fraction),false)
 else
 letk ((b.size:Int)) fun j =>
 letk (IntKind.i64.wrap (j + a)) fun k =>
 letk (decide (k < ((-400):Int))) fun l =>
 bif l then
 Ref2.text.fraction.j1 c d a e f g h (⟨#[49]⟩) ((-401))
 else
 letk ((b.size:Int)) fun m =>
 letk (IntKind.i64.wrap (m + a)) fun n =>
 letk (decide (n > (401:Int))) fun o =>
 bif o then
 Ref2.text.fraction.j1 c d a e f g h (⟨#[49]⟩) 401
 else
 Ref2.text.fraction.j1 c d a e f g h b a
noncomputable def Ref2.text.fraction.s1 (b:Int) (c:ByteArray) (d:Int) (e:ByteArray) (f:Int) (g:List Int) (h:List Int) (a:ByteArray):Option ((Int × ByteArray × Int × ByteArray × Int × (List Int) × (List Int) × ByteArray) ⊕ (quadratref02.fraction × Bool)) :=
 letk ((a.size:Int)) fun i =>
 letk (decide (i > (0:Int))) fun j =>
 bif j then
 chk (0 ≤ (0:Int) ∧ (0:Int) < (a.size:Int)) <|
 letk (bt a (0:Int)) fun k =>
 letk (k == (48:Int)) fun l =>
 bif l then
 chk (0 ≤ (1:Int) ∧ (1:Int) ≤ (a.size:Int)) <|
 letk (a.extract (1:Int).toNat a.size) fun m =>
 some (.inl (b,c,d,e,f,g,h,m))
 else
 (Ref2.text.fraction.j0 b c d e f g h a).map .inr
 else
 (Ref2.text.fraction.j0 b c d e f g h a).map .inr
noncomputable def Ref2.text.fraction.l1 (a:Int) (b:ByteArray) (c:Int) (d:ByteArray) (e:Int) (f:List Int) (g:List Int) (h:ByteArray):Option (quadratref02.fraction × Bool):=loopO (fun v:Int × ByteArray × Int × ByteArray × Int × (List Int) × (List Int) × ByteArray=>Ref2.text.fraction.s1 v.1 v.2.1 v.2.2.1 v.2.2.2.1 v.2.2.2.2.1 v.2.2.2.2.2.1 v.2.2.2.2.2.2.1 v.2.2.2.2.2.2.2) (a,b,c,d,e,f,g,h)
noncomputable def Ref2.text.fraction (a:quadratref02.text):Option (quadratref02.fraction × Bool) :=
 Ref2.text.fraction.l1 a.sign a.digits a.x a.word 0 ([]) ([]) a.digits
abbrev E25':quadratref02.fraction × Bool → AV:=fun r=>(.tup [quadratref02.fraction.enc r.1,.lit (.bool r.2)])
theorem Ref2.text.fraction_ok {d:quadratref02.text} {r:quadratref02.fraction × Bool} (z:Ref2.text.fraction d = some r):Gives Tryz.prog 37 [quadratref02.text.enc d] (.tup [quadratref02.fraction.enc r.1,.lit (.bool r.2)]):=by
 unfold Ref2.text.fraction at z
 refine W' [(0,4),(0,11)] Tryz.func37 ?_
 refine V' (V' (CutN.of (fun s=>∃ aa ab ac ad ae af ag d4,Ref2.text.fraction.j0 aa ab ac ad ae af ag d4 = some r ∧ s = ⟨71,[(1,.ptr 0 0),(2,.ptr 1 0),(4,.lit (.string d4))],[.box [.lit (.int .i64 aa),.lit (.string ab),.lit (.int .i64 ac),.lit (.string ad)],.box [.lit (.int .i64 ae),.vs 1 (af.map (eI .u32)),.vs 1 (ag.map (eI .u32))]]⟩) ?_ ?_))
 unfold Ref2.text.fraction.l1 at z
 refine LoopB.of (σ:=Int × ByteArray × Int × ByteArray × Int × (List Int) × (List Int) × ByteArray) (ρ:=quadratref02.fraction × Bool) (fun v:Int × ByteArray × Int × ByteArray × Int × (List Int) × (List Int) × ByteArray=>Ref2.text.fraction.s1 v.1 v.2.1 v.2.2.1 v.2.2.2.1 v.2.2.2.2.1 v.2.2.2.2.2.1 v.2.2.2.2.2.2.1 v.2.2.2.2.2.2.2) (fun v=>(⟨71,[(1,.ptr 0 0),(2,.ptr 1 0),(4,.lit (.string v.2.2.2.2.2.2.2))],[.box [.lit (.int .i64 v.1),.lit (.string v.2.1),.lit (.int .i64 v.2.2.1),.lit (.string v.2.2.2.1)],.box [.lit (.int .i64 v.2.2.2.2.1),.vs 1 (v.2.2.2.2.2.1.map (eI .u32)),.vs 1 (v.2.2.2.2.2.2.1.map (eI .u32))]]⟩:St)) (d.sign,d.digits,d.x,d.word,0,[],[],d.digits) z (B' [0,1] rfl) ?_
 rintro K1 ⟨bd,be,bf,bg,bh,bi,bj,bk⟩ x1 k ah l
 replace k:Ref2.text.fraction.s1 bd be bf bg bh bi bj bk = some x1:=k
 unfold Ref2.text.fraction.s1 at k
 refine N' k fun _ bl=>C' bl (fun ai=>?_) fun ai=>S' ai fun bm=>N' bm fun _ bn=>C' bn (fun aj=>?_) fun aj=>S' aj fun bo=>N' bo fun _ bp=>?_
 obtain ⟨_,bq,ak⟩:=map_elim ai
 have ak:=(l _ ak.symm).symm
 subst ak
 exact B' [0,1] ⟨_,_,_,_,_,_,_,_,bq,rfl⟩
 obtain ⟨_,br,al⟩:=map_elim aj
 have al:=(l _ al.symm).symm
 subst al
 exact B' [0,1] ⟨_,_,_,_,_,_,_,_,br,rfl⟩
 exact B' [0,1] ⟨_,ah _ (Option.some.inj bp).symm,rfl⟩
 rintro s ⟨aa,ab,ac,ad,ae,af,ag,d4,f,rfl⟩
 unfold Ref2.text.fraction.j0 at f
 refine C' f (fun am=>CutN.of (fun s=>∃ m n o p q t u g b,Ref2.text.fraction.j1 m n o p q t u g b = some r ∧ s = ⟨71,[(1,.ptr 0 0),(2,.ptr 1 0),(4,.lit (.string g)),(5,.lit (.int .i64 b))],[.box [.lit (.int .i64 m),.lit (.string n),.lit (.int .i64 o),.lit (.string p)],.box [.lit (.int .i64 q),.vs 1 (t.map (eI .u32)),.vs 1 (u.map (eI .u32))]]⟩) ?_ ?_) fun am=>Gate.go (V' (V' ?_))
 refine N' am fun _ bs=>N' bs fun _ bt=>C' bt (fun an=>N' an fun _ bu=>N' bu fun _ bv=>C' bv (fun ao=>?_) fun ao=>?_) fun an=>?_
 exact B' [0,1] ⟨_,_,_,_,_,_,_,_,_,ao,rfl⟩
 exact B' [0,1] ⟨_,_,_,_,_,_,_,_,_,ao,rfl⟩
 exact B' [0,1] ⟨_,_,_,_,_,_,_,_,_,an,rfl⟩
 rintro s ⟨m,n,o,p,q,t,u,g,b,f,rfl⟩
 unfold Ref2.text.fraction.j1 at f
 unfold Ref2.text.fraction.l0 at f
 refine LoopB.of (σ:=Int × ByteArray × Int × ByteArray × Int × (List Int) × (List Int) × (List Int) × Int) (ρ:=quadratref02.fraction × Bool) (fun v:Int × ByteArray × Int × ByteArray × Int × (List Int) × (List Int) × (List Int) × Int=>Ref2.text.fraction.s0 g b v.1 v.2.1 v.2.2.1 v.2.2.2.1 v.2.2.2.2.1 v.2.2.2.2.2.1 v.2.2.2.2.2.2.1 v.2.2.2.2.2.2.2.1 v.2.2.2.2.2.2.2.2) (fun v=>(⟨71,[(1,.ptr 0 0),(2,.ptr 1 0),(4,.lit (.string g)),(5,.lit (.int .i64 b)),(6,.vs 1 (v.2.2.2.2.2.2.2.1.map (eI .u32))),(7,.lit (.int .i64 v.2.2.2.2.2.2.2.2))],[.box [.lit (.int .i64 v.1),.lit (.string v.2.1),.lit (.int .i64 v.2.2.1),.lit (.string v.2.2.2.1)],.box [.lit (.int .i64 v.2.2.2.2.1),.vs 1 (v.2.2.2.2.2.1.map (eI .u32)),.vs 1 (v.2.2.2.2.2.2.1.map (eI .u32))]]⟩:St)) (m,n,o,p,q,t,u,[],0) f (B' [0,1] rfl) ?_
 rintro K1 ⟨a,h,i,j,ap,aq,ar,n6,i7⟩ x1 w ah l
 replace w:Ref2.text.fraction.s0 g b a h i j ap aq ar n6 i7 = some x1:=w
 unfold Ref2.text.fraction.s0 at w
 refine N' w fun _ bw=>C' bw (fun au=>?_) fun au=>DrawB.ofG [none,none,none,none,none,none,none,none,none,none] Tryz_mixed (by kernel_rfl) (by kernel_rfl) ?_
 obtain ⟨_,bx,av⟩:=map_elim au
 have av:=(l _ av.symm).symm
 subst av
 refine Gate.go (A' bx Ref2.nat.trim_ok fun y bz=>C' bz (fun aw=>DrawB.ofFN 0 [.box [.lit (.int .i64 a),.lit (.string h),.lit (.int .i64 i),.lit (.string j)],.box [.lit (.int .i64 ap),.vs 1 (aq.map (eI .u32)),.vs 1 (ar.map (eI .u32))]] 2 2 [[0],[0],[],[],[],[],[],[1],[]] [[],[],[],[],[],[],[],[1],[]] [none,none,none,none,none,none,none,none,none] Tryz_mixed (by kernel_rfl) rfl rfl rfl (by kernel_rfl) ?_) fun aw=>DrawB.ofFN 0 [.box [.lit (.int .i64 a),.lit (.string h),.lit (.int .i64 i),.lit (.string j)],.box [.lit (.int .i64 ap),.vs 1 (aq.map (eI .u32)),.vs 1 (ar.map (eI .u32))]] 2 2 [[0],[0],[],[],[],[],[],[],[1],[]] [[],[],[],[],[],[],[],[],[1],[]] [none,none,none,none,none,none,none,none,none,none] Tryz_mixed (by kernel_rfl) rfl rfl rfl (by kernel_rfl) ?_)
 refine FNode.rd (F:=[0]) (W:=[]) (.ptr 0 0) ?_ rfl rfl ?_
 rfl
 refine FNode.rd (F:=[0]) (W:=[]) (.lit (.int .i64 a)) ?_ rfl rfl ?_
 rfl
 refine FNode.no (W:=[]) (.vs 1 (y.map (eI .u32))) ?_ rfl ?_
 rfl
 refine FNode.no (W:=[]) (.lit (.int .i64 b)) ?_ rfl ?_
 rfl
 obtain ⟨bc,ca,ax⟩:=letk_elim aw
 refine FNode.no (W:=[]) (.lit (.int .i64 bc)) ?_ rfl ?_
 refine Nm.mk ⟨bc,ca,?_⟩
 rfl
 obtain ⟨ay,cb,az⟩:=bind_elim ax
 refine FNode.no (W:=[]) (.vs 1 (ay.map (eI .u32))) ?_ rfl ?_
 refine Z' (Ref2.power_ok cb) ?_
 rfl
 refine FNode.no (W:=[]) (.agg [.lit (.int .i64 a),.vs 1 (y.map (eI .u32)),.vs 1 (ay.map (eI .u32))]) ?_ rfl ?_
 refine V' ?_
 rfl
 refine FNode.pl (F:=[1]) (W:=[1]) (.undef) [.box [.lit (.int .i64 a),.lit (.string h),.lit (.int .i64 i),.lit (.string j)],.box [.lit (.int .i64 a),.vs 1 (y.map (eI .u32)),.vs 1 (ay.map (eI .u32))]] ?_ rfl rfl rfl rfl ?_
 refine V' ?_
 rfl
 refine FNode.no (W:=[]) (.lit (.bool true)) ?_ rfl ?_
 rfl
 exact R' (E:=E25') az
 refine FNode.rd (F:=[0]) (W:=[]) (.ptr 0 0) ?_ rfl rfl ?_
 rfl
 refine FNode.rd (F:=[0]) (W:=[]) (.lit (.int .i64 a)) ?_ rfl rfl ?_
 rfl
 refine FNode.no (W:=[]) (.vs 1 (y.map (eI .u32))) ?_ rfl ?_
 rfl
 refine FNode.no (W:=[]) (.lit (.int .i64 b)) ?_ rfl ?_
 rfl
 obtain ⟨cc,cd,ax⟩:=bind_elim aw
 refine FNode.no (W:=[]) (.vs 1 (cc.map (eI .u32))) ?_ rfl ?_
 refine Z' (Ref2.power_ok cd) ?_
 rfl
 obtain ⟨ba,ce,az⟩:=bind_elim ax
 refine FNode.no (W:=[]) (.vs 1 (ba.map (eI .u32))) ?_ rfl ?_
 refine Z' (Ref2.times_ok ce) ?_
 rfl
 obtain ⟨bb,cf,cg⟩:=bind_elim az
 refine FNode.no (W:=[]) (.vs 1 (bb.map (eI .u32))) ?_ rfl ?_
 refine Z' (Ref2.small_ok cf) ?_
 rfl
 refine FNode.no (W:=[]) (.agg [.lit (.int .i64 a),.vs 1 (ba.map (eI .u32)),.vs 1 (bb.map (eI .u32))]) ?_ rfl ?_
 refine V' ?_
 rfl
 refine FNode.pl (F:=[1]) (W:=[1]) (.undef) [.box [.lit (.int .i64 a),.lit (.string h),.lit (.int .i64 i),.lit (.string j)],.box [.lit (.int .i64 a),.vs 1 (ba.map (eI .u32)),.vs 1 (bb.map (eI .u32))]] ?_ rfl rfl rfl rfl ?_
 refine V' ?_
 rfl
 refine FNode.no (W:=[]) (.lit (.bool true)) ?_ rfl ?_
 rfl
 exact R' (E:=E25') cg
 refine D' rfl (DC' au (fun e=>Z' (Ref2.small_ok e) rfl) fun _ ch=>DC' ch (fun e=>Z' (Ref2.times_ok e) rfl) fun _ ci=>D' rfl (D' rfl (DS' ci (fun c e=>Side.mk c (n' e rfl)) fun _ cj=>DN' cj (fun e=>n' e rfl) fun _ ck=>DN' ck (fun e=>n' e rfl) fun _ cl=>DC' cl (fun e=>Z' (Ref2.plus_ok e) rfl) fun _ cm=>D' rfl (N' cm fun _ cn=>?_))))
 exact B' [0,1] ⟨_,ah _ (Option.some.inj cn).symm,rfl⟩
 have co:=Option.some.inj am
 subst co
 exact Returns.frozen (r:=.tup [quadratref02.fraction.enc ((⟨0,[],[]⟩:quadratref02.fraction)),.lit (.bool false)]) [] rfl rfl (WV.tups ⟨(WV.aggs ⟨.s,(.nilsVs _),(.nilsVs _),trivial⟩),.s,trivial⟩) ⟨rfl,rfl⟩
noncomputable def Ref2.Form.bias (b:quadratref02.Form):Option Int :=
 letk (IntKind.i64.wrap (b.W - (1:Int))) fun a =>
 chk (0 ≤ a) <|
 letk (IntKind.i64.wrap ((1:Int) * 2 ^ (min a.toNat (IntKind.i64).bits))) fun c =>
 letk (IntKind.i64.wrap (c - (1:Int))) fun d =>
 some d
theorem Ref2.Form.bias_ok {a:quadratref02.Form} {r:Int} (b:Ref2.Form.bias a = some r):Gives Tryz.prog 84 [quadratref02.Form.enc a] (.lit (.int .i64 r)):=by
 unfold Ref2.Form.bias at b
 refine W' [] Tryz.func84 ?_
 exact V' (N' b fun _ c=>S' c fun d=>N' d fun _ e=>N' e fun _ f=>R' (E:=E2') f)
noncomputable def Ref2.nat.bits.s0 (a:Int) (b:Int):Option ((Int × Int) ⊕ Int) :=
 letk (decide (b > (0:Int))) fun c =>
 bif c then
 letk (IntKind.i64.wrap (a + (1:Int))) fun d =>
 chk (0 ≤ (1:Int)) <|
 letk ((IntKind.u32,b.fdiv (2 ^ (min (1:Int).toNat (IntKind.u32).bits))).2) fun e =>
 some (.inl (d,e))
 else
 some (.inr a)
noncomputable def Ref2.nat.bits.l0 (a:Int) (b:Int):Option Int:=loopO (fun v:Int × Int=>Ref2.nat.bits.s0 v.1 v.2) (a,b)
noncomputable def Ref2.nat.bits (a:List Int):Option Int :=
 letk ((a.length:Int)) fun c =>
 letk (c == (0:Int)) fun d =>
 bif d then
 some 0
 else
 letk ((a.length:Int)) fun e =>
 letk (IntKind.i64.wrap (e - (1:Int))) fun f =>
 letk (IntKind.i64.wrap ((32:Int) * f)) fun g =>
 letk ((a.length:Int)) fun h =>
 letk (IntKind.i64.wrap (h - (1:Int))) fun b =>
 chk (0 ≤ b) <|
 Option.bind (a[b.toNat]?) fun i =>
 Ref2.nat.bits.l0 g i
theorem Ref2.nat.bits_ok {d:List Int} {r:Int} (e:Ref2.nat.bits d = some r):Gives Tryz.prog 85 [.vs 1 (d.map (eI .u32))] (.lit (.int .i64 r)):=by
 unfold Ref2.nat.bits at e
 refine W' [] Tryz.func85 ?_
 obtain ⟨g,h,i⟩:=letk_elim e
 refine Nm.mk ⟨g,by rw [h,List.length_map],?_⟩
 refine C' i (fun b=>?_) fun b=>R' (E:=E2') b
 obtain ⟨j,k,l⟩:=letk_elim b
 refine Nm.mk ⟨j,by rw [k,List.length_map],?_⟩
 refine N' l fun _ m=>N' m fun n o=>?_
 obtain ⟨p,q,s⟩:=letk_elim o
 refine Nm.mk ⟨p,by rw [q,List.length_map],?_⟩
 refine N' s fun _ t=>?_
 obtain ⟨u,w⟩:=chk_elim t
 obtain ⟨x,y,f⟩:=bind_elim w
 refine Side.mk u ?_
 refine At.by y ?_
 unfold Ref2.nat.bits.l0 at f
 refine LoopB.of (σ:=Int × Int) (ρ:=Int) (fun v:Int × Int=>Ref2.nat.bits.s0 v.1 v.2) (fun v=>(⟨25,[(3,.lit (.int .i64 v.1)),(4,.lit (.int .u32 v.2))],[]⟩:St)) (n,x) f (B' [] rfl) ?_
 rintro _ ⟨z,x4⟩ x1 a aa ab
 replace a:Ref2.nat.bits.s0 z x4 = some x1:=a
 unfold Ref2.nat.bits.s0 at a
 refine C' a (fun c=>?_) fun c=>N' c fun _ ac=>S' ac fun ad=>N' ad fun _ ae=>?_
 have af:=ab _ (Option.some.inj c).symm
 have ag:=congrArg some af
 exact R' (E:=E2') ag
 exact B' [] ⟨_,aa _ (Option.some.inj ae).symm,rfl⟩
noncomputable def Ref2.up.s0 (f:List Int) (e:Int) (a:List Int) (b:Int):Option (((List Int) × Int) ⊕ ((List Int))) :=
 letk ((f.length:Int)) fun k =>
 letk (decide (b < k)) fun m =>
 bif m then
 chk (0 ≤ b) <|
 Option.bind (f[b.toNat]?) fun n =>
 letk (IntKind.u64.wrap n) fun o =>
 chk ((32:Int) ≠ 0) <|
 letk (e.tmod (32:Int)) fun g =>
 chk (0 ≤ g) <|
 letk (IntKind.u64.wrap (o * 2 ^ (min g.toNat (IntKind.u64).bits))) fun h =>
 chk ((32:Int) ≠ 0) <|
 letk (IntKind.i64.wrap (e.tdiv (32:Int))) fun p =>
 letk (IntKind.i64.wrap (b + p)) fun c =>
 chk (0 ≤ c ∧ c < (a.length:Int)) <|
 letk (0 + c.toNat) fun q =>
 Option.bind (a[q]?) fun r =>
 letk (IntKind.u32.wrap h) fun s =>
 letk (IntKind.u32.wrap (BitVec.ofInt (IntKind.u32).bits r ||| BitVec.ofInt (IntKind.u32).bits s).toNat) fun t =>
 chk (0 ≤ c ∧ c < (a.length:Int)) <|
 letk (0 + c.toNat) fun i =>
 Option.bind (a[i]?) fun _ =>
 letk (a.set i t) fun l =>
 chk ((32:Int) ≠ 0) <|
 letk (IntKind.i64.wrap (e.tdiv (32:Int))) fun u =>
 letk (IntKind.i64.wrap (b + u)) fun v =>
 letk (IntKind.i64.wrap (v + (1:Int))) fun d =>
 chk (0 ≤ d ∧ d < (l.length:Int)) <|
 letk (0 + d.toNat) fun w =>
 Option.bind (l[w]?) fun x =>
 chk (0 ≤ (32:Int)) <|
 letk ((IntKind.u64,h.fdiv (2 ^ (min (32:Int).toNat (IntKind.u64).bits))).2) fun y =>
 letk (IntKind.u32.wrap y) fun z =>
 letk (IntKind.u32.wrap (BitVec.ofInt (IntKind.u32).bits x ||| BitVec.ofInt (IntKind.u32).bits z).toNat) fun aa =>
 chk (0 ≤ d ∧ d < (l.length:Int)) <|
 letk (0 + d.toNat) fun j =>
 Option.bind (l[j]?) fun _ =>
 letk (l.set j aa) fun ab =>
 letk (IntKind.i64.wrap (b + (1:Int))) fun ac =>
 some (.inl (ab,ac))
 else
 ((
 Option.bind (Ref2.nat.trim a) fun ad =>
 some ad)).map .inr
noncomputable def Ref2.up.l0 (a:List Int) (b:Int) (c:List Int) (d:Int):Option ((List Int)):=loopO (fun v:(List Int) × Int=>Ref2.up.s0 a b v.1 v.2) (c,d)
noncomputable def Ref2.up (b:List Int) (c:Int):Option ((List Int)) :=
 letk ((b.length:Int)) fun d =>
 chk ((32:Int) ≠ 0) <|
 letk (IntKind.i64.wrap (c.tdiv (32:Int))) fun e =>
 letk (IntKind.i64.wrap (d + e)) fun f =>
 letk (IntKind.i64.wrap (f + (1:Int))) fun a =>
 chk (0 ≤ a ∧ a ≤ a ∧ a ≤ 9223372036854775807 ∧ 4 * a ≤ 140737488355328) <|
 letk ((List.replicate a.toNat 0:List Int)) fun g =>
 Ref2.up.l0 b c g 0
theorem Ref2.up_ok {a:List Int} {b:Int} {r:(List Int)} (g:Ref2.up a b = some r):Gives Tryz.prog 86 [.vs 1 (a.map (eI .u32)),.lit (.int .i64 b)] (.vs 1 (r.map (eI .u32))):=by
 unfold Ref2.up at g
 refine W' [] Tryz.func86 ?_
 obtain ⟨q,s,t⟩:=letk_elim g
 refine Nm.mk ⟨q,by rw [s,List.length_map],?_⟩
 refine S' t fun u=>N' u fun _ w=>N' w fun _ x=>N' x fun _ y=>S' y fun z=>?_
 obtain ⟨i,aa,j⟩:=letk_elim z
 refine Nm.mk ⟨i.map (eI .u32),by rw [aa,List.map_replicate]; rfl,?_⟩
 unfold Ref2.up.l0 at j
 refine LoopB.of (σ:=(List Int) × Int) (ρ:=(List Int)) (fun v:(List Int) × Int=>Ref2.up.s0 a b v.1 v.2) (fun v=>(⟨55,[(0,.vs 1 (a.map (eI .u32))),(1,.lit (.int .i64 b)),(5,.ref 0 0 ((v.1.map (eI .u32)).length)),(6,.lit (.int .i64 v.2))],[.arr 1 (v.1.map (eI .u32))]⟩:St)) (i,0) j (B' [0] rfl) ?_
 rintro _ ⟨d,i6⟩ x1 c ab ac
 replace c:Ref2.up.s0 a b d i6 = some x1:=c
 unfold Ref2.up.s0 at c
 obtain ⟨ad,ae,af⟩:=letk_elim c
 refine Nm.mk ⟨ad,by rw [ae,List.length_map],?_⟩
 refine C' af (fun e=>?_) fun e=>?_
 obtain ⟨_,ag,f⟩:=map_elim e
 have f:=(ac _ f.symm).symm
 subst f
 obtain ⟨_,ah,ai⟩:=bind_elim ag
 refine Gate.weak (Sees.of (Weak.objs (k:=55) (keep:=[]) (frz:=[0]) (m:=0) (ts:=[(53,.vs 1 (d.map (eI .u32)))]) (hs:=[]) rfl (by decide) rfl rfl ⟨rfl,fun _ h=>by cases h⟩ ⟨(WV.all (k:=0) (by decide) rfl),trivial⟩)) ?_
 exact Z' (Ref2.nat.trim_ok ah) (R' (E:=E24') ai)
 obtain ⟨aj,ak⟩:=chk_elim e
 obtain ⟨_,al,am⟩:=bind_elim ak
 refine Side.mk aj ?_
 refine At.by al ?_
 refine N' am fun _ an=>S' an fun ao=>N' ao fun _ ap=>S' ap fun aq=>N' aq fun _ ar=>S' ar fun au=>N' au fun _ av=>N' av fun _ aw=>?_
 obtain ⟨ax,ay⟩:=chk_elim aw
 obtain ⟨az,ba,bb⟩:=letk_elim ay
 refine Side.mk (by simpa only [List.length_map] using ax) ?_
 refine Nm.mk ⟨az,ba,?_⟩
 obtain ⟨_,bc,bd⟩:=bind_elim bb
 refine At.by bc ?_
 refine N' bd fun _ be=>N' be fun _ bf=>?_
 obtain ⟨bg,bh⟩:=chk_elim bf
 obtain ⟨bi,bj,bk⟩:=letk_elim bh
 refine Side.mk (by simpa only [List.length_map] using bg) ?_
 refine Nm.mk ⟨bi,bj,?_⟩
 obtain ⟨_,bl,bm⟩:=bind_elim bk
 obtain ⟨l,n,bn⟩:=letk_elim bm
 refine At.by bl ?_
 refine Side.mk ⟨Nat.le_of_ble_eq_true rfl,rfl⟩ ?_
 refine Nm.mk ⟨l.map (eI .u32),by rw [n,List.map_set]; rfl,?_⟩
 rw [show (d.map (eI .u32)).length = (l.map (eI .u32)).length from by rw [n,List.length_map,List.length_map,List.length_set]]
 refine S' bn fun bo=>N' bo fun _ bp=>N' bp fun _ bq=>N' bq fun _ br=>?_
 obtain ⟨bs,bt⟩:=chk_elim br
 obtain ⟨bu,bv,bw⟩:=letk_elim bt
 refine Side.mk (by simpa only [List.length_map] using bs) ?_
 refine Nm.mk ⟨bu,bv,?_⟩
 obtain ⟨_,bx,bz⟩:=bind_elim bw
 refine At.by bx ?_
 refine S' bz fun ca=>N' ca fun _ cb=>N' cb fun _ cc=>N' cc fun _ cd=>?_
 obtain ⟨ce,cf⟩:=chk_elim cd
 obtain ⟨cg,ch,ci⟩:=letk_elim cf
 refine Side.mk (by simpa only [List.length_map] using ce) ?_
 refine Nm.mk ⟨cg,ch,?_⟩
 obtain ⟨_,cj,ck⟩:=bind_elim ci
 obtain ⟨o,p,cl⟩:=letk_elim ck
 refine At.by cj ?_
 refine Side.mk ⟨Nat.le_of_ble_eq_true rfl,rfl⟩ ?_
 refine Nm.mk ⟨o.map (eI .u32),by rw [p,List.map_set]; rfl,?_⟩
 rw [show (l.map (eI .u32)).length = (o.map (eI .u32)).length from by rw [p,List.length_map,List.length_map,List.length_set]]
 refine N' cl fun _ cm=>?_
 exact B' [0] ⟨_,ab _ (Option.some.inj cm).symm,rfl⟩
noncomputable def Ref2.nat.trimH.j0 (a:List Int):Option (((List Int)) ⊕ ((List Int))) :=
 letk ((a.length:Int)) fun c =>
 letk (IntKind.i64.wrap (c - (1:Int))) fun b =>
 chk (0 ≤ b ∧ b ≤ (a.length:Int)) <|
 some (.inl (a.take b.toNat))
noncomputable def Ref2.nat.trimH.s0 (a:List Int):Option (((List Int)) ⊕ ((List Int))) :=
 letk ((a.length:Int)) fun c =>
 letk (decide (c > (0:Int))) fun d =>
 bif d then
 letk ((a.length:Int)) fun e =>
 letk (IntKind.i64.wrap (e - (1:Int))) fun b =>
 chk (0 ≤ b ∧ b < (a.length:Int)) <|
 letk (0 + b.toNat) fun f =>
 Option.bind (a[f]?) fun g =>
 letk (g == (0:Int)) fun h =>
 bif h then
 Ref2.nat.trimH.j0 a
 else
 some (.inr a)
 else
 some (.inr a)
noncomputable def Ref2.nat.trimH.l0 (a:List Int):Option ((List Int)):=loopO (fun v:(List Int)=>Ref2.nat.trimH.s0 v) a
theorem Ref2.nat.trimH.l0_eq (a0_1:List Int):Ref2.nat.trimH.l0 a0_1 = (Ref2.nat.trimH.s0 a0_1).bind (Sum.elim (fun v=>Ref2.nat.trimH.l0 v) some):=loopO_eq _ _
noncomputable def Ref2.nat.trimH (a:List Int):Option ((List Int)) :=
 Ref2.nat.trimH.l0 a
theorem Ref2.nat.trimH_ok {a:List Int} {r:(List Int)} (e:Ref2.nat.trimH a = some r):GivesK Tryz.prog 82 [.ref 0 0 ((a.map (eI .u32)).length)] [.arr 1 (a.map (eI .u32))] 1 (.ref 0 0 ((r.map (eI .u32)).length)) [.arr 1 (r.map (eI .u32))]:=by
 unfold Ref2.nat.trimH at e
 refine ACallsK.of_swp Tryz.func82 rfl (by decide) rfl (st0:=⟨21,[(0,.ref 0 0 ((a.map (eI .u32)).length))],[.arr 1 (a.map (eI .u32))]⟩) rfl rfl (bwp_ok (C:=[(1,1)]) ?_)
 unfold Ref2.nat.trimH.l0 at e
 refine LoopB.of (σ:=(List Int)) (ρ:=(List Int)) (fun v:(List Int)=>Ref2.nat.trimH.s0 v) (fun v=>(⟨21,[(0,.ref 0 0 ((v.map (eI .u32)).length))],[.arr 1 (v.map (eI .u32))]⟩:St)) a e (B' [0] rfl) ?_
 rintro _ b k c o l
 replace c:Ref2.nat.trimH.s0 b = some k:=c
 unfold Ref2.nat.trimH.s0 at c
 refine CutN.of (fun s=>∃ d,Ref2.nat.trimH.j0 d = some k ∧ s = ⟨21,[(0,.ref 0 0 ((d.map (eI .u32)).length))],[.arr 1 (d.map (eI .u32))]⟩) ?_ ?_
 obtain ⟨p,q,t⟩:=letk_elim c
 refine Nm.mk ⟨p,by rw [q,List.length_map],?_⟩
 refine C' t (fun f=>?_) fun f=>?_
 have g:=l _ (Option.some.inj f).symm
 have u:=congrArg some g
 have g:=Option.some.inj u
 subst g
 exact Returns.hand (v:=.ref 0 0 ((b.map (eI .u32)).length)) (keep:=[0]) (frz:=[]) (m:=0) (h':=[.arr 1 (b.map (eI .u32))]) rfl rfl (WH.of (by decide) rfl rfl ⟨⟨_,rfl,.arr _ _⟩,⟨rfl,fun _ h=>by cases h⟩⟩) (.ref _ _ _ 0 rfl) ⟨rfl,rfl⟩
 obtain ⟨w,x,y⟩:=letk_elim f
 refine Nm.mk ⟨w,by rw [x,List.length_map],?_⟩
 refine N' y fun _ z=>?_
 obtain ⟨aa,ab⟩:=chk_elim z
 obtain ⟨ac,ad,ae⟩:=letk_elim ab
 refine Side.mk (by simpa only [List.length_map] using aa) ?_
 refine Nm.mk ⟨ac,ad,?_⟩
 obtain ⟨_,af,ag⟩:=bind_elim ae
 refine At.by af ?_
 refine C' ag (fun i=>?_) fun i=>?_
 have j:=l _ (Option.some.inj i).symm
 have ah:=congrArg some j
 have j:=Option.some.inj ah
 subst j
 exact Returns.hand (v:=.ref 0 0 ((b.map (eI .u32)).length)) (keep:=[0]) (frz:=[]) (m:=0) (h':=[.arr 1 (b.map (eI .u32))]) rfl rfl (WH.of (by decide) rfl rfl ⟨⟨_,rfl,.arr _ _⟩,⟨rfl,fun _ h=>by cases h⟩⟩) (.ref _ _ _ 0 rfl) ⟨rfl,rfl⟩
 exact B' [0] ⟨_,i,rfl⟩
 rintro s ⟨d,n,rfl⟩
 unfold Ref2.nat.trimH.j0 at n
 obtain ⟨ai,aj,ak⟩:=letk_elim n
 refine Nm.mk ⟨ai,by rw [aj,List.length_map],?_⟩
 refine N' ak fun al am=>?_
 obtain ⟨an,ao⟩:=chk_elim am
 refine Side.mk (by simpa only [List.length_map] using an) ?_
 refine Nm.mk ⟨(0,al.toNat),rfl,?_⟩
 exact BackS.by ⟨_,o _ (Option.some.inj ao).symm,rfl⟩ (Sees.of (Weak.objs (keep:=[0]) (frz:=[]) (m:=0) rfl (by decide) rfl rfl ⟨⟨_,rfl,WO.arrM⟩,⟨rfl,fun _ h=>by cases h⟩⟩ ⟨(WV.refL 0 rfl (by simp only [List.length_map,List.length_take]; omega)),trivial⟩))
noncomputable def Ref2.upN.s0 (f:List Int) (e:Int) (a:List Int) (b:Int):Option (((List Int) × Int) ⊕ ((List Int))) :=
 letk ((f.length:Int)) fun k =>
 letk (decide (b < k)) fun m =>
 bif m then
 chk (0 ≤ b) <|
 Option.bind (f[b.toNat]?) fun n =>
 letk (IntKind.u64.wrap n) fun o =>
 chk ((32:Int) ≠ 0) <|
 letk (e.tmod (32:Int)) fun g =>
 chk (0 ≤ g) <|
 letk (IntKind.u64.wrap (o * 2 ^ (min g.toNat (IntKind.u64).bits))) fun h =>
 chk ((32:Int) ≠ 0) <|
 letk (IntKind.i64.wrap (e.tdiv (32:Int))) fun p =>
 letk (IntKind.i64.wrap (b + p)) fun c =>
 chk (0 ≤ c ∧ c < (a.length:Int)) <|
 letk (0 + c.toNat) fun q =>
 Option.bind (a[q]?) fun r =>
 letk (IntKind.u32.wrap h) fun s =>
 letk (IntKind.u32.wrap (BitVec.ofInt (IntKind.u32).bits r ||| BitVec.ofInt (IntKind.u32).bits s).toNat) fun t =>
 chk (0 ≤ c ∧ c < (a.length:Int)) <|
 letk (0 + c.toNat) fun i =>
 Option.bind (a[i]?) fun _ =>
 letk (a.set i t) fun l =>
 chk ((32:Int) ≠ 0) <|
 letk (IntKind.i64.wrap (e.tdiv (32:Int))) fun u =>
 letk (IntKind.i64.wrap (b + u)) fun v =>
 letk (IntKind.i64.wrap (v + (1:Int))) fun d =>
 chk (0 ≤ d ∧ d < (l.length:Int)) <|
 letk (0 + d.toNat) fun w =>
 Option.bind (l[w]?) fun x =>
 chk (0 ≤ (32:Int)) <|
 letk ((IntKind.u64,h.fdiv (2 ^ (min (32:Int).toNat (IntKind.u64).bits))).2) fun y =>
 letk (IntKind.u32.wrap y) fun z =>
 letk (IntKind.u32.wrap (BitVec.ofInt (IntKind.u32).bits x ||| BitVec.ofInt (IntKind.u32).bits z).toNat) fun aa =>
 chk (0 ≤ d ∧ d < (l.length:Int)) <|
 letk (0 + d.toNat) fun j =>
 Option.bind (l[j]?) fun _ =>
 letk (l.set j aa) fun ab =>
 letk (IntKind.i64.wrap (b + (1:Int))) fun ac =>
 some (.inl (ab,ac))
 else
 ((
 Option.bind (Ref2.nat.trimH a) fun ad =>
 some ad)).map .inr
noncomputable def Ref2.upN.l0 (a:List Int) (b:Int) (c:List Int) (d:Int):Option ((List Int)):=loopO (fun v:(List Int) × Int=>Ref2.upN.s0 a b v.1 v.2) (c,d)
noncomputable def Ref2.upN (b:List Int) (c:Int):Option ((List Int)) :=
 letk ((b.length:Int)) fun d =>
 chk ((32:Int) ≠ 0) <|
 letk (IntKind.i64.wrap (c.tdiv (32:Int))) fun e =>
 letk (IntKind.i64.wrap (d + e)) fun f =>
 letk (IntKind.i64.wrap (f + (1:Int))) fun a =>
 chk (0 ≤ a ∧ a ≤ a ∧ a ≤ 9223372036854775807 ∧ 4 * a ≤ 140737488355328) <|
 letk ((List.replicate a.toNat 0:List Int)) fun g =>
 Ref2.upN.l0 b c g 0
theorem Ref2.upN_ok {a:List Int} {b:Int} {r:(List Int)} (i:Ref2.upN a b = some r):GivesN Tryz.prog 86 [.vs 1 (a.map (eI .u32)),.lit (.int .i64 b)] 1 (r.map (eI .u32)):=by
 unfold Ref2.upN at i
 refine W' [] Tryz.func86 ?_
 obtain ⟨s,t,u⟩:=letk_elim i
 refine Nm.mk ⟨s,by rw [t,List.length_map],?_⟩
 refine S' u fun w=>N' w fun _ x=>N' x fun _ y=>N' y fun _ z=>S' z fun h6=>?_
 obtain ⟨j,aa,n⟩:=letk_elim h6
 refine Nm.mk ⟨j.map (eI .u32),by rw [aa,List.map_replicate]; rfl,?_⟩
 unfold Ref2.upN.l0 at n
 refine LoopB.of (σ:=(List Int) × Int) (ρ:=(List Int)) (fun v:(List Int) × Int=>Ref2.upN.s0 a b v.1 v.2) (fun v=>(⟨55,[(0,.vs 1 (a.map (eI .u32))),(1,.lit (.int .i64 b)),(5,.ref 0 0 ((v.1.map (eI .u32)).length)),(6,.lit (.int .i64 v.2))],[.arr 1 (v.1.map (eI .u32))]⟩:St)) (j,0) n (B' [0] rfl) ?_
 rintro _ ⟨c,i6⟩ x1 d ab ac
 replace d:Ref2.upN.s0 a b c i6 = some x1:=d
 unfold Ref2.upN.s0 at d
 obtain ⟨ad,ae,af⟩:=letk_elim d
 refine Nm.mk ⟨ad,by rw [ae,List.length_map],?_⟩
 refine C' af (fun f=>?_) fun f=>?_
 obtain ⟨_,ag,g⟩:=map_elim f
 have g:=(ac _ g.symm).symm
 subst g
 obtain ⟨e,ah,ai⟩:=bind_elim ag
 refine Gate.weak (Sees.of (Weak.objs (k:=55) (keep:=[0]) (frz:=[]) (m:=0) (ts:=[(53,.ref 0 0 ((c.map (eI .u32)).length))]) (hs:=[.arr 1 (c.map (eI .u32))]) rfl (by decide) rfl rfl ⟨⟨_,rfl,.arr _ _⟩,⟨rfl,fun _ h=>by cases h⟩⟩ ⟨(.ref _ _ _ 0 rfl),trivial⟩)) ?_
 refine CallN.hand (k:=1) (v:=.ref 0 0 ((e.map (eI .u32)).length)) (hs':=[.arr 1 (e.map (eI .u32))]) (ts':=[(53,.ref 0 0 ((c.map (eI .u32)).length))]) (Ref2.nat.trimH_ok ah) rfl rfl ?_
 have aj:=Option.some.inj ai
 subst aj
 exact Returns.hand (v:=.ref 0 0 ((e.map (eI .u32)).length)) (keep:=[0]) (frz:=[]) (m:=0) (h':=[.arr 1 (e.map (eI .u32))]) rfl rfl (WH.of (by decide) rfl rfl ⟨⟨_,rfl,.arr _ _⟩,⟨rfl,fun _ h=>by cases h⟩⟩) (.ref _ _ _ 0 rfl) ⟨rfl,rfl⟩
 obtain ⟨ak,al⟩:=chk_elim f
 obtain ⟨_,am,an⟩:=bind_elim al
 refine Side.mk ak ?_
 refine At.by am ?_
 refine N' an fun _ ao=>S' ao fun ap=>N' ap fun _ aq=>S' aq fun ar=>N' ar fun _ au=>S' au fun av=>N' av fun _ aw=>N' aw fun _ ax=>?_
 obtain ⟨ay,az⟩:=chk_elim ax
 obtain ⟨ba,bb,bc⟩:=letk_elim az
 refine Side.mk (by simpa only [List.length_map] using ay) ?_
 refine Nm.mk ⟨ba,bb,?_⟩
 obtain ⟨_,bd,be⟩:=bind_elim bc
 refine At.by bd ?_
 refine N' be fun _ bf=>N' bf fun _ bg=>?_
 obtain ⟨bh,bi⟩:=chk_elim bg
 obtain ⟨bj,bk,bl⟩:=letk_elim bi
 refine Side.mk (by simpa only [List.length_map] using bh) ?_
 refine Nm.mk ⟨bj,bk,?_⟩
 obtain ⟨_,bm,bn⟩:=bind_elim bl
 obtain ⟨l,o,bo⟩:=letk_elim bn
 refine At.by bm ?_
 refine Side.mk ⟨Nat.le_of_ble_eq_true rfl,rfl⟩ ?_
 refine Nm.mk ⟨l.map (eI .u32),by rw [o,List.map_set]; rfl,?_⟩
 rw [show (c.map (eI .u32)).length = (l.map (eI .u32)).length from by rw [o,List.length_map,List.length_map,List.length_set]]
 refine S' bo fun bp=>N' bp fun _ bq=>N' bq fun _ br=>N' br fun _ bs=>?_
 obtain ⟨bt,bu⟩:=chk_elim bs
 obtain ⟨bv,bw,bx⟩:=letk_elim bu
 refine Side.mk (by simpa only [List.length_map] using bt) ?_
 refine Nm.mk ⟨bv,bw,?_⟩
 obtain ⟨_,bz,ca⟩:=bind_elim bx
 refine At.by bz ?_
 refine S' ca fun cb=>N' cb fun _ cc=>N' cc fun _ cd=>N' cd fun _ ce=>?_
 obtain ⟨cf,cg⟩:=chk_elim ce
 obtain ⟨ch,ci,cj⟩:=letk_elim cg
 refine Side.mk (by simpa only [List.length_map] using cf) ?_
 refine Nm.mk ⟨ch,ci,?_⟩
 obtain ⟨_,ck,cl⟩:=bind_elim cj
 obtain ⟨p,q,cm⟩:=letk_elim cl
 refine At.by ck ?_
 refine Side.mk ⟨Nat.le_of_ble_eq_true rfl,rfl⟩ ?_
 refine Nm.mk ⟨p.map (eI .u32),by rw [q,List.map_set]; rfl,?_⟩
 rw [show (l.map (eI .u32)).length = (p.map (eI .u32)).length from by rw [q,List.length_map,List.length_map,List.length_set]]
 refine N' cm fun _ cn=>?_
 exact B' [0] ⟨_,ab _ (Option.some.inj cn).symm,rfl⟩
noncomputable def Ref2.compare.s0 (b:List Int) (c:List Int) (a:Int):Option (Int ⊕ Int) :=
 letk (decide (a ≥ (0:Int))) fun d =>
 bif d then
 chk (0 ≤ a) <|
 Option.bind (b[a.toNat]?) fun e =>
 chk (0 ≤ a) <|
 Option.bind (c[a.toNat]?) fun f =>
 letk (e != f) fun g =>
 bif g then
 chk (0 ≤ a) <|
 Option.bind (b[a.toNat]?) fun h =>
 chk (0 ≤ a) <|
 Option.bind (c[a.toNat]?) fun i =>
 letk (decide (h < i)) fun j =>
 bif j then
 some (.inr (-1))
 else
 some (.inr 1)
 else
 letk (IntKind.i64.wrap (a - (1:Int))) fun k =>
 some (.inl k)
 else
 some (.inr 0)
noncomputable def Ref2.compare.l0 (a:List Int) (b:List Int) (c:Int):Option Int:=loopO (fun v:Int=>Ref2.compare.s0 a b v) c
noncomputable def Ref2.compare (a:List Int) (b:List Int):Option Int :=
 letk ((a.length:Int)) fun c =>
 letk ((b.length:Int)) fun d =>
 letk (c != d) fun e =>
 bif e then
 letk ((a.length:Int)) fun f =>
 letk ((b.length:Int)) fun g =>
 letk (decide (f < g)) fun h =>
 bif h then
 some (-1)
 else
 some 1
 else
 letk ((a.length:Int)) fun i =>
 letk (IntKind.i64.wrap (i - (1:Int))) fun j =>
 Ref2.compare.l0 a b j
theorem Ref2.compare_ok {a:List Int} {b:List Int} {r:Int} (o:Ref2.compare a b = some r):Gives Tryz.prog 91 [.vs 1 (a.map (eI .u32)),.vs 1 (b.map (eI .u32))] (.lit (.int .i64 r)):=by
 unfold Ref2.compare at o
 refine W' [] Tryz.func91 ?_
 obtain ⟨s,t,u⟩:=letk_elim o
 refine Nm.mk ⟨s,by rw [t,List.length_map],?_⟩
 obtain ⟨w,x,y⟩:=letk_elim u
 refine Nm.mk ⟨w,by rw [x,List.length_map],?_⟩
 refine C' y (fun f=>?_) fun f=>?_
 obtain ⟨z,aa,g⟩:=letk_elim f
 refine Nm.mk ⟨z,by rw [aa,List.length_map],?_⟩
 refine N' g fun ab c=>?_
 unfold Ref2.compare.l0 at c
 refine LoopB.of (σ:=Int) (ρ:=Int) (fun v:Int=>Ref2.compare.s0 a b v) (fun v=>(⟨41,[(0,.vs 1 (a.map (eI .u32))),(1,.vs 1 (b.map (eI .u32))),(5,.lit (.int .i64 v))],[]⟩:St)) ab c (B' [] rfl) ?_
 rintro _ i5 x1 d ac h
 replace d:Ref2.compare.s0 a b i5 = some x1:=d
 unfold Ref2.compare.s0 at d
 refine C' d (fun i=>?_) fun i=>DrawB.ofG [none,none,none,none,none,none,none,none,none] Tryz_mixed (by kernel_rfl) (by kernel_rfl) ?_
 have ad:=h _ (Option.some.inj i).symm
 have ae:=congrArg some ad
 exact R' (E:=E2') ae
 refine D' rfl (D' rfl ?_)
 obtain ⟨af,ag⟩:=chk_elim i
 obtain ⟨ah,ai,aj⟩:=bind_elim ag
 refine DNodeB.of (.iptr (.lit (.int .u32 ah))) ?_ ?_
 refine Side.mk af ?_
 refine At.by ai ?_
 rfl
 refine D' rfl (D' rfl (D' rfl ?_))
 obtain ⟨ak,al⟩:=chk_elim aj
 obtain ⟨am,an,ao⟩:=bind_elim al
 refine DNodeB.of (.iptr (.lit (.int .u32 am))) ?_ ?_
 refine Side.mk ak ?_
 refine At.by an ?_
 rfl
 refine D' rfl (DN' ao (fun e=>n' e rfl) fun ap p=>?_)
 rcases ap with _ | _
 have j:=bif_f p
 refine N' j fun _ k=>?_
 exact B' [] ⟨_,ac _ (Option.some.inj k).symm,rfl⟩
 have j:=bif_t p
 refine DrawB.ofG [none,none,none,none,none,none,none,none,none] Tryz_mixed (by kernel_rfl) (by kernel_rfl) ?_
 refine D' rfl (D' rfl ?_)
 obtain ⟨aq,k⟩:=chk_elim j
 obtain ⟨ar,au,av⟩:=bind_elim k
 refine DNodeB.of (.iptr (.lit (.int .u32 ar))) ?_ ?_
 refine Side.mk aq ?_
 refine At.by au ?_
 rfl
 refine D' rfl (D' rfl (D' rfl ?_))
 obtain ⟨aw,ax⟩:=chk_elim av
 obtain ⟨ay,az,ba⟩:=bind_elim ax
 refine DNodeB.of (.iptr (.lit (.int .u32 ay))) ?_ ?_
 refine Side.mk aw ?_
 refine At.by az ?_
 rfl
 refine D' rfl (DN' ba (fun e=>n' e rfl) fun bb q=>?_)
 rcases bb with _ | _
 have l:=bif_f q
 have m:=h _ (Option.some.inj l).symm
 subst m
 exact Returns.pure (r:=.lit (.int .i64 1)) rfl rfl rfl rfl ⟨rfl,rfl⟩
 have l:=bif_t q
 have m:=h _ (Option.some.inj l).symm
 subst m
 exact Returns.pure (r:=.lit (.int .i64 ((-1)))) rfl rfl rfl rfl ⟨rfl,rfl⟩
 obtain ⟨bc,bd,g⟩:=letk_elim f
 refine Nm.mk ⟨bc,by rw [bd,List.length_map],?_⟩
 obtain ⟨be,bf,c⟩:=letk_elim g
 refine Nm.mk ⟨be,by rw [bf,List.length_map],?_⟩
 exact C' c (fun n=>R' (E:=E2') n) fun n=>R' (E:=E2') n
noncomputable def Ref2.lessHH.j1 (_:List Int) (a:Int) (d:Int) (b:List Int) (e:Int):Option (((List Int) × Int × Int) ⊕ ((List Int))) :=
 chk (0 ≤ a ∧ a < (b.length:Int)) <|
 letk (0 + a.toNat) fun f =>
 Option.bind (b[f]?) fun g =>
 letk (IntKind.u64.wrap g) fun h =>
 letk (IntKind.u64.wrap (h - d)) fun i =>
 letk (IntKind.u32.wrap i) fun j =>
 chk (0 ≤ a ∧ a < (b.length:Int)) <|
 letk (0 + a.toNat) fun c =>
 Option.bind (b[c]?) fun _ =>
 letk (b.set c j) fun l =>
 letk (IntKind.i64.wrap (a + (1:Int))) fun k =>
 some (.inl (l,e,k))
noncomputable def Ref2.lessHH.j0 (d:List Int) (a:Int) (b:List Int) (c:Int):Option (((List Int) × Int × Int) ⊕ ((List Int))) :=
 chk (0 ≤ a ∧ a < (b.length:Int)) <|
 letk (0 + a.toNat) fun e =>
 Option.bind (b[e]?) fun f =>
 letk (IntKind.u64.wrap f) fun g =>
 letk (decide (g < c)) fun h =>
 bif h then
 Ref2.lessHH.j1 d a c b 1
 else
 Ref2.lessHH.j1 d a c b 0
noncomputable def Ref2.lessHH.s0 (b:List Int) (c:List Int) (d:Int) (a:Int):Option (((List Int) × Int × Int) ⊕ ((List Int))) :=
 letk ((c.length:Int)) fun e =>
 letk (decide (a < e)) fun f =>
 bif f then
 letk ((b.length:Int)) fun g =>
 letk (decide (a < g)) fun h =>
 bif h then
 chk (0 ≤ a ∧ a < (b.length:Int)) <|
 letk (0 + a.toNat) fun i =>
 Option.bind (b[i]?) fun j =>
 letk (IntKind.u64.wrap j) fun k =>
 letk (IntKind.u64.wrap (d + k)) fun l =>
 Ref2.lessHH.j0 b a c l
 else
 Ref2.lessHH.j0 b a c d
 else
 ((
 Option.bind (Ref2.nat.trimH c) fun m =>
 some m)).map .inr
noncomputable def Ref2.lessHH.l0 (a:List Int) (b:List Int) (c:Int) (d:Int):Option ((List Int)):=loopO (fun v:(List Int) × Int × Int=>Ref2.lessHH.s0 a v.1 v.2.1 v.2.2) (b,c,d)
noncomputable def Ref2.lessHH (a:List Int) (b:List Int):Option ((List Int)) :=
 Ref2.lessHH.l0 b a 0 0
theorem Ref2.lessHH_ok {b:List Int} {a:List Int} {r:(List Int)} (p:Ref2.lessHH b a = some r):GivesK Tryz.prog 130 [.ref 0 0 ((b.map (eI .u32)).length),.ref 1 0 ((a.map (eI .u32)).length)] [.arr 1 (b.map (eI .u32)),.arr 1 (a.map (eI .u32))] 2 (.ref 0 0 ((r.map (eI .u32)).length)) [.arr 1 (r.map (eI .u32)),.arr 1 (a.map (eI .u32))]:=by
 unfold Ref2.lessHH at p
 refine ACallsK.of_swp Tryz.func130 rfl (by decide) rfl (st0:=⟨46,[(0,.ref 0 0 ((b.map (eI .u32)).length)),(1,.ref 1 0 ((a.map (eI .u32)).length))],[.arr 1 (b.map (eI .u32)),.arr 1 (a.map (eI .u32))]⟩) rfl rfl (bwp_ok (C:=[(0,8),(0,11)]) ?_)
 unfold Ref2.lessHH.l0 at p
 refine LoopB.of (σ:=(List Int) × Int × Int) (ρ:=(List Int)) (fun v:(List Int) × Int × Int=>Ref2.lessHH.s0 a v.1 v.2.1 v.2.2) (fun v=>(⟨46,[(0,.ref 0 0 ((v.1.map (eI .u32)).length)),(1,.ref 1 0 ((a.map (eI .u32)).length)),(5,.lit (.int .u64 v.2.1)),(6,.lit (.int .i64 v.2.2))],[.arr 1 (v.1.map (eI .u32)),.arr 1 (a.map (eI .u32))]⟩:St)) (b,0,0) p (B' [0,1] rfl) ?_
 rintro _ ⟨j,ad,c⟩ q n ae af
 replace n:Ref2.lessHH.s0 a j ad c = some q:=n
 unfold Ref2.lessHH.s0 at n
 obtain ⟨ag,ah,ai⟩:=letk_elim n
 refine Nm.mk ⟨ag,by rw [ah,List.length_map],?_⟩
 refine C' ai (fun t=>?_) fun t=>CutN.of (fun s=>∃ o d,Ref2.lessHH.j0 a c o d = some q ∧ s = ⟨46,[(0,.ref 0 0 ((o.map (eI .u32)).length)),(1,.ref 1 0 ((a.map (eI .u32)).length)),(6,.lit (.int .i64 c)),(7,.lit (.int .u64 d))],[.arr 1 (o.map (eI .u32)),.arr 1 (a.map (eI .u32))]⟩) ?_ ?_
 obtain ⟨_,aj,u⟩:=map_elim t
 have u:=(af _ u.symm).symm
 subst u
 obtain ⟨e,ak,al⟩:=bind_elim aj
 refine Gate.weak (Sees.of (Weak.objs (k:=46) (keep:=[0,1]) (frz:=[]) (m:=0) (ts:=[(44,.ref 0 0 ((j.map (eI .u32)).length))]) (hs:=[.arr 1 (j.map (eI .u32)),.arr 1 (a.map (eI .u32))]) rfl (by decide) rfl rfl ⟨⟨_,rfl,.arr _ _⟩,⟨⟨_,rfl,.arr _ _⟩,⟨rfl,fun _ h=>by cases h⟩⟩⟩ ⟨(.ref _ _ _ 0 rfl),trivial⟩)) ?_
 refine CallN.handF (k:=1) (m:=1) (v:=.ref 0 0 ((e.map (eI .u32)).length)) (hs':=[.arr 1 (e.map (eI .u32))]) (rest:=[.arr 1 (a.map (eI .u32))]) (hs2:=[.arr 1 (e.map (eI .u32)),.arr 1 (a.map (eI .u32))]) (ts':=[(44,.ref 0 0 ((j.map (eI .u32)).length))]) (Ref2.nat.trimH_ok ak) rfl rfl rfl rfl rfl rfl rfl rfl rfl ?_
 have am:=Option.some.inj al
 subst am
 exact Returns.hand (v:=.ref 0 0 ((e.map (eI .u32)).length)) (keep:=[0,1]) (frz:=[]) (m:=0) (h':=[.arr 1 (e.map (eI .u32)),.arr 1 (a.map (eI .u32))]) rfl rfl (WH.of (by decide) rfl rfl ⟨⟨_,rfl,.arr _ _⟩,⟨⟨_,rfl,.arr _ _⟩,⟨rfl,fun _ h=>by cases h⟩⟩⟩) (.ref _ _ _ 0 rfl) ⟨rfl,rfl⟩
 obtain ⟨an,ao,ap⟩:=letk_elim t
 refine Nm.mk ⟨an,by rw [ao,List.length_map],?_⟩
 refine C' ap (fun w=>?_) fun w=>?_
 exact B' [0,1] ⟨_,_,w,rfl⟩
 obtain ⟨aq,ar⟩:=chk_elim w
 obtain ⟨au,av,aw⟩:=letk_elim ar
 refine Side.mk (by simpa only [List.length_map] using aq) ?_
 refine Nm.mk ⟨au,av,?_⟩
 obtain ⟨_,ax,ay⟩:=bind_elim aw
 refine At.by ax ?_
 refine N' ay fun _ az=>N' az fun _ ba=>?_
 exact B' [0,1] ⟨_,_,ba,rfl⟩
 rintro s ⟨o,d,f,rfl⟩
 unfold Ref2.lessHH.j0 at f
 refine CutN.of (fun s=>∃ g x,Ref2.lessHH.j1 a c d g x = some q ∧ s = ⟨46,[(0,.ref 0 0 ((g.map (eI .u32)).length)),(1,.ref 1 0 ((a.map (eI .u32)).length)),(5,.lit (.int .u64 x)),(6,.lit (.int .i64 c)),(7,.lit (.int .u64 d))],[.arr 1 (g.map (eI .u32)),.arr 1 (a.map (eI .u32))]⟩) ?_ ?_
 obtain ⟨y,z⟩:=chk_elim f
 obtain ⟨bb,bc,aa⟩:=letk_elim z
 refine Side.mk (by simpa only [List.length_map] using y) ?_
 refine Nm.mk ⟨bb,bc,?_⟩
 obtain ⟨_,bd,ab⟩:=bind_elim aa
 refine At.by bd ?_
 refine N' ab fun _ ac=>C' ac (fun i=>?_) fun i=>?_
 exact B' [0,1] ⟨_,_,i,rfl⟩
 exact B' [0,1] ⟨_,_,i,rfl⟩
 rintro s ⟨g,x,f,rfl⟩
 unfold Ref2.lessHH.j1 at f
 obtain ⟨y,z⟩:=chk_elim f
 obtain ⟨be,bf,aa⟩:=letk_elim z
 refine Side.mk (by simpa only [List.length_map] using y) ?_
 refine Nm.mk ⟨be,bf,?_⟩
 obtain ⟨_,bg,ab⟩:=bind_elim aa
 refine At.by bg ?_
 refine N' ab fun _ ac=>N' ac fun _ bh=>N' bh fun _ i=>?_
 obtain ⟨bi,bj⟩:=chk_elim i
 obtain ⟨bk,bl,bm⟩:=letk_elim bj
 refine Side.mk (by simpa only [List.length_map] using bi) ?_
 refine Nm.mk ⟨bk,bl,?_⟩
 obtain ⟨_,bn,bo⟩:=bind_elim bm
 obtain ⟨l,el,bp⟩:=letk_elim bo
 refine At.by bn ?_
 refine Side.mk ⟨Nat.le_of_ble_eq_true rfl,rfl⟩ ?_
 refine Nm.mk ⟨l.map (eI .u32),by rw [el,List.map_set]; rfl,?_⟩
 rw [show (g.map (eI .u32)).length = (l.map (eI .u32)).length from by rw [el,List.length_map,List.length_map,List.length_set]]
 refine N' bp fun _ bq=>?_
 exact B' [0,1] ⟨_,ae _ (Option.some.inj bq).symm,rfl⟩
noncomputable def Ref2.halfH.s0 (b:List Int) (a:Int):Option (((List Int) × Int) ⊕ ((List Int))) :=
 letk ((b.length:Int)) fun f =>
 letk (decide (a < f)) fun g =>
 bif g then
 chk (0 ≤ a ∧ a < (b.length:Int)) <|
 letk (0 + a.toNat) fun h =>
 Option.bind (b[h]?) fun i =>
 chk (0 ≤ (1:Int)) <|
 letk ((IntKind.u32,i.fdiv (2 ^ (min (1:Int).toNat (IntKind.u32).bits))).2) fun j =>
 chk (0 ≤ a ∧ a < (b.length:Int)) <|
 letk (0 + a.toNat) fun d =>
 Option.bind (b[d]?) fun _ =>
 letk (b.set d j) fun l =>
 letk (IntKind.i64.wrap (a + (1:Int))) fun k =>
 letk ((l.length:Int)) fun m =>
 letk (decide (k < m)) fun n =>
 bif n then
 chk (0 ≤ a ∧ a < (l.length:Int)) <|
 letk (0 + a.toNat) fun o =>
 Option.bind (l[o]?) fun p =>
 letk (IntKind.i64.wrap (a + (1:Int))) fun c =>
 chk (0 ≤ c ∧ c < (l.length:Int)) <|
 letk (0 + c.toNat) fun q =>
 Option.bind (l[q]?) fun r =>
 chk (0 ≤ (31:Int)) <|
 letk (IntKind.u32.wrap (r * 2 ^ (min (31:Int).toNat (IntKind.u32).bits))) fun s =>
 letk (IntKind.u32.wrap (BitVec.ofInt (IntKind.u32).bits p ||| BitVec.ofInt (IntKind.u32).bits s).toNat) fun t =>
 chk (0 ≤ a ∧ a < (l.length:Int)) <|
 letk (0 + a.toNat) fun e =>
 Option.bind (l[e]?) fun _ =>
 letk (l.set e t) fun u =>
 letk (IntKind.i64.wrap (a + (1:Int))) fun v =>
 some (.inl (u,v))
 else
 letk (IntKind.i64.wrap (a + (1:Int))) fun w =>
 some (.inl (l,w))
 else
 ((
 Option.bind (Ref2.nat.trimH b) fun x =>
 some x)).map .inr
noncomputable def Ref2.halfH.l0 (a:List Int) (b:Int):Option ((List Int)):=loopO (fun v:(List Int) × Int=>Ref2.halfH.s0 v.1 v.2) (a,b)
noncomputable def Ref2.halfH (a:List Int):Option ((List Int)) :=
 Ref2.halfH.l0 a 0
theorem Ref2.halfH_ok {a:List Int} {r:(List Int)} (f:Ref2.halfH a = some r):GivesK Tryz.prog 131 [.ref 0 0 ((a.map (eI .u32)).length)] [.arr 1 (a.map (eI .u32))] 1 (.ref 0 0 ((r.map (eI .u32)).length)) [.arr 1 (r.map (eI .u32))]:=by
 unfold Ref2.halfH at f
 refine ACallsK.of_swp Tryz.func131 rfl (by decide) rfl (st0:=⟨35,[(0,.ref 0 0 ((a.map (eI .u32)).length))],[.arr 1 (a.map (eI .u32))]⟩) rfl rfl (bwp_ok (C:=[]) ?_)
 unfold Ref2.halfH.l0 at f
 refine LoopB.of (σ:=(List Int) × Int) (ρ:=(List Int)) (fun v:(List Int) × Int=>Ref2.halfH.s0 v.1 v.2) (fun v=>(⟨35,[(0,.ref 0 0 ((v.1.map (eI .u32)).length)),(3,.lit (.int .i64 v.2))],[.arr 1 (v.1.map (eI .u32))]⟩:St)) (a,0) f (B' [0] rfl) ?_
 rintro _ ⟨b,g⟩ x1 c q aa
 replace c:Ref2.halfH.s0 b g = some x1:=c
 unfold Ref2.halfH.s0 at c
 obtain ⟨t6,ab,ac⟩:=letk_elim c
 refine Nm.mk ⟨t6,by rw [ab,List.length_map],?_⟩
 refine C' ac (fun i=>?_) fun i=>?_
 obtain ⟨_,ad,j⟩:=map_elim i
 have j:=(aa _ j.symm).symm
 subst j
 obtain ⟨d,ae,af⟩:=bind_elim ad
 refine Gate.weak (Sees.of (Weak.objs (k:=35) (keep:=[0]) (frz:=[]) (m:=0) (ts:=[(33,.ref 0 0 ((b.map (eI .u32)).length))]) (hs:=[.arr 1 (b.map (eI .u32))]) rfl (by decide) rfl rfl ⟨⟨_,rfl,.arr _ _⟩,⟨rfl,fun _ h=>by cases h⟩⟩ ⟨(.ref _ _ _ 0 rfl),trivial⟩)) ?_
 refine CallN.hand (k:=1) (v:=.ref 0 0 ((d.map (eI .u32)).length)) (hs':=[.arr 1 (d.map (eI .u32))]) (ts':=[(33,.ref 0 0 ((b.map (eI .u32)).length))]) (Ref2.nat.trimH_ok ae) rfl rfl ?_
 have ag:=Option.some.inj af
 subst ag
 exact Returns.hand (v:=.ref 0 0 ((d.map (eI .u32)).length)) (keep:=[0]) (frz:=[]) (m:=0) (h':=[.arr 1 (d.map (eI .u32))]) rfl rfl (WH.of (by decide) rfl rfl ⟨⟨_,rfl,.arr _ _⟩,⟨rfl,fun _ h=>by cases h⟩⟩) (.ref _ _ _ 0 rfl) ⟨rfl,rfl⟩
 obtain ⟨ah,ai⟩:=chk_elim i
 obtain ⟨aj,ak,al⟩:=letk_elim ai
 refine Side.mk (by simpa only [List.length_map] using ah) ?_
 refine Nm.mk ⟨aj,ak,?_⟩
 obtain ⟨_,am,an⟩:=bind_elim al
 refine At.by am ?_
 refine S' an fun ao=>N' ao fun _ ap=>?_
 obtain ⟨aq,ar⟩:=chk_elim ap
 obtain ⟨au,av,aw⟩:=letk_elim ar
 refine Side.mk (by simpa only [List.length_map] using aq) ?_
 refine Nm.mk ⟨au,av,?_⟩
 obtain ⟨_,ax,ay⟩:=bind_elim aw
 obtain ⟨l,s,az⟩:=letk_elim ay
 refine At.by ax ?_
 refine Side.mk ⟨Nat.le_of_ble_eq_true rfl,rfl⟩ ?_
 refine Nm.mk ⟨l.map (eI .u32),by rw [s,List.map_set]; rfl,?_⟩
 rw [show (b.map (eI .u32)).length = (l.map (eI .u32)).length from by rw [s,List.length_map,List.length_map,List.length_set]]
 refine N' az fun _ ba=>?_
 obtain ⟨bb,bc,bd⟩:=letk_elim ba
 refine Nm.mk ⟨bb,by rw [bc,List.length_map],?_⟩
 refine C' bd (fun n=>N' n fun _ o=>?_) fun n=>DrawB.ofFN 0 [.arr 1 (l.map (eI .u32))] 1 1 [[],[],[0],[0],[],[],[],[0],[0],[],[],[0],[0]] [[],[],[],[],[],[],[],[],[],[],[],[],[0]] [none,none,none,none,none,none,none,none,none,none,none,none,none] Tryz_mixed (by kernel_rfl) rfl rfl rfl (by kernel_rfl) ?_
 exact B' [0] ⟨_,q _ (Option.some.inj o).symm,rfl⟩
 refine FNode.mv (W:=[]) (.ref 0 0 ((l.map (eI .u32)).length)) rfl rfl ?_
 refine FNode.no (W:=[]) (.lit (.int .i64 g)) ?_ rfl ?_
 rfl
 obtain ⟨be,o⟩:=chk_elim n
 obtain ⟨t,bf,bg⟩:=letk_elim o
 refine FNode.rd (F:=[0]) (W:=[]) (.eptr 0 t 0) ?_ rfl rfl ?_
 refine Side.mk (by simpa only [List.length_map] using be) ?_
 refine Nm.mk ⟨t,bf,?_⟩
 rfl
 obtain ⟨bh,bi,bj⟩:=bind_elim bg
 refine FNode.rd (F:=[0]) (W:=[]) (.lit (.int .u32 bh)) ?_ rfl rfl ?_
 refine At.by bi ?_
 rfl
 refine FNode.mv (W:=[]) (.ref 0 0 ((l.map (eI .u32)).length)) rfl rfl ?_
 refine FNode.no (W:=[]) (.lit (.int .i64 g)) ?_ rfl ?_
 rfl
 obtain ⟨u,bk,bl⟩:=letk_elim bj
 refine FNode.no (W:=[]) (.lit (.int .i64 u)) ?_ rfl ?_
 refine Nm.mk ⟨u,bk,?_⟩
 rfl
 obtain ⟨bm,bn⟩:=chk_elim bl
 obtain ⟨w,bo,bp⟩:=letk_elim bn
 refine FNode.rd (F:=[0]) (W:=[]) (.eptr 0 w 0) ?_ rfl rfl ?_
 refine Side.mk (by simpa only [List.length_map] using bm) ?_
 refine Nm.mk ⟨w,bo,?_⟩
 rfl
 obtain ⟨bq,br,bs⟩:=bind_elim bp
 refine FNode.rd (F:=[0]) (W:=[]) (.lit (.int .u32 bq)) ?_ rfl rfl ?_
 refine At.by br ?_
 rfl
 obtain ⟨bt,bu⟩:=chk_elim bs
 obtain ⟨x,bv,bw⟩:=letk_elim bu
 refine FNode.no (W:=[]) (.lit (.int .u32 x)) ?_ rfl ?_
 refine Side.mk bt ?_
 refine Nm.mk ⟨x,bv,?_⟩
 rfl
 obtain ⟨y,bx,bz⟩:=letk_elim bw
 refine FNode.no (W:=[]) (.lit (.int .u32 y)) ?_ rfl ?_
 refine Nm.mk ⟨y,bx,?_⟩
 rfl
 obtain ⟨ca,cb⟩:=chk_elim bz
 obtain ⟨z,cc,cd⟩:=letk_elim cb
 refine FNode.rd (F:=[0]) (W:=[]) (.eptr 0 z 0) ?_ rfl rfl ?_
 refine Side.mk (by simpa only [List.length_map] using ca) ?_
 refine Nm.mk ⟨z,cc,?_⟩
 rfl
 obtain ⟨_,ce,cf⟩:=bind_elim cd
 obtain ⟨e,p,cg⟩:=letk_elim cf
 refine FNode.pl (F:=[0]) (W:=[0]) (.undef) [.arr 1 (e.map (eI .u32))] ?_ rfl rfl rfl rfl ?_
 refine At.by ce ?_
 refine Side.mk ⟨Nat.le_of_ble_eq_true rfl,rfl⟩ ?_
 refine Nm.mk ⟨e.map (eI .u32),by rw [p,List.map_set]; rfl,?_⟩
 rw [show (l.map (eI .u32)).length = (e.map (eI .u32)).length from by rw [p,List.length_map,List.length_map,List.length_set]]
 rfl
 rw [show (l.map (eI .u32)).length = (e.map (eI .u32)).length from by rw [p,List.length_map,List.length_map,List.length_set]]
 refine N' cg fun _ ch=>?_
 exact B' [0] ⟨_,q _ (Option.some.inj ch).symm,rfl⟩
noncomputable def Ref2.divide.s0 (d:List Int) (e:List Int) (a:List Int) (c:Int):Option (((List Int) × (List Int) × (List Int) × Int) ⊕ ((List Int) × (List Int))) :=
 letk (decide (c ≥ (0:Int))) fun h =>
 bif h then
 Option.bind (Ref2.compare d e) fun i =>
 letk (decide (i ≥ (0:Int))) fun j =>
 bif j then
 Option.bind (Ref2.lessHH d e) fun k =>
 chk ((32:Int) ≠ 0) <|
 letk (IntKind.i64.wrap (c.tdiv (32:Int))) fun b =>
 chk (0 ≤ b ∧ b < (a.length:Int)) <|
 letk (0 + b.toNat) fun m =>
 Option.bind (a[m]?) fun n =>
 chk ((32:Int) ≠ 0) <|
 letk (c.tmod (32:Int)) fun f =>
 chk (0 ≤ f) <|
 letk (IntKind.u32.wrap ((1:Int) * 2 ^ (min f.toNat (IntKind.u32).bits))) fun o =>
 letk (IntKind.u32.wrap (BitVec.ofInt (IntKind.u32).bits n ||| BitVec.ofInt (IntKind.u32).bits o).toNat) fun p =>
 chk (0 ≤ b ∧ b < (a.length:Int)) <|
 letk (0 + b.toNat) fun g =>
 Option.bind (a[g]?) fun _ =>
 letk (a.set g p) fun l =>
 Option.bind (Ref2.halfH e) fun q =>
 letk (IntKind.i64.wrap (c - (1:Int))) fun r =>
 some (.inl (k,q,l,r))
 else
 Option.bind (Ref2.halfH e) fun s =>
 letk (IntKind.i64.wrap (c - (1:Int))) fun t =>
 some (.inl (d,s,a,t))
 else
 ((
 Option.bind (Ref2.nat.trim a) fun u =>
 some (u,d))).map .inr
noncomputable def Ref2.divide.l0 (a:List Int) (b:List Int) (c:List Int) (d:Int):Option ((List Int) × (List Int)):=loopO (fun v:(List Int) × (List Int) × (List Int) × Int=>Ref2.divide.s0 v.1 v.2.1 v.2.2.1 v.2.2.2) (a,b,c,d)
noncomputable def Ref2.divide (b:List Int) (d:List Int):Option ((List Int) × (List Int)) :=
 Option.bind (Ref2.nat.bits b) fun e =>
 Option.bind (Ref2.nat.bits d) fun f =>
 letk (IntKind.i64.wrap (e - f)) fun c =>
 letk (decide (c < (0:Int))) fun g =>
 bif g then
 some ([],b)
 else
 chk (((([]:List Int)).length + b.length) * 4 ≤ 140737488355328) <|
 letk ((([]:List Int)) ++ b) fun h =>
 Option.bind (Ref2.upN d c) fun i =>
 chk ((32:Int) ≠ 0) <|
 letk (IntKind.i64.wrap (c.tdiv (32:Int))) fun j =>
 letk (IntKind.i64.wrap (j + (1:Int))) fun a =>
 chk (0 ≤ a ∧ a ≤ a ∧ a ≤ 9223372036854775807 ∧ 4 * a ≤ 140737488355328) <|
 letk ((List.replicate a.toNat 0:List Int)) fun k =>
 Ref2.divide.l0 h i k c
theorem Ref2.divide_ok {g:List Int} {x:List Int} {r:(List Int) × (List Int)} (y:Ref2.divide g x = some r):Gives Tryz.prog 87 [.vs 1 (g.map (eI .u32)),.vs 1 (x.map (eI .u32))] (.tup [.vs 1 (r.1.map (eI .u32)),.vs 1 (r.2.map (eI .u32))]):=by
 unfold Ref2.divide at y
 refine W' [] Tryz.func87 ?_
 refine Gate.go (A' y Ref2.nat.bits_ok fun _ h1=>Gate.go (A' h1 Ref2.nat.bits_ok fun _ h2=>N' h2 fun ak h3=>C' h3 (fun i=>Gate.go (Nm.mk ⟨(([]:List Int)).map (eI .u32),rfl,?_⟩)) fun i=>?_))
 obtain ⟨al,h6⟩:=chk_elim i
 obtain ⟨z,am,h7⟩:=letk_elim h6
 refine Gate.go (Side.mk (full_le _) ?_)
 refine Side.mk (one_map (fun _ _ hc=>by simp only [AV.cells,List.mem_singleton] at hc; subst hc; rfl)) ?_
 refine Side.mk (side_rv (by decide) al) ?_
 refine Nm.mk ⟨z.map (eI .u32),by rw [am]; exact app_rv,?_⟩
 obtain ⟨aa,an,h8⟩:=bind_elim h7
 refine Gate.go (CallN.fresh (s:=1) (es:=aa.map (eI .u32)) (Ref2.upN_ok an) rfl ?_)
 refine S' h8 fun h9=>N' h9 fun _ ao=>N' ao fun _ ap=>S' ap fun aq=>?_
 obtain ⟨ab,ar,ac⟩:=letk_elim aq
 refine Nm.mk ⟨ab.map (eI .u32),by rw [ar,List.map_replicate]; rfl,?_⟩
 unfold Ref2.divide.l0 at ac
 refine LoopB.of (σ:=(List Int) × (List Int) × (List Int) × Int) (ρ:=(List Int) × (List Int)) (fun v:(List Int) × (List Int) × (List Int) × Int=>Ref2.divide.s0 v.1 v.2.1 v.2.2.1 v.2.2.2) (fun v=>(⟨56,[(7,.ref 0 0 ((v.1.map (eI .u32)).length)),(8,.ref 1 0 ((v.2.1.map (eI .u32)).length)),(9,.ref 2 0 ((v.2.2.1.map (eI .u32)).length)),(10,.lit (.int .i64 v.2.2.2))],[.arr 1 (v.1.map (eI .u32)),.arr 1 (v.2.1.map (eI .u32)),.arr 1 (v.2.2.1.map (eI .u32))]⟩:St)) (z,aa,ab,ak) ac (B' [1,2,3] rfl) ?_
 rintro _ ⟨c,a,b,e⟩ x1 f ad au
 replace f:Ref2.divide.s0 c a b e = some x1:=f
 unfold Ref2.divide.s0 at f
 refine C' f (fun j=>?_) fun j=>?_
 obtain ⟨_,av,n⟩:=map_elim j
 have n:=(au _ n.symm).symm
 subst n
 obtain ⟨aw,ax,ay⟩:=bind_elim av
 refine Gate.weak (Sees.of (Weak.objs (k:=56) (keep:=[0]) (frz:=[2]) (m:=0) (ts:=[(7,.ref 0 0 ((c.map (eI .u32)).length)),(53,.vs 1 (b.map (eI .u32)))]) (hs:=[.arr 1 (c.map (eI .u32))]) rfl (by decide) rfl rfl ⟨⟨_,rfl,.arr _ _⟩,⟨rfl,fun _ h=>by cases h⟩⟩ ⟨(.ref _ _ _ 0 rfl),(WV.all (k:=2) (by decide) rfl),trivial⟩)) ?_
 refine Z' (Ref2.nat.trim_ok ax) ?_
 have az:=Option.some.inj ay
 subst az
 exact Returns.frozen (r:=.tup [.vs 1 (aw.map (eI .u32)),.vs 1 (c.map (eI .u32))]) [0] rfl rfl (WV.tups ⟨.s,(WV.all (k:=0) (by decide) rfl),trivial⟩) ⟨rfl,rfl⟩
 obtain ⟨ba,bb,bc⟩:=bind_elim j
 refine Gate.go (CallN.lendBy (v:=.lit (.int .i64 ba)) (Ref2.compare_ok bb) ⟨lend_all rfl,lend_all rfl,trivial⟩ rfl ?_)
 refine C' bc (fun o=>?_) fun o=>?_
 obtain ⟨p,bd,q⟩:=bind_elim o
 refine Gate.weak (Sees.of (Weak.objs (k:=56) (keep:=[1,0,2]) (frz:=[]) (m:=0) (ts:=[(7,.ref 1 0 ((c.map (eI .u32)).length)),(9,.ref 2 0 ((b.map (eI .u32)).length)),(10,.lit (.int .i64 e)),(51,.ref 0 0 ((a.map (eI .u32)).length))]) (hs:=[.arr 1 (a.map (eI .u32)),.arr 1 (c.map (eI .u32)),.arr 1 (b.map (eI .u32))]) rfl (by decide) rfl rfl ⟨⟨_,rfl,.arr _ _⟩,⟨⟨_,rfl,.arr _ _⟩,⟨⟨_,rfl,.arr _ _⟩,⟨rfl,fun _ h=>by cases h⟩⟩⟩⟩ ⟨(.ref _ _ _ 1 rfl),(.ref _ _ _ 2 rfl),.s,(.ref _ _ _ 0 rfl),trivial⟩)) ?_
 refine CallN.handF (k:=1) (m:=1) (v:=.ref 0 0 ((p.map (eI .u32)).length)) (hs':=[.arr 1 (p.map (eI .u32))]) (rest:=[.arr 1 (c.map (eI .u32)),.arr 1 (b.map (eI .u32))]) (hs2:=[.arr 1 (p.map (eI .u32)),.arr 1 (c.map (eI .u32)),.arr 1 (b.map (eI .u32))]) (ts':=[(7,.ref 1 0 ((c.map (eI .u32)).length)),(9,.ref 2 0 ((b.map (eI .u32)).length)),(10,.lit (.int .i64 e)),(51,.ref 0 0 ((a.map (eI .u32)).length))]) (Ref2.halfH_ok bd) rfl rfl rfl rfl rfl rfl rfl rfl rfl ?_
 refine N' q fun _ t=>?_
 exact B' [1,0,2] ⟨_,ad _ (Option.some.inj t).symm,rfl⟩
 obtain ⟨d,be,q⟩:=bind_elim o
 refine Gate.weak (Sees.of (Weak.objs (k:=56) (keep:=[0,1,2]) (frz:=[]) (m:=0) (ts:=[(8,.ref 1 0 ((a.map (eI .u32)).length)),(9,.ref 2 0 ((b.map (eI .u32)).length)),(10,.lit (.int .i64 e)),(38,.ref 0 0 ((c.map (eI .u32)).length)),(39,.ref 1 0 ((a.map (eI .u32)).length))]) (hs:=[.arr 1 (c.map (eI .u32)),.arr 1 (a.map (eI .u32)),.arr 1 (b.map (eI .u32))]) rfl (by decide) rfl rfl ⟨⟨_,rfl,.arr _ _⟩,⟨⟨_,rfl,.arr _ _⟩,⟨⟨_,rfl,.arr _ _⟩,⟨rfl,fun _ h=>by cases h⟩⟩⟩⟩ ⟨(.ref _ _ _ 1 rfl),(.ref _ _ _ 2 rfl),.s,(.ref _ _ _ 0 rfl),(.ref _ _ _ 1 rfl),trivial⟩)) ?_
 refine CallN.handF (k:=2) (m:=2) (v:=.ref 0 0 ((d.map (eI .u32)).length)) (hs':=[.arr 1 (d.map (eI .u32)),.arr 1 (a.map (eI .u32))]) (rest:=[.arr 1 (b.map (eI .u32))]) (hs2:=[.arr 1 (d.map (eI .u32)),.arr 1 (a.map (eI .u32)),.arr 1 (b.map (eI .u32))]) (ts':=[(8,.ref 1 0 ((a.map (eI .u32)).length)),(9,.ref 2 0 ((b.map (eI .u32)).length)),(10,.lit (.int .i64 e)),(38,.ref 0 0 ((c.map (eI .u32)).length)),(39,.ref 1 0 ((a.map (eI .u32)).length))]) (Ref2.lessHH_ok be) rfl rfl rfl rfl rfl rfl rfl rfl rfl ?_
 refine DrawB.ofFN 0 [.arr 1 (d.map (eI .u32)),.arr 1 (a.map (eI .u32)),.arr 1 (b.map (eI .u32))] 3 3 [[],[],[],[2],[2],[],[],[],[],[2],[2]] [[],[],[],[],[],[],[],[],[],[],[2]] [none,none,none,none,none,none,none,none,none,none,none] Tryz_mixed (by kernel_rfl) rfl rfl rfl (by kernel_rfl) ?_
 refine FNode.mv (W:=[]) (.ref 2 0 ((b.map (eI .u32)).length)) rfl rfl ?_
 refine FNode.no (W:=[]) (.lit (.int .i64 e)) ?_ rfl ?_
 rfl
 obtain ⟨bf,t⟩:=chk_elim q
 obtain ⟨ae,bg,bh⟩:=letk_elim t
 refine FNode.no (W:=[]) (.lit (.int .i64 ae)) ?_ rfl ?_
 refine Side.mk bf ?_
 refine Nm.mk ⟨ae,bg,?_⟩
 rfl
 obtain ⟨bi,bj⟩:=chk_elim bh
 obtain ⟨af,bk,bl⟩:=letk_elim bj
 refine FNode.rd (F:=[2]) (W:=[]) (.eptr 2 af 0) ?_ rfl rfl ?_
 refine Side.mk (by simpa only [List.length_map] using bi) ?_
 refine Nm.mk ⟨af,bk,?_⟩
 rfl
 obtain ⟨bm,bn,bo⟩:=bind_elim bl
 refine FNode.rd (F:=[2]) (W:=[]) (.lit (.int .u32 bm)) ?_ rfl rfl ?_
 refine At.by bn ?_
 rfl
 refine FNode.no (W:=[]) (.lit (.int .i64 e)) ?_ rfl ?_
 rfl
 obtain ⟨bp,bq⟩:=chk_elim bo
 obtain ⟨ag,br,bs⟩:=letk_elim bq
 refine FNode.no (W:=[]) (.lit (.int .i64 ag)) ?_ rfl ?_
 refine Side.mk bp ?_
 refine Nm.mk ⟨ag,br,?_⟩
 rfl
 obtain ⟨bt,bu⟩:=chk_elim bs
 obtain ⟨ah,bv,bw⟩:=letk_elim bu
 refine FNode.no (W:=[]) (.lit (.int .u32 ah)) ?_ rfl ?_
 refine Side.mk bt ?_
 refine Nm.mk ⟨ah,bv,?_⟩
 rfl
 obtain ⟨ai,bx,bz⟩:=letk_elim bw
 refine FNode.no (W:=[]) (.lit (.int .u32 ai)) ?_ rfl ?_
 refine Nm.mk ⟨ai,bx,?_⟩
 rfl
 obtain ⟨ca,cb⟩:=chk_elim bz
 obtain ⟨aj,cc,cd⟩:=letk_elim cb
 refine FNode.rd (F:=[2]) (W:=[]) (.eptr 2 aj 0) ?_ rfl rfl ?_
 refine Side.mk (by simpa only [List.length_map] using ca) ?_
 refine Nm.mk ⟨aj,cc,?_⟩
 rfl
 obtain ⟨_,ce,cf⟩:=bind_elim cd
 obtain ⟨l,u,cg⟩:=letk_elim cf
 refine FNode.pl (F:=[2]) (W:=[2]) (.undef) [.arr 1 (d.map (eI .u32)),.arr 1 (a.map (eI .u32)),.arr 1 (l.map (eI .u32))] ?_ rfl rfl rfl rfl ?_
 refine At.by ce ?_
 refine Side.mk ⟨Nat.le_of_ble_eq_true rfl,rfl⟩ ?_
 refine Nm.mk ⟨l.map (eI .u32),by rw [u,List.map_set]; rfl,?_⟩
 rw [show (b.map (eI .u32)).length = (l.map (eI .u32)).length from by rw [u,List.length_map,List.length_map,List.length_set]]
 rfl
 rw [show (b.map (eI .u32)).length = (l.map (eI .u32)).length from by rw [u,List.length_map,List.length_map,List.length_set]]
 obtain ⟨w,ch,ci⟩:=bind_elim cg
 refine Gate.weak (Sees.of (Weak.objs (k:=56) (keep:=[1,0,2]) (frz:=[]) (m:=0) (ts:=[(7,.ref 1 0 ((d.map (eI .u32)).length)),(9,.ref 2 0 ((l.map (eI .u32)).length)),(10,.lit (.int .i64 e)),(51,.ref 0 0 ((a.map (eI .u32)).length))]) (hs:=[.arr 1 (a.map (eI .u32)),.arr 1 (d.map (eI .u32)),.arr 1 (l.map (eI .u32))]) rfl (by decide) rfl rfl ⟨⟨_,rfl,.arr _ _⟩,⟨⟨_,rfl,.arr _ _⟩,⟨⟨_,rfl,.arr _ _⟩,⟨rfl,fun _ h=>by cases h⟩⟩⟩⟩ ⟨(.ref _ _ _ 1 rfl),(.ref _ _ _ 2 rfl),.s,(.ref _ _ _ 0 rfl),trivial⟩)) ?_
 refine CallN.handF (k:=1) (m:=1) (v:=.ref 0 0 ((w.map (eI .u32)).length)) (hs':=[.arr 1 (w.map (eI .u32))]) (rest:=[.arr 1 (d.map (eI .u32)),.arr 1 (l.map (eI .u32))]) (hs2:=[.arr 1 (w.map (eI .u32)),.arr 1 (d.map (eI .u32)),.arr 1 (l.map (eI .u32))]) (ts':=[(7,.ref 1 0 ((d.map (eI .u32)).length)),(9,.ref 2 0 ((l.map (eI .u32)).length)),(10,.lit (.int .i64 e)),(51,.ref 0 0 ((a.map (eI .u32)).length))]) (Ref2.halfH_ok ch) rfl rfl rfl rfl rfl rfl rfl rfl rfl ?_
 refine N' ci fun _ cj=>?_
 exact B' [1,0,2] ⟨_,ad _ (Option.some.inj cj).symm,rfl⟩
 have ck:=Option.some.inj i
 subst ck
 exact Returns.frozen (r:=.tup [.vs 1 (([]).map (eI .u32)),.vs 1 (g.map (eI .u32))]) [] rfl rfl (WV.tups ⟨(.nilsVs _),.s,trivial⟩) ⟨rfl,rfl⟩
noncomputable def Ref2.nat.value.s0 (c:List Int) (b:Int) (a:Int):Option ((Int × Int) ⊕ Int) :=
 letk (decide (a ≥ (0:Int))) fun d =>
 bif d then
 chk (0 ≤ (32:Int)) <|
 letk (IntKind.u64.wrap (b * 2 ^ (min (32:Int).toNat (IntKind.u64).bits))) fun e =>
 chk (0 ≤ a) <|
 Option.bind (c[a.toNat]?) fun f =>
 letk (IntKind.u64.wrap f) fun g =>
 letk (IntKind.u64.wrap (BitVec.ofInt (IntKind.u64).bits e ||| BitVec.ofInt (IntKind.u64).bits g).toNat) fun h =>
 letk (IntKind.i64.wrap (a - (1:Int))) fun i =>
 some (.inl (h,i))
 else
 some (.inr b)
noncomputable def Ref2.nat.value.l0 (a:List Int) (b:Int) (c:Int):Option Int:=loopO (fun v:Int × Int=>Ref2.nat.value.s0 a v.1 v.2) (b,c)
noncomputable def Ref2.nat.value (a:List Int):Option Int :=
 letk ((a.length:Int)) fun b =>
 letk (IntKind.i64.wrap (b - (1:Int))) fun c =>
 Ref2.nat.value.l0 a 0 c
theorem Ref2.nat.value_ok {a:List Int} {r:Int} (d:Ref2.nat.value a = some r):Gives Tryz.prog 88 [.vs 1 (a.map (eI .u32))] (.lit (.int .u64 r)):=by
 unfold Ref2.nat.value at d
 refine W' [] Tryz.func88 ?_
 obtain ⟨f,g,h⟩:=letk_elim d
 refine Nm.mk ⟨f,by rw [g,List.length_map],?_⟩
 refine N' h fun i e=>?_
 unfold Ref2.nat.value.l0 at e
 refine LoopB.of (σ:=Int × Int) (ρ:=Int) (fun v:Int × Int=>Ref2.nat.value.s0 a v.1 v.2) (fun v=>(⟨21,[(0,.vs 1 (a.map (eI .u32))),(3,.lit (.int .u64 v.1)),(4,.lit (.int .i64 v.2))],[]⟩:St)) (0,i) e (B' [] rfl) ?_
 rintro _ ⟨j,k⟩ l b m n
 replace b:Ref2.nat.value.s0 a j k = some l:=b
 unfold Ref2.nat.value.s0 at b
 refine C' b (fun c=>?_) fun c=>S' c fun o=>N' o fun _ p=>?_
 have q:=n _ (Option.some.inj c).symm
 have s:=congrArg some q
 exact R' (E:=E6') s
 obtain ⟨t,u⟩:=chk_elim p
 obtain ⟨_,w,x⟩:=bind_elim u
 refine Side.mk t ?_
 refine At.by w ?_
 refine N' x fun _ y=>N' y fun _ z=>N' z fun _ aa=>?_
 exact B' [] ⟨_,m _ (Option.some.inj aa).symm,rfl⟩
noncomputable def Ref2.away.j0 (b:List Int) (c:List Int) (d:Bool):Option Bool :=
 Option.bind (Ref2.up b 1) fun e =>
 Option.bind (Ref2.compare e c) fun a =>
 letk (decide (a > (0:Int))) fun f =>
 bif f then
 some true
 else
 letk (a == (0:Int)) fun g =>
 bif g then
 some d
 else
 some false
noncomputable def Ref2.away.j1 (a:Int) (b:Int) (c:List Int) (d:List Int) (e:Bool) (f:Bool):Option Bool :=
 bif f then
 some false
 else
 letk (a == (2:Int)) fun g =>
 bif g then
 letk (b == (1:Int)) fun h =>
 some h
 else
 letk (a == (3:Int)) fun i =>
 bif i then
 letk (b == (0:Int)) fun j =>
 some j
 else
 Ref2.away.j0 c d e
noncomputable def Ref2.away (a:Int) (c:Int) (d:Bool) (b:List Int) (e:List Int):Option Bool :=
 letk ((b.length:Int)) fun f =>
 letk (f == (0:Int)) fun g =>
 bif g then
 Ref2.away.j1 a c b e d true
 else
 letk (a == (1:Int)) fun h =>
 Ref2.away.j1 a c b e d h
theorem Ref2.away_ok {g:Int} {h:Int} {o:Bool} {a:List Int} {b:List Int} {r:Bool} (p:Ref2.away g h o a b = some r):Gives Tryz.prog 89 [.lit (.int .i64 g),.lit (.int .i64 h),.lit (.bool o),.vs 1 (a.map (eI .u32)),.vs 1 (b.map (eI .u32))] (.lit (.bool r)):=by
 unfold Ref2.away at p
 refine W' [(0,7),(22,5)] Tryz.func89 ?_
 refine CutN.of (fun s=>∃ j,Ref2.away.j0 a b j = some r ∧ s = ⟨43,[(2,.lit (.bool j)),(3,.vs 1 (a.map (eI .u32))),(4,.vs 1 (b.map (eI .u32)))],[]⟩) ?_ ?_
 refine CutN.of (fun s=>∃ k i,Ref2.away.j1 g h a b k i = some r ∧ s = ⟨43,[(0,.lit (.int .i64 g)),(1,.lit (.int .i64 h)),(2,.lit (.bool k)),(3,.vs 1 (a.map (eI .u32))),(4,.vs 1 (b.map (eI .u32))),(12,.lit (.bool i))],[]⟩) ?_ ?_
 obtain ⟨q,t,u⟩:=letk_elim p
 refine Nm.mk ⟨q,by rw [t,List.length_map],?_⟩
 refine C' u (fun l=>N' l fun _ v=>?_) fun l=>?_
 exact B' [] ⟨_,_,v,rfl⟩
 exact B' [] ⟨_,_,l,rfl⟩
 rintro s ⟨k,i,c,rfl⟩
 unfold Ref2.away.j1 at c
 rcases i with _ | _
 have d:=bif_f c
 refine C' d (fun m=>C' m (fun n=>?_) fun n=>N' n fun _ e=>R' (E:=E1') e) fun m=>N' m fun _ f=>R' (E:=E1') f
 exact B' [] ⟨_,n,rfl⟩
 have d:=bif_t c
 exact R' (E:=E1') d
 rintro s ⟨j,c,rfl⟩
 unfold Ref2.away.j0 at c
 exact Gate.go (A' c Ref2.up_ok fun _ d=>Gate.go (A' d Ref2.compare_ok fun _ w=>C' w (fun f=>C' f (fun e=>R' (E:=E1') e) fun e=>R' (E:=E1') e) fun f=>R' (E:=E1') f))
end Go.Q
