import Derived.Test.YtmfhkipeapdfmaaGreatDoorEG2
import Derived.Test.YtmfhkipeapdfmaaGreatDoorFX
import Derived.Test.YtmfhkipeapdfmaaGreatDoorFY
import Derived.Test.YtmfhkipeapdfmaaGreatDoorProg
namespace Go.Q
open Go Go.Proofs
set_option maxRecDepth 10000
set_option maxHeartbeats 2000000
noncomputable def Ref2.Form.round.j4 (a:Int) (b:Int) (c:Int) (f:List Int) (g:List Int):Option (Int × Int) :=
 Option.bind (Ref2.Form.top (⟨a,b⟩:quadratref02.Form)) fun d =>
 Option.bind (Ref2.Form.bits (⟨a,b⟩:quadratref02.Form) c d 0) fun e =>
 some (e,20)
noncomputable def Ref2.Form.round.j5 (a:Int) (b:Int) (c:Int) (e:List Int) (f:List Int) (g:Bool):Option (Int × Int) :=
 bif g then
 Option.bind (Ref2.Form.top (⟨a,b⟩:quadratref02.Form)) fun h =>
 letk (IntKind.i64.wrap (h - (1:Int))) fun i =>
 letk (IntKind.i64.wrap (a - (1:Int))) fun d =>
 chk (0 ≤ d) <|
 letk (IntKind.u64.wrap ((1:Int) * 2 ^ (min d.toNat (IntKind.u64).bits))) fun j =>
 letk (IntKind.u64.wrap (j - (1:Int))) fun k =>
 Option.bind (Ref2.Form.bits (⟨a,b⟩:quadratref02.Form) c i k) fun l =>
 some (l,20)
 else
 Ref2.Form.round.j4 a b c e f
noncomputable def Ref2.Form.round.j3 (f:Int) (h:Int) (a:Int) (c:Int) (b:Int) (d:List Int) (e:List Int) (i:Int) (g:Int):Option (Int × Int) :=
 letk (IntKind.i64.wrap (i + a)) fun l =>
 letk (IntKind.i64.wrap (l - (1:Int))) fun m =>
 Option.bind (Ref2.Form.bias (⟨a,c⟩:quadratref02.Form)) fun n =>
 letk (decide (m > n)) fun o =>
 bif o then
 letk (f == (1:Int)) fun p =>
 bif p then
 Ref2.Form.round.j5 a c b d e true
 else
 letk (f == (2:Int)) fun q =>
 bif q then
 letk (b == (0:Int)) fun r =>
 bif r then
 Ref2.Form.round.j5 a c b d e true
 else
 letk (f == (3:Int)) fun s =>
 bif s then
 letk (b == (1:Int)) fun t =>
 Ref2.Form.round.j5 a c b d e t
 else
 Ref2.Form.round.j5 a c b d e false
 else
 letk (f == (3:Int)) fun u =>
 bif u then
 letk (b == (1:Int)) fun v =>
 Ref2.Form.round.j5 a c b d e v
 else
 Ref2.Form.round.j5 a c b d e false
 else
 letk (IntKind.i64.wrap (a - (1:Int))) fun j =>
 chk (0 ≤ j) <|
 letk (IntKind.u64.wrap ((1:Int) * 2 ^ (min j.toNat (IntKind.u64).bits))) fun w =>
 letk (decide (g < w)) fun x =>
 bif x then
 Option.bind (Ref2.Form.bits (⟨a,c⟩:quadratref02.Form) b 0 g) fun y =>
 some (y,h)
 else
 Option.bind (Ref2.Form.bias (⟨a,c⟩:quadratref02.Form)) fun z =>
 letk (IntKind.i64.wrap (i + z)) fun aa =>
 letk (IntKind.i64.wrap (aa + a)) fun ab =>
 letk (IntKind.i64.wrap (ab - (1:Int))) fun ac =>
 letk (IntKind.i64.wrap (a - (1:Int))) fun k =>
 chk (0 ≤ k) <|
 letk (IntKind.u64.wrap ((1:Int) * 2 ^ (min k.toNat (IntKind.u64).bits))) fun ad =>
 letk (IntKind.u64.wrap (g - ad)) fun ae =>
 Option.bind (Ref2.Form.bits (⟨a,c⟩:quadratref02.Form) b ac ae) fun af =>
 some (af,h)
noncomputable def Ref2.Form.round.j2 (c:Int) (d:Int) (e:Int) (a:Int) (f:Int) (g:Int) (h:List Int) (i:List Int) (b:Int):Option (Int × Int) :=
 chk (0 ≤ a) <|
 letk (IntKind.u64.wrap ((1:Int) * 2 ^ (min a.toNat (IntKind.u64).bits))) fun j =>
 letk (b == j) fun k =>
 bif k then
 chk ((2:Int) ≠ 0) <|
 letk (IntKind.u64.wrap (b.tdiv (2:Int))) fun l =>
 letk (IntKind.i64.wrap (d + (1:Int))) fun m =>
 Ref2.Form.round.j3 c e a f g h i m l
 else
 Ref2.Form.round.j3 c e a f g h i d b
noncomputable def Ref2.Form.round.j1 (a:Int) (d:Int) (j:List Int) (k:List Int) (b:Int) (e:Int) (f:Int) (c:Int) (g:List Int) (h:List Int) (i:Int):Option (Int × Int) :=
 chk ((2:Int) ≠ 0) <|
 letk (b.tmod (2:Int)) fun l =>
 letk (l == (1:Int)) fun m =>
 Option.bind (Ref2.away a c m j k) fun n =>
 bif n then
 letk (IntKind.u64.wrap (b + (1:Int))) fun o =>
 Ref2.Form.round.j2 a d i e f c g h o
 else
 Ref2.Form.round.j2 a d i e f c g h b
noncomputable def Ref2.Form.round.j0 (d:Int) (a:Int) (e:Int) (f:Int) (g:List Int) (h:List Int) (i:Int) (l:List Int) (b:List Int) (j:List Int):Option (Int × Int) :=
 Option.bind (Ref2.nat.value l) fun c =>
 letk ((b.length:Int)) fun m =>
 letk (decide (m > (0:Int))) fun n =>
 bif n then
 letk (IntKind.i64.wrap (a - (1:Int))) fun k =>
 chk (0 ≤ k) <|
 letk (IntKind.u64.wrap ((1:Int) * 2 ^ (min k.toNat (IntKind.u64).bits))) fun o =>
 letk (decide (c < o)) fun p =>
 bif p then
 Ref2.Form.round.j1 d i b j c a e f g h 24
 else
 Ref2.Form.round.j1 d i b j c a e f g h 16
 else
 Ref2.Form.round.j1 d i b j c a e f g h 0
noncomputable def Ref2.Form.round.j6 (i:Int) (b:Int) (a:Int) (c:Int) (d:Int) (e:List Int) (f:List Int) (g:List Int) (j:List Int):Option ((Int × Int × Int × (List Int) × (List Int) × Int) ⊕ (Int × Int)) :=
 Option.bind (Ref2.divide j g) fun (h,k) =>
 Option.bind (Ref2.nat.bits h) fun l =>
 letk (decide (l ≤ a)) fun m =>
 bif m then
 (Ref2.Form.round.j0 i a c d e f b h k g).map .inr
 else
 letk (IntKind.i64.wrap (b + (1:Int))) fun n =>
 some (.inl (a,c,d,e,f,n))
noncomputable def Ref2.Form.round.s0 (d:Int) (e:Int) (f:Int) (g:Int) (b:List Int) (c:List Int) (a:Int):Option ((Int × Int × Int × (List Int) × (List Int) × Int) ⊕ (Int × Int)) :=
 letk (decide (a < (0:Int))) fun h =>
 bif h then
 letk (IntKind.i64.wrap (0 - a)) fun i =>
 Option.bind (Ref2.up b i) fun j =>
 Ref2.Form.round.j6 d a e f g b c c j
 else
 Option.bind (Ref2.up c a) fun k =>
 Ref2.Form.round.j6 d a e f g b c k b
noncomputable def Ref2.Form.round.l0 (a:Int) (b:Int) (c:Int) (d:Int) (e:List Int) (f:List Int) (g:Int):Option (Int × Int):=loopO (fun v:Int × Int × Int × (List Int) × (List Int) × Int=>Ref2.Form.round.s0 a v.1 v.2.1 v.2.2.1 v.2.2.2.1 v.2.2.2.2.1 v.2.2.2.2.2) (b,c,d,e,f,g)
noncomputable def Ref2.Form.round (a:quadratref02.Form) (e:Int) (b:quadratref02.fraction):Option (Int × Int) :=
 Option.bind (Ref2.Form.bias (⟨a.P,a.W⟩:quadratref02.Form)) fun f =>
 letk (IntKind.i64.wrap ((2:Int) - f)) fun g =>
 letk (IntKind.i64.wrap (g - a.P)) fun c =>
 Option.bind (Ref2.nat.bits b.num) fun h =>
 Option.bind (Ref2.nat.bits b.den) fun i =>
 letk (IntKind.i64.wrap (h - i)) fun j =>
 letk (IntKind.i64.wrap (j - a.P)) fun d =>
 letk (if c > d then c else d) fun k =>
 Ref2.Form.round.l0 e a.P a.W b.sign b.num b.den k
theorem Ref2.Form.round_ok {f0:quadratref02.Form} {d:Int} {x:quadratref02.fraction} {r:Int × Int} (h0:Ref2.Form.round f0 d x = some r):Gives Tryz.prog 38 [quadratref02.Form.enc f0,.lit (.int .i64 d),quadratref02.fraction.enc x] (.tup [.lit (.int .i64 r.1),.lit (.int .i64 r.2)]):=by
 unfold Ref2.Form.round at h0
 refine W' [(0,12),(0,18),(0,20),(0,22),(0,25),(128,49),(0,9)] Tryz.func38 ?_
 refine V' (V' (DrawB.ofG [none,none,none,none,none,none,none] Tryz_mixed (by kernel_rfl) (by kernel_rfl) ?_))
 refine D' rfl (DC' h0 (fun e=>Z' (Ref2.Form.bias_ok e) rfl) fun cp h1=>DN' h1 (fun e=>n' e rfl) fun cq h2=>D' rfl (D' rfl (DN' h2 (fun e=>n' e rfl) fun cr h3=>D' rfl (L' [0,1] [1,3,5,8] ?_))))
 refine DrawB.ofG [none,none,none,none,none,none,none,none,none,none,none,none,none] Tryz_mixed (by kernel_rfl) (by kernel_rfl) ?_
 refine D' rfl (D' rfl (DC' h3 (fun e=>Z' (Ref2.nat.bits_ok e) rfl) fun cs h4=>D' rfl (D' rfl (DC' h4 (fun e=>Z' (Ref2.nat.bits_ok e) rfl) fun ct h5=>DN' h5 (fun e=>n' e rfl) fun cu h6=>D' rfl (D' rfl (DN' h6 (fun e=>n' e rfl) fun cv h7=>D' rfl (DN' h7 (fun e=>n' e rfl) fun bo h8=>D' rfl (CutN.of (fun s=>∃ ad ae af ag ah m ai y z,Ref2.Form.round.j0 d ad ae af ag ah m ai y z = some r ∧ s = ⟨168,[(1,.lit (.int .i64 d)),(3,.ptr 0 0),(5,.ptr 1 0),(9,.lit (.int .i64 m)),(10,.vs 1 (ai.map (eI .u32))),(11,.vs 1 (y.map (eI .u32))),(12,.vs 1 (z.map (eI .u32)))],[.box [.lit (.int .i64 ad),.lit (.int .i64 ae)],.box [.lit (.int .i64 af),.vs 1 (ag.map (eI .u32)),.vs 1 (ah.map (eI .u32))]]⟩) ?_ ?_))))))))
 unfold Ref2.Form.round.l0 at h8
 refine LoopB.of (σ:=Int × Int × Int × (List Int) × (List Int) × Int) (ρ:=Int × Int) (fun v:Int × Int × Int × (List Int) × (List Int) × Int=>Ref2.Form.round.s0 d v.1 v.2.1 v.2.2.1 v.2.2.2.1 v.2.2.2.2.1 v.2.2.2.2.2) (fun v=>(⟨168,[(1,.lit (.int .i64 d)),(3,.ptr 0 0),(5,.ptr 1 0),(9,.lit (.int .i64 v.2.2.2.2.2))],[.box [.lit (.int .i64 v.1),.lit (.int .i64 v.2.1)],.box [.lit (.int .i64 v.2.2.1),.vs 1 (v.2.2.2.1.map (eI .u32)),.vs 1 (v.2.2.2.2.1.map (eI .u32))]]⟩:St)) (f0.P,f0.W,x.sign,x.num,x.den,bo) h8 (B' [0,1] rfl) ?_
 rintro K1 ⟨bp,bq,br,bs,bt,aj⟩ x1 ab bu bv
 replace ab:Ref2.Form.round.s0 d bp bq br bs bt aj = some x1:=ab
 unfold Ref2.Form.round.s0 at ab
 refine CutN.of (fun s=>∃ ak al am an ao ap aq,Ref2.Form.round.j6 d aj ak al am an ao ap aq = some x1 ∧ s = ⟨168,[(1,.lit (.int .i64 d)),(3,.ptr 0 0),(5,.ptr 1 0),(9,.lit (.int .i64 aj)),(12,.vs 1 (ap.map (eI .u32))),(13,.vs 1 (aq.map (eI .u32)))],[.box [.lit (.int .i64 ak),.lit (.int .i64 al)],.box [.lit (.int .i64 am),.vs 1 (an.map (eI .u32)),.vs 1 (ao.map (eI .u32))]]⟩) ?_ ?_
 refine C' ab (fun ar=>Gate.go (A' ar Ref2.up_ok fun cw au=>?_)) fun ar=>N' ar fun cx au=>Gate.go (A' au Ref2.up_ok fun cy bw=>?_)
 exact B' [0,1] ⟨_,_,_,_,_,_,_,au,rfl⟩
 exact B' [0,1] ⟨_,_,_,_,_,_,_,bw,rfl⟩
 rintro s ⟨ak,al,am,an,ao,ap,aq,a,rfl⟩
 unfold Ref2.Form.round.j6 at a
 obtain ⟨⟨cz,da⟩,bx,f⟩:=bind_elim a
 refine Gate.go (Z' (Ref2.divide_ok bx) (DrawB.ofG [none,none,none,none,none] Tryz_mixed (by kernel_rfl) (by kernel_rfl) ?_))
 refine D' rfl (DC' f (fun e=>Z' (Ref2.nat.bits_ok e) rfl) fun db g=>D' rfl (D' rfl (DN' g (fun e=>n' e rfl) fun bz l=>?_)))
 rcases bz with _ | _
 have b:=bif_f l
 refine N' b fun dc h=>?_
 exact B' [0,1] ⟨_,bu _ (Option.some.inj h).symm,rfl⟩
 have b:=bif_t l
 obtain ⟨dd,ca,av⟩:=map_elim b
 have av:=(bv _ av.symm).symm
 subst av
 exact B' [0,1] ⟨_,_,_,_,_,_,_,_,_,ca,rfl⟩
 rintro s ⟨ad,ae,af,ag,ah,m,ai,y,z,a,rfl⟩
 unfold Ref2.Form.round.j0 at a
 refine Gate.go (A' a Ref2.nat.value_ok fun bn f=>CutN.of (fun s=>∃ aw ax ay az ba n,Ref2.Form.round.j1 d m y z bn aw ax ay az ba n = some r ∧ s = ⟨168,[(1,.lit (.int .i64 d)),(3,.ptr 0 0),(5,.ptr 1 0),(9,.lit (.int .i64 m)),(11,.vs 1 (y.map (eI .u32))),(12,.vs 1 (z.map (eI .u32))),(14,.lit (.int .u64 bn)),(15,.lit (.int .i64 n))],[.box [.lit (.int .i64 aw),.lit (.int .i64 ax)],.box [.lit (.int .i64 ay),.vs 1 (az.map (eI .u32)),.vs 1 (ba.map (eI .u32))]]⟩) ?_ ?_)
 obtain ⟨cb,cc,g⟩:=letk_elim f
 refine Nm.mk ⟨cb,by rw [cc,List.length_map],?_⟩
 refine C' g (fun b=>?_) fun b=>N' b fun de h=>S' h fun k=>N' k fun df i=>C' i (fun o=>?_) fun o=>?_
 exact B' [0,1] ⟨_,_,_,_,_,_,b,rfl⟩
 exact B' [0,1] ⟨_,_,_,_,_,_,o,rfl⟩
 exact B' [0,1] ⟨_,_,_,_,_,_,o,rfl⟩
 rintro s ⟨aw,ax,ay,az,ba,n,a,rfl⟩
 unfold Ref2.Form.round.j1 at a
 refine CutN.of (fun s=>∃ p q t u w bb,Ref2.Form.round.j2 d m n p q t u w bb = some r ∧ s = ⟨168,[(1,.lit (.int .i64 d)),(3,.ptr 0 0),(5,.ptr 1 0),(9,.lit (.int .i64 m)),(14,.lit (.int .u64 bb)),(15,.lit (.int .i64 n))],[.box [.lit (.int .i64 p),.lit (.int .i64 q)],.box [.lit (.int .i64 t),.vs 1 (u.map (eI .u32)),.vs 1 (w.map (eI .u32))]]⟩) ?_ ?_
 obtain ⟨cd,f⟩:=chk_elim a
 obtain ⟨ce,cf,g⟩:=letk_elim f
 refine Side.mk cd ?_
 refine Nm.mk ⟨ce,cf,?_⟩
 refine N' g fun dg l=>Gate.go (A' l Ref2.away_ok fun cg b=>?_)
 rcases cg with _ | _
 have h:=bif_f b
 exact B' [0,1] ⟨_,_,_,_,_,_,h,rfl⟩
 have h:=bif_t b
 refine N' h fun dh k=>?_
 exact B' [0,1] ⟨_,_,_,_,_,_,k,rfl⟩
 rintro s ⟨p,q,t,u,w,bb,a,rfl⟩
 unfold Ref2.Form.round.j2 at a
 refine CutN.of (fun s=>∃ bc bd,Ref2.Form.round.j3 d n p q t u w bc bd = some r ∧ s = ⟨168,[(1,.lit (.int .i64 d)),(3,.ptr 0 0),(5,.ptr 1 0),(9,.lit (.int .i64 bc)),(14,.lit (.int .u64 bd)),(15,.lit (.int .i64 n))],[.box [.lit (.int .i64 p),.lit (.int .i64 q)],.box [.lit (.int .i64 t),.vs 1 (u.map (eI .u32)),.vs 1 (w.map (eI .u32))]]⟩) ?_ ?_
 refine S' a fun f=>N' f fun di g=>C' g (fun b=>?_) fun b=>?_
 exact B' [0,1] ⟨_,_,b,rfl⟩
 obtain ⟨ch,h⟩:=chk_elim b
 obtain ⟨ci,cj,k⟩:=letk_elim h
 refine Side.mk ch ?_
 refine Nm.mk ⟨ci,cj,?_⟩
 refine N' k fun dj i=>?_
 exact B' [0,1] ⟨_,_,i,rfl⟩
 rintro s ⟨bc,bd,a,rfl⟩
 unfold Ref2.Form.round.j3 at a
 refine DrawB.ofG [none,none,none,none,none,none,none,none] Tryz_mixed (by kernel_rfl) (by kernel_rfl) ?_
 refine D' rfl (D' rfl (D' rfl (DN' a (fun e=>n' e rfl) fun dk f=>DN' f (fun e=>n' e rfl) fun dl g=>D' rfl (DC' g (fun e=>Z' (Ref2.Form.bias_ok e) rfl) fun dm l=>DN' l (fun e=>n' e rfl) fun ck b=>?_))))
 rcases ck with _ | _
 have h:=bif_f b
 refine N' h fun dn k=>S' k fun i=>N' i fun dp be=>C' be (fun bf=>L' [0,1] [3,5,9,14,15] ?_) fun bf=>Gate.go (A' bf Ref2.Form.bits_ok fun dq j=>R' (E:=E10') j)
 refine DrawB.ofG [none,none,none,none,none,none,none,none,none,none,none,none,none,none,none,none,none,none,none,none,none] Tryz_mixed (by kernel_rfl) (by kernel_rfl) ?_
 exact D' rfl (D' rfl (D' rfl (D' rfl (D' rfl (DC' bf (fun e=>Z' (Ref2.Form.bias_ok e) rfl) fun dr j=>DN' j (fun e=>n' e rfl) fun ds bg=>D' rfl (D' rfl (DN' bg (fun e=>n' e rfl) fun dt aa=>DN' aa (fun e=>n' e rfl) fun du bh=>D' rfl (D' rfl (D' rfl (DN' bh (fun e=>n' e rfl) fun dv cl=>DS' cl (fun c e=>Side.mk c (n' e rfl)) fun dw cm=>DN' cm (fun e=>n' e rfl) fun dx cn=>DC' cn (fun e=>Z' (Ref2.Form.bits_ok e) rfl) fun dy co=>D' rfl (D' rfl (D' rfl (R' (E:=E10') co)))))))))))))
 have h:=bif_t b
 refine CutN.of (fun s=>∃ bi bj bk bl bm,Ref2.Form.round.j4 bi bj bk bl bm = some r ∧ s = ⟨168,[(3,.ptr 0 0),(5,.ptr 1 0)],[.box [.lit (.int .i64 bi),.lit (.int .i64 bj)],.box [.lit (.int .i64 bk),.vs 1 (bl.map (eI .u32)),.vs 1 (bm.map (eI .u32))]]⟩) ?_ ?_
 refine CutN.of (fun s=>∃ ac,Ref2.Form.round.j5 p q t u w ac = some r ∧ s = ⟨168,[(3,.ptr 0 0),(5,.ptr 1 0),(118,.lit (.bool ac))],[.box [.lit (.int .i64 p),.lit (.int .i64 q)],.box [.lit (.int .i64 t),.vs 1 (u.map (eI .u32)),.vs 1 (w.map (eI .u32))]]⟩) ?_ ?_
 refine C' h (fun i=>C' i (fun o=>C' o (fun j=>?_) fun j=>N' j fun dz bg=>?_) fun o=>C' o (fun j=>C' j (fun aa=>?_) fun aa=>N' aa fun ea bh=>?_) fun j=>?_) fun i=>?_
 exact B' [0,1] ⟨_,j,rfl⟩
 exact B' [0,1] ⟨_,bg,rfl⟩
 exact B' [0,1] ⟨_,aa,rfl⟩
 exact B' [0,1] ⟨_,bh,rfl⟩
 exact B' [0,1] ⟨_,j,rfl⟩
 exact B' [0,1] ⟨_,i,rfl⟩
 rintro s ⟨ac,a,rfl⟩
 unfold Ref2.Form.round.j5 at a
 rcases ac with _ | _
 have f:=bif_f a
 exact B' [0,1] ⟨_,_,_,_,_,f,rfl⟩
 have f:=bif_t a
 refine L' [0,1] [3,5] ?_
 refine DrawB.ofG [none,none,none,none,none,none,none,none,none,none,none,none,none,none] Tryz_mixed (by kernel_rfl) (by kernel_rfl) ?_
 exact D' rfl (D' rfl (D' rfl (D' rfl (DC' f (fun e=>Z' (Ref2.Form.top_ok e) rfl) fun eb g=>DN' g (fun e=>n' e rfl) fun ec l=>D' rfl (D' rfl (DN' l (fun e=>n' e rfl) fun ed b=>DS' b (fun c e=>Side.mk c (n' e rfl)) fun ee k=>DN' k (fun e=>n' e rfl) fun ef i=>DC' i (fun e=>Z' (Ref2.Form.bits_ok e) rfl) fun eg be=>D' rfl (D' rfl (R' (E:=E10') be))))))))
 rintro s ⟨bi,bj,bk,bl,bm,a,rfl⟩
 unfold Ref2.Form.round.j4 at a
 refine DrawB.ofG [none,none,none,none,none,none,none,none] Tryz_mixed (by kernel_rfl) (by kernel_rfl) ?_
 exact D' rfl (D' rfl (D' rfl (D' rfl (DC' a (fun e=>Z' (Ref2.Form.top_ok e) rfl) fun eh f=>DC' f (fun e=>Z' (Ref2.Form.bits_ok e) rfl) fun ei g=>D' rfl (D' rfl (R' (E:=E10') g))))))
noncomputable def Ref2.Read.j0 (d:ByteArray) (e:Int) (a:quadratref02.Form):Option (Int × Int × Int) :=
 Option.bind (Ref2.parse d) fun (b,f) =>
 letk (!f) fun g =>
 bif g then
 some (0,0,3)
 else
 letk (b.word.toList == (⟨#[110,97,110]⟩:ByteArray).toList) fun h =>
 bif h then
 Option.bind (Ref2.Form.quiet (⟨a.P,a.W⟩:quadratref02.Form)) fun i =>
 some (i,0,0)
 else
 letk (b.word.toList == (⟨#[105,110,102]⟩:ByteArray).toList) fun j =>
 bif j then
 Option.bind (Ref2.Form.top (⟨a.P,a.W⟩:quadratref02.Form)) fun k =>
 Option.bind (Ref2.Form.bits (⟨a.P,a.W⟩:quadratref02.Form) b.sign k 0) fun l =>
 some (l,0,0)
 else
 Option.bind (Ref2.text.fraction (⟨b.sign,b.digits,b.x,b.word⟩:quadratref02.text)) fun (c,m) =>
 letk (!m) fun n =>
 bif n then
 Option.bind (Ref2.Form.bits (⟨a.P,a.W⟩:quadratref02.Form) b.sign 0 0) fun o =>
 some (o,0,0)
 else
 Option.bind (Ref2.Form.round (⟨a.P,a.W⟩:quadratref02.Form) e (⟨c.sign,c.num,c.den⟩:quadratref02.fraction)) fun (p,q) =>
 some (p,q,0)
noncomputable def Ref2.Read (b:ByteArray) (c:Int) (a:Int):Option (Int × Int × Int) :=
 Option.bind (Ref2.FormOf c) fun (d,e) =>
 letk (!e) fun f =>
 bif f then
 some (0,0,2)
 else
 letk (decide (a < (0:Int))) fun g =>
 bif g then
 some (0,0,2)
 else
 letk (decide (a > (3:Int))) fun h =>
 bif h then
 some (0,0,2)
 else
 Ref2.Read.j0 b a d
theorem Ref2.Read_ok {a:ByteArray} {n:Int} {b:Int} {r:Int × Int × Int} (o:Ref2.Read a n b = some r):Gives Tryz.prog 17 [.lit (.string a),.lit (.int .i64 n),.lit (.int .i64 b)] (.tup [.lit (.int .i64 r.1),.lit (.int .i64 r.2.1),.lit (.int .i64 r.2.2)]):=by
 unfold Ref2.Read at o
 refine W' [(0,4)] Tryz.func17 ?_
 obtain ⟨⟨c,aa⟩,q,t⟩:=bind_elim o
 refine Gate.go (Z' (Ref2.FormOf_ok q) (V' (V' (CutN.of (fun s=>Ref2.Read.j0 a b c = some r ∧ s = ⟨74,[(0,.lit (.string a)),(2,.lit (.int .i64 b)),(9,.ptr 0 0)],[.box [.lit (.int .i64 c.P),.lit (.int .i64 c.W)]]⟩) ?_ ?_))))
 refine C' t (fun d=>C' d (fun f=>C' f (fun g=>?_) fun g=>R' (E:=E11') g) fun f=>R' (E:=E11') f) fun d=>R' (E:=E11') d
 exact B' [0] ⟨g,rfl⟩
 rintro s ⟨p,rfl⟩
 unfold Ref2.Read.j0 at p
 obtain ⟨⟨ab,ac⟩,u,v⟩:=bind_elim p
 refine Gate.go (Z' (Ref2.parse_ok u) (V' (V' (C' v (fun h=>C' h (fun i=>C' i (fun j=>?_) fun j=>DrawB.ofG [none,none,none,none,none,none,none,none,none] Tryz_mixed (by kernel_rfl) (by kernel_rfl) ?_) fun i=>Gate.go (A' i Ref2.Form.quiet_ok fun ad w=>R' (E:=E11') w)) fun h=>R' (E:=E11') h))))
 obtain ⟨⟨ae,af⟩,x,k⟩:=bind_elim j
 refine Gate.go (Z' (Ref2.text.fraction_ok x) (V' (V' (C' k (fun l=>?_) fun l=>Gate.go (A' l Ref2.Form.bits_ok fun ag m=>R' (E:=E11') m)))))
 obtain ⟨⟨ah,ai⟩,y,m⟩:=bind_elim l
 exact Gate.go (Z' (Ref2.Form.round_ok y) (R' (E:=E11') m))
 exact D' rfl (D' rfl (D' rfl (D' rfl (DC' j (fun e=>Z' (Ref2.Form.top_ok e) rfl) fun aj k=>DC' k (fun e=>Z' (Ref2.Form.bits_ok e) rfl) fun ak z=>D' rfl (D' rfl (D' rfl (R' (E:=E11') z)))))))
noncomputable def Dec.Is (a:ByteArray):Option Bool :=
 Option.bind (Dec.parse a) fun (c,b) =>
 some b
theorem Dec.Is_ok {a:ByteArray} {r:Bool} (b:Dec.Is a = some r):Gives Tryz.prog 18 [.lit (.string a)] (.lit (.bool r)):=by
 unfold Dec.Is at b
 refine W' [] Tryz.func18 ?_
 obtain ⟨⟨e,f⟩,c,d⟩:=bind_elim b
 exact Gate.go (Z' (Dec.parse_ok c) (V' (V' (R' (E:=E1') d))))
noncomputable def Ref2.Is (a:ByteArray):Option Bool :=
 Option.bind (Ref2.parse a) fun (c,b) =>
 some b
theorem Ref2.Is_ok {a:ByteArray} {r:Bool} (b:Ref2.Is a = some r):Gives Tryz.prog 19 [.lit (.string a)] (.lit (.bool r)):=by
 unfold Ref2.Is at b
 refine W' [] Tryz.func19 ?_
 obtain ⟨⟨e,f⟩,c,d⟩:=bind_elim b
 exact Gate.go (Z' (Ref2.parse_ok c) (V' (V' (R' (E:=E1') d))))
noncomputable def Law2.DecimalReads (a:ByteArray) (b:Int) (c:Int):Option Bool :=
 letk ((a.size:Int)) fun d =>
 letk (decide (d > (200:Int))) fun e =>
 bif e then
 Option.bind (Law2.Awake) fun f =>
 some f
 else
 Option.bind (Dec.Read a b c) fun (g,h,i) =>
 Option.bind (Ref2.Read a b c) fun (j,k,l) =>
 letk (g == j) fun m =>
 bif m then
 letk (h == k) fun n =>
 bif n then
 letk (i == l) fun o =>
 bif o then
 Option.bind (Dec.Is a) fun p =>
 Option.bind (Ref2.Is a) fun q =>
 letk (p == q) fun r =>
 bif r then
 Option.bind (Law2.Awake) fun s =>
 some s
 else
 some false
 else
 some false
 else
 some false
 else
 some false
theorem Law2.DecimalReads_ok {g:ByteArray} {h:Int} {i:Int} {r:Bool} (j:Law2.DecimalReads g h i = some r):Gives Tryz.prog 4 [.lit (.string g),.lit (.int .i64 h),.lit (.int .i64 i)] (.lit (.bool r)):=by
 unfold Law2.DecimalReads at j
 refine W' [] Tryz.func4 ?_
 refine N' j fun s k=>C' k (fun a=>?_) fun a=>Gate.go (A' a Law2.Awake_ok fun t b=>R' (E:=E1') b)
 obtain ⟨⟨u,v,w⟩,l,b⟩:=bind_elim a
 refine Gate.go (Z' (Dec.Read_ok l) ?_)
 obtain ⟨⟨x,y,z⟩,m,n⟩:=bind_elim b
 exact Gate.go (Z' (Ref2.Read_ok m) (C' n (fun c=>R' (E:=E1') c) fun c=>C' c (fun d=>R' (E:=E1') d) fun d=>C' d (fun e=>R' (E:=E1') e) fun e=>Gate.go (A' e Dec.Is_ok fun aa o=>Gate.go (A' o Ref2.Is_ok fun ab p=>C' p (fun f=>R' (E:=E1') f) fun f=>Gate.go (A' f Law2.Awake_ok fun ac q=>R' (E:=E1') q)))))
end Go.Q
