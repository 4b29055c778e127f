import Derived.Test.YtmfhkipeapdfmaaGreatDoorEG2
import Derived.Test.YtmfhkipeapdfmaaGreatDoorFX
import Derived.Test.YtmfhkipeapdfmaaGreatDoorFY
import Derived.Test.YtmfhkipeapdfmaaGreatDoorProg
namespace Go.Q
open Go Go.Proofs
set_option maxRecDepth 10000
set_option maxHeartbeats 2000000
noncomputable def Ref2.Form.round.j4 (a:Int) (b:Int) (c:Int) (_:List Int) (_:List Int):Option (Int × Int) :=
 Option.bind (Ref2.Form.top (⟨a,b⟩:quadratref02.Form)) fun d =>
 Option.bind (Ref2.Form.bits (⟨a,b⟩:quadratref02.Form) c d 0) fun e =>
 some (e,20)
noncomputable def Ref2.Form.round.j5 (a:Int) (b:Int) (c:Int) (e:List Int) (f:List Int) (g:Bool):Option (Int × Int) :=
 bif g then
 Option.bind (Ref2.Form.top (⟨a,b⟩:quadratref02.Form)) fun h =>
 letk (IntKind.i64.wrap (h - (1:Int))) fun i =>
 letk (IntKind.i64.wrap (a - (1:Int))) fun d =>
 chk (0 ≤ d) <|
 letk (IntKind.u64.wrap ((1:Int) * 2 ^ (min d.toNat (IntKind.u64).bits))) fun j =>
 letk (IntKind.u64.wrap (j - (1:Int))) fun k =>
 Option.bind (Ref2.Form.bits (⟨a,b⟩:quadratref02.Form) c i k) fun l =>
 some (l,20)
 else
 Ref2.Form.round.j4 a b c e f
noncomputable def Ref2.Form.round.j3 (f:Int) (h:Int) (a:Int) (c:Int) (b:Int) (d:List Int) (e:List Int) (i:Int) (g:Int):Option (Int × Int) :=
 letk (IntKind.i64.wrap (i + a)) fun l =>
 letk (IntKind.i64.wrap (l - (1:Int))) fun m =>
 Option.bind (Ref2.Form.bias (⟨a,c⟩:quadratref02.Form)) fun n =>
 letk (decide (m > n)) fun o =>
 bif o then
 letk (f == (1:Int)) fun p =>
 bif p then
 Ref2.Form.round.j5 a c b d e true
 else
 letk (f == (2:Int)) fun q =>
 bif q then
 letk (b == (0:Int)) fun r =>
 bif r then
 Ref2.Form.round.j5 a c b d e true
 else
 letk (f == (3:Int)) fun s =>
 bif s then
 letk (b == (1:Int)) fun t =>
 Ref2.Form.round.j5 a c b d e t
 else
 Ref2.Form.round.j5 a c b d e false
 else
 letk (f == (3:Int)) fun u =>
 bif u then
 letk (b == (1:Int)) fun v =>
 Ref2.Form.round.j5 a c b d e v
 else
 Ref2.Form.round.j5 a c b d e false
 else
 letk (IntKind.i64.wrap (a - (1:Int))) fun j =>
 chk (0 ≤ j) <|
 letk (IntKind.u64.wrap ((1:Int) * 2 ^ (min j.toNat (IntKind.u64).bits))) fun w =>
 letk (decide (g < w)) fun x =>
 bif x then
 Option.bind (Ref2.Form.bits (⟨a,c⟩:quadratref02.Form) b 0 g) fun y =>
 some (y,h)
 else
 Option.bind (Ref2.Form.bias (⟨a,c⟩:quadratref02.Form)) fun z =>
 letk (IntKind.i64.wrap (i + z)) fun aa =>
 letk (IntKind.i64.wrap (aa + a)) fun ab =>
 letk (IntKind.i64.wrap (ab - (1:Int))) fun ac =>
 letk (IntKind.i64.wrap (a - (1:Int))) fun k =>
 chk (0 ≤ k) <|
 letk (IntKind.u64.wrap ((1:Int) * 2 ^ (min k.toNat (IntKind.u64).bits))) fun ad =>
 letk (IntKind.u64.wrap (g - ad)) fun ae =>
 Option.bind (Ref2.Form.bits (⟨a,c⟩:quadratref02.Form) b ac ae) fun af =>
 some (af,h)
noncomputable def Ref2.Form.round.j2 (c:Int) (d:Int) (e:Int) (a:Int) (f:Int) (g:Int) (h:List Int) (i:List Int) (b:Int):Option (Int × Int) :=
 chk (0 ≤ a) <|
 letk (IntKind.u64.wrap ((1:Int) * 2 ^ (min a.toNat (IntKind.u64).bits))) fun j =>
 letk (b == j) fun k =>
 bif k then
 chk ((2:Int) ≠ 0) <|
 letk (IntKind.u64.wrap (b.tdiv (2:Int))) fun l =>
 letk (IntKind.i64.wrap (d + (1:Int))) fun m =>
 Ref2.Form.round.j3 c e a f g h i m l
 else
 Ref2.Form.round.j3 c e a f g h i d b
noncomputable def Ref2.Form.round.j1 (a:Int) (d:Int) (j:List Int) (k:List Int) (b:Int) (e:Int) (f:Int) (c:Int) (g:List Int) (h:List Int) (i:Int):Option (Int × Int) :=
 chk ((2:Int) ≠ 0) <|
 letk (b.tmod (2:Int)) fun l =>
 letk (l == (1:Int)) fun m =>
 Option.bind (Ref2.away a c m j k) fun n =>
 bif n then
 letk (IntKind.u64.wrap (b + (1:Int))) fun o =>
 Ref2.Form.round.j2 a d i e f c g h o
 else
 Ref2.Form.round.j2 a d i e f c g h b
noncomputable def Ref2.Form.round.j0 (d:Int) (a:Int) (e:Int) (f:Int) (g:List Int) (h:List Int) (i:Int) (l:List Int) (b:List Int) (j:List Int):Option (Int × Int) :=
 Option.bind (Ref2.nat.value l) fun c =>
 letk ((b.length:Int)) fun m =>
 letk (decide (m > (0:Int))) fun n =>
 bif n then
 letk (IntKind.i64.wrap (a - (1:Int))) fun k =>
 chk (0 ≤ k) <|
 letk (IntKind.u64.wrap ((1:Int) * 2 ^ (min k.toNat (IntKind.u64).bits))) fun o =>
 letk (decide (c < o)) fun p =>
 bif p then
 Ref2.Form.round.j1 d i b j c a e f g h 24
 else
 Ref2.Form.round.j1 d i b j c a e f g h 16
 else
 Ref2.Form.round.j1 d i b j c a e f g h 0
noncomputable def Ref2.Form.round.j6 (i:Int) (b:Int) (a:Int) (c:Int) (d:Int) (e:List Int) (f:List Int) (g:List Int) (j:List Int):Option ((Int × Int × Int × (List Int) × (List Int) × Int) ⊕ (Int × Int)) :=
 Option.bind (Ref2.divide j g) fun (h,k) =>
 Option.bind (Ref2.nat.bits h) fun l =>
 letk (decide (l ≤ a)) fun m =>
 bif m then
 (Ref2.Form.round.j0 i a c d e f b h k g).map .inr
 else
 letk (IntKind.i64.wrap (b + (1:Int))) fun n =>
 some (.inl (a,c,d,e,f,n))
noncomputable def Ref2.Form.round.s0 (d:Int) (e:Int) (f:Int) (g:Int) (b:List Int) (c:List Int) (a:Int):Option ((Int × Int × Int × (List Int) × (List Int) × Int) ⊕ (Int × Int)) :=
 letk (decide (a < (0:Int))) fun h =>
 bif h then
 letk (IntKind.i64.wrap (0 - a)) fun i =>
 Option.bind (Ref2.up b i) fun j =>
 Ref2.Form.round.j6 d a e f g b c c j
 else
 Option.bind (Ref2.up c a) fun k =>
 Ref2.Form.round.j6 d a e f g b c k b
noncomputable def Ref2.Form.round.l0 (a:Int) (b:Int) (c:Int) (d:Int) (e:List Int) (f:List Int) (g:Int):Option (Int × Int):=loopO (fun v:Int × Int × Int × (List Int) × (List Int) × Int=>Ref2.Form.round.s0 a v.1 v.2.1 v.2.2.1 v.2.2.2.1 v.2.2.2.2.1 v.2.2.2.2.2) (b,c,d,e,f,g)
noncomputable def Ref2.Form.round (a:quadratref02.Form) (e:Int) (b:quadratref02.fraction):Option (Int × Int) :=
 Option.bind (Ref2.Form.bias (⟨a.P,a.W⟩:quadratref02.Form)) fun f =>
 letk (IntKind.i64.wrap ((2:Int) - f)) fun g =>
 letk (IntKind.i64.wrap (g - a.P)) fun c =>
 Option.bind (Ref2.nat.bits b.num) fun h =>
 Option.bind (Ref2.nat.bits b.den) fun i =>
 letk (IntKind.i64.wrap (h - i)) fun j =>
 letk (IntKind.i64.wrap (j - a.P)) fun d =>
 letk (if c > d then c else d) fun k =>
 Ref2.Form.round.l0 e a.P a.W b.sign b.num b.den k
theorem Ref2.Form.round_ok {f0:quadratref02.Form} {d:Int} {x:quadratref02.fraction} {r:Int × Int} (h0:Ref2.Form.round f0 d x = some r):Gives Tryz.prog 38 [quadratref02.Form.enc f0,.lit (.int .i64 d),quadratref02.fraction.enc x] (.tup [.lit (.int .i64 r.1),.lit (.int .i64 r.2)]):=by
 unfold Ref2.Form.round at h0
 refine W' [(0,12),(0,18),(0,20),(0,22),(0,25),(128,49),(0,9)] Tryz.func38 ?_
 refine V' (V' (DrawB.ofG [none,none,none,none,none,none,none] Tryz_mixed (by kernel_rfl) (by kernel_rfl) ?_))
 refine D' rfl (DC' h0 (fun e=>Z' (Ref2.Form.bias_ok e) rfl) fun _ h1=>DN' h1 (fun e=>n' e rfl) fun _ h2=>D' rfl (D' rfl (DN' h2 (fun e=>n' e rfl) fun _ h3=>D' rfl (L' [0,1] [1,3,5,8] ?_))))
 refine DrawB.ofG [none,none,none,none,none,none,none,none,none,none,none,none,none] Tryz_mixed (by kernel_rfl) (by kernel_rfl) ?_
 refine D' rfl (D' rfl (DC' h3 (fun e=>Z' (Ref2.nat.bits_ok e) rfl) fun _ h4=>D' rfl (D' rfl (DC' h4 (fun e=>Z' (Ref2.nat.bits_ok e) rfl) fun _ h5=>DN' h5 (fun e=>n' e rfl) fun _ h6=>D' rfl (D' rfl (DN' h6 (fun e=>n' e rfl) fun _ h7=>D' rfl (DN' h7 (fun e=>n' e rfl) fun bo h8=>D' rfl (CutN.of (fun s=>∃ ad ae af ag ah m ai y z,Ref2.Form.round.j0 d ad ae af ag ah m ai y z = some r ∧ s = ⟨168,[(1,.lit (.int .i64 d)),(3,.ptr 0 0),(5,.ptr 1 0),(9,.lit (.int .i64 m)),(10,.vs 1 (ai.map (eI .u32))),(11,.vs 1 (y.map (eI .u32))),(12,.vs 1 (z.map (eI .u32)))],[.box [.lit (.int .i64 ad),.lit (.int .i64 ae)],.box [.lit (.int .i64 af),.vs 1 (ag.map (eI .u32)),.vs 1 (ah.map (eI .u32))]]⟩) ?_ ?_))))))))
 unfold Ref2.Form.round.l0 at h8
 refine LoopB.of (σ:=Int × Int × Int × (List Int) × (List Int) × Int) (ρ:=Int × Int) (fun v:Int × Int × Int × (List Int) × (List Int) × Int=>Ref2.Form.round.s0 d v.1 v.2.1 v.2.2.1 v.2.2.2.1 v.2.2.2.2.1 v.2.2.2.2.2) (fun v=>(⟨168,[(1,.lit (.int .i64 d)),(3,.ptr 0 0),(5,.ptr 1 0),(9,.lit (.int .i64 v.2.2.2.2.2))],[.box [.lit (.int .i64 v.1),.lit (.int .i64 v.2.1)],.box [.lit (.int .i64 v.2.2.1),.vs 1 (v.2.2.2.1.map (eI .u32)),.vs 1 (v.2.2.2.2.1.map (eI .u32))]]⟩:St)) (f0.P,f0.W,x.sign,x.num,x.den,bo) h8 (B' [0,1] rfl) ?_
 rintro _ ⟨bp,bq,br,bs,bt,aj⟩ x1 ab bu bv
 replace ab:Ref2.Form.round.s0 d bp bq br bs bt aj = some x1:=ab
 unfold Ref2.Form.round.s0 at ab
 refine CutN.of (fun s=>∃ ak al am an ao ap aq,Ref2.Form.round.j6 d aj ak al am an ao ap aq = some x1 ∧ s = ⟨168,[(1,.lit (.int .i64 d)),(3,.ptr 0 0),(5,.ptr 1 0),(9,.lit (.int .i64 aj)),(12,.vs 1 (ap.map (eI .u32))),(13,.vs 1 (aq.map (eI .u32)))],[.box [.lit (.int .i64 ak),.lit (.int .i64 al)],.box [.lit (.int .i64 am),.vs 1 (an.map (eI .u32)),.vs 1 (ao.map (eI .u32))]]⟩) ?_ ?_
 refine C' ab (fun ar=>Gate.go (A' ar Ref2.up_ok fun _ au=>?_)) fun ar=>N' ar fun _ au=>Gate.go (A' au Ref2.up_ok fun _ bw=>?_)
 exact B' [0,1] ⟨_,_,_,_,_,_,_,au,rfl⟩
 exact B' [0,1] ⟨_,_,_,_,_,_,_,bw,rfl⟩
 rintro s ⟨ak,al,am,an,ao,ap,aq,a,rfl⟩
 unfold Ref2.Form.round.j6 at a
 obtain ⟨⟨_,_⟩,bx,f⟩:=bind_elim a
 refine Gate.go (Z' (Ref2.divide_ok bx) (DrawB.ofG [none,none,none,none,none] Tryz_mixed (by kernel_rfl) (by kernel_rfl) ?_))
 refine D' rfl (DC' f (fun e=>Z' (Ref2.nat.bits_ok e) rfl) fun _ g=>D' rfl (D' rfl (DN' g (fun e=>n' e rfl) fun bz l=>?_)))
 rcases bz with _ | _
 have b:=bif_f l
 refine N' b fun _ h=>?_
 exact B' [0,1] ⟨_,bu _ (Option.some.inj h).symm,rfl⟩
 have b:=bif_t l
 obtain ⟨_,ca,av⟩:=map_elim b
 have av:=(bv _ av.symm).symm
 subst av
 exact B' [0,1] ⟨_,_,_,_,_,_,_,_,_,ca,rfl⟩
 rintro s ⟨ad,ae,af,ag,ah,m,ai,y,z,a,rfl⟩
 unfold Ref2.Form.round.j0 at a
 refine Gate.go (A' a Ref2.nat.value_ok fun bn f=>CutN.of (fun s=>∃ aw ax ay az ba n,Ref2.Form.round.j1 d m y z bn aw ax ay az ba n = some r ∧ s = ⟨168,[(1,.lit (.int .i64 d)),(3,.ptr 0 0),(5,.ptr 1 0),(9,.lit (.int .i64 m)),(11,.vs 1 (y.map (eI .u32))),(12,.vs 1 (z.map (eI .u32))),(14,.lit (.int .u64 bn)),(15,.lit (.int .i64 n))],[.box [.lit (.int .i64 aw),.lit (.int .i64 ax)],.box [.lit (.int .i64 ay),.vs 1 (az.map (eI .u32)),.vs 1 (ba.map (eI .u32))]]⟩) ?_ ?_)
 obtain ⟨cb,cc,g⟩:=letk_elim f
 refine Nm.mk ⟨cb,by rw [cc,List.length_map],?_⟩
 refine C' g (fun b=>?_) fun b=>N' b fun _ h=>S' h fun k=>N' k fun _ i=>C' i (fun o=>?_) fun o=>?_
 exact B' [0,1] ⟨_,_,_,_,_,_,b,rfl⟩
 exact B' [0,1] ⟨_,_,_,_,_,_,o,rfl⟩
 exact B' [0,1] ⟨_,_,_,_,_,_,o,rfl⟩
 rintro s ⟨aw,ax,ay,az,ba,n,a,rfl⟩
 unfold Ref2.Form.round.j1 at a
 refine CutN.of (fun s=>∃ p q t u w bb,Ref2.Form.round.j2 d m n p q t u w bb = some r ∧ s = ⟨168,[(1,.lit (.int .i64 d)),(3,.ptr 0 0),(5,.ptr 1 0),(9,.lit (.int .i64 m)),(14,.lit (.int .u64 bb)),(15,.lit (.int .i64 n))],[.box [.lit (.int .i64 p),.lit (.int .i64 q)],.box [.lit (.int .i64 t),.vs 1 (u.map (eI .u32)),.vs 1 (w.map (eI .u32))]]⟩) ?_ ?_
 obtain ⟨cd,f⟩:=chk_elim a
 obtain ⟨ce,cf,g⟩:=letk_elim f
 refine Side.mk cd ?_
 refine Nm.mk ⟨ce,cf,?_⟩
 refine N' g fun _ l=>Gate.go (A' l Ref2.away_ok fun cg b=>?_)
 rcases cg with _ | _
 have h:=bif_f b
 exact B' [0,1] ⟨_,_,_,_,_,_,h,rfl⟩
 have h:=bif_t b
 refine N' h fun _ k=>?_
 exact B' [0,1] ⟨_,_,_,_,_,_,k,rfl⟩
 rintro s ⟨p,q,t,u,w,bb,a,rfl⟩
 unfold Ref2.Form.round.j2 at a
 refine CutN.of (fun s=>∃ bc bd,Ref2.Form.round.j3 d n p q t u w bc bd = some r ∧ s = ⟨168,[(1,.lit (.int .i64 d)),(3,.ptr 0 0),(5,.ptr 1 0),(9,.lit (.int .i64 bc)),(14,.lit (.int .u64 bd)),(15,.lit (.int .i64 n))],[.box [.lit (.int .i64 p),.lit (.int .i64 q)],.box [.lit (.int .i64 t),.vs 1 (u.map (eI .u32)),.vs 1 (w.map (eI .u32))]]⟩) ?_ ?_
 refine S' a fun f=>N' f fun _ g=>C' g (fun b=>?_) fun b=>?_
 exact B' [0,1] ⟨_,_,b,rfl⟩
 obtain ⟨ch,h⟩:=chk_elim b
 obtain ⟨ci,cj,k⟩:=letk_elim h
 refine Side.mk ch ?_
 refine Nm.mk ⟨ci,cj,?_⟩
 refine N' k fun _ i=>?_
 exact B' [0,1] ⟨_,_,i,rfl⟩
 rintro s ⟨bc,bd,a,rfl⟩
 unfold Ref2.Form.round.j3 at a
 refine DrawB.ofG [none,none,none,none,none,none,none,none] Tryz_mixed (by kernel_rfl) (by kernel_rfl) ?_
 refine D' rfl (D' rfl (D' rfl (DN' a (fun e=>n' e rfl) fun _ f=>DN' f (fun e=>n' e rfl) fun _ g=>D' rfl (DC' g (fun e=>Z' (Ref2.Form.bias_ok e) rfl) fun _ l=>DN' l (fun e=>n' e rfl) fun ck b=>?_))))
 rcases ck with _ | _
 have h:=bif_f b
 refine N' h fun _ k=>S' k fun i=>N' i fun _ be=>C' be (fun bf=>L' [0,1] [3,5,9,14,15] ?_) fun bf=>Gate.go (A' bf Ref2.Form.bits_ok fun _ j=>R' (E:=E10') j)
 refine DrawB.ofG [none,none,none,none,none,none,none,none,none,none,none,none,none,none,none,none,none,none,none,none,none] Tryz_mixed (by kernel_rfl) (by kernel_rfl) ?_
 exact D' rfl (D' rfl (D' rfl (D' rfl (D' rfl (DC' bf (fun e=>Z' (Ref2.Form.bias_ok e) rfl) fun _ j=>DN' j (fun e=>n' e rfl) fun _ bg=>D' rfl (D' rfl (DN' bg (fun e=>n' e rfl) fun _ aa=>DN' aa (fun e=>n' e rfl) fun _ bh=>D' rfl (D' rfl (D' rfl (DN' bh (fun e=>n' e rfl) fun _ cl=>DS' cl (fun c e=>Side.mk c (n' e rfl)) fun _ cm=>DN' cm (fun e=>n' e rfl) fun _ cn=>DC' cn (fun e=>Z' (Ref2.Form.bits_ok e) rfl) fun _ co=>D' rfl (D' rfl (D' rfl (R' (E:=E10') co)))))))))))))
 have h:=bif_t b
 refine CutN.of (fun s=>∃ bi bj bk bl bm,Ref2.Form.round.j4 bi bj bk bl bm = some r ∧ s = ⟨168,[(3,.ptr 0 0),(5,.ptr 1 0)],[.box [.lit (.int .i64 bi),.lit (.int .i64 bj)],.box [.lit (.int .i64 bk),.vs 1 (bl.map (eI .u32)),.vs 1 (bm.map (eI .u32))]]⟩) ?_ ?_
 refine CutN.of (fun s=>∃ ac,Ref2.Form.round.j5 p q t u w ac = some r ∧ s = ⟨168,[(3,.ptr 0 0),(5,.ptr 1 0),(118,.lit (.bool ac))],[.box [.lit (.int .i64 p),.lit (.int .i64 q)],.box [.lit (.int .i64 t),.vs 1 (u.map (eI .u32)),.vs 1 (w.map (eI .u32))]]⟩) ?_ ?_
 refine C' h (fun i=>C' i (fun o=>C' o (fun j=>?_) fun j=>N' j fun _ bg=>?_) fun o=>C' o (fun j=>C' j (fun aa=>?_) fun aa=>N' aa fun _ bh=>?_) fun j=>?_) fun i=>?_
 exact B' [0,1] ⟨_,j,rfl⟩
 exact B' [0,1] ⟨_,bg,rfl⟩
 exact B' [0,1] ⟨_,aa,rfl⟩
 exact B' [0,1] ⟨_,bh,rfl⟩
 exact B' [0,1] ⟨_,j,rfl⟩
 exact B' [0,1] ⟨_,i,rfl⟩
 rintro s ⟨ac,a,rfl⟩
 unfold Ref2.Form.round.j5 at a
 rcases ac with _ | _
 have f:=bif_f a
 exact B' [0,1] ⟨_,_,_,_,_,f,rfl⟩
 have f:=bif_t a
 refine L' [0,1] [3,5] ?_
 refine DrawB.ofG [none,none,none,none,none,none,none,none,none,none,none,none,none,none] Tryz_mixed (by kernel_rfl) (by kernel_rfl) ?_
 exact D' rfl (D' rfl (D' rfl (D' rfl (DC' f (fun e=>Z' (Ref2.Form.top_ok e) rfl) fun _ g=>DN' g (fun e=>n' e rfl) fun _ l=>D' rfl (D' rfl (DN' l (fun e=>n' e rfl) fun _ b=>DS' b (fun c e=>Side.mk c (n' e rfl)) fun _ k=>DN' k (fun e=>n' e rfl) fun _ i=>DC' i (fun e=>Z' (Ref2.Form.bits_ok e) rfl) fun _ be=>D' rfl (D' rfl (R' (E:=E10') be))))))))
 rintro s ⟨bi,bj,bk,bl,bm,a,rfl⟩
 unfold Ref2.Form.round.j4 at a
 refine DrawB.ofG [none,none,none,none,none,none,none,none] Tryz_mixed (by kernel_rfl) (by kernel_rfl) ?_
 exact D' rfl (D' rfl (D' rfl (D' rfl (DC' a (fun e=>Z' (Ref2.Form.top_ok e) rfl) fun _ f=>DC' f (fun e=>Z' (Ref2.Form.bits_ok e) rfl) fun _ g=>D' rfl (D' rfl (R' (E:=E10') g))))))
noncomputable def Ref2.isBits (b:Int) (a:Int):Option Bool :=
 letk (b == (8:Int)) fun c =>
 bif c then
 some true
 else
 letk (b == (4:Int)) fun d =>
 bif d then
 letk (decide (a ≥ (0:Int))) fun e =>
 bif e then
 letk (decide (a < (4294967296:Int))) fun f =>
 bif f then
 some true
 else
 letk (b == (2:Int)) fun g =>
 bif g then
 letk (decide (a ≥ (0:Int))) fun h =>
 bif h then
 letk (decide (a < (65536:Int))) fun i =>
 some i
 else
 some false
 else
 some false
 else
 letk (b == (2:Int)) fun j =>
 bif j then
 letk (decide (a ≥ (0:Int))) fun k =>
 bif k then
 letk (decide (a < (65536:Int))) fun l =>
 some l
 else
 some false
 else
 some false
 else
 letk (b == (2:Int)) fun m =>
 bif m then
 letk (decide (a ≥ (0:Int))) fun n =>
 bif n then
 letk (decide (a < (65536:Int))) fun o =>
 some o
 else
 some false
 else
 some false
theorem Ref2.isBits_ok {g:Int} {h:Int} {r:Bool} (i:Ref2.isBits g h = some r):Gives Tryz.prog 48 [.lit (.int .i64 g),.lit (.int .i64 h)] (.lit (.bool r)):=by
 unfold Ref2.isBits at i
 refine W' [] Tryz.func48 ?_
 exact C' i (fun d=>C' d (fun e=>C' e (fun b=>R' (E:=E1') b) fun b=>C' b (fun a=>R' (E:=E1') a) fun a=>N' a fun _ j=>R' (E:=E1') j) fun e=>C' e (fun b=>C' b (fun a=>R' (E:=E1') a) fun a=>C' a (fun c=>R' (E:=E1') c) fun c=>N' c fun _ k=>R' (E:=E1') k) fun b=>C' b (fun a=>C' a (fun c=>R' (E:=E1') c) fun c=>C' c (fun f=>R' (E:=E1') f) fun f=>N' f fun _ l=>R' (E:=E1') l) fun a=>R' (E:=E1') a) fun d=>R' (E:=E1') d
noncomputable def Ref2.Form.parts.j0 (a:quadratref02.Form) (b:Int):Option (Int × Int × Int) :=
 letk (IntKind.i64.wrap (a.P - (1:Int))) fun f =>
 letk (IntKind.i64.wrap (f + a.W)) fun c =>
 chk (0 ≤ c) <|
 letk ((IntKind.u64,b.fdiv (2 ^ (min c.toNat (IntKind.u64).bits))).2) fun g =>
 letk (IntKind.u64.wrap (BitVec.ofInt (IntKind.u64).bits g &&& BitVec.ofInt (IntKind.u64).bits (1:Int)).toNat) fun h =>
 letk (IntKind.i64.wrap h) fun i =>
 letk (IntKind.i64.wrap (a.P - (1:Int))) fun d =>
 chk (0 ≤ d) <|
 letk ((IntKind.u64,b.fdiv (2 ^ (min d.toNat (IntKind.u64).bits))).2) fun j =>
 chk (0 ≤ a.W) <|
 letk (IntKind.u64.wrap ((1:Int) * 2 ^ (min a.W.toNat (IntKind.u64).bits))) fun k =>
 letk (IntKind.u64.wrap (k - (1:Int))) fun l =>
 letk (IntKind.u64.wrap (BitVec.ofInt (IntKind.u64).bits j &&& BitVec.ofInt (IntKind.u64).bits l).toNat) fun m =>
 letk (IntKind.i64.wrap m) fun n =>
 letk (IntKind.i64.wrap (a.P - (1:Int))) fun e =>
 chk (0 ≤ e) <|
 letk (IntKind.u64.wrap ((1:Int) * 2 ^ (min e.toNat (IntKind.u64).bits))) fun o =>
 letk (IntKind.u64.wrap (o - (1:Int))) fun p =>
 letk (IntKind.u64.wrap (BitVec.ofInt (IntKind.u64).bits b &&& BitVec.ofInt (IntKind.u64).bits p).toNat) fun q =>
 some (i,n,q)
noncomputable def Ref2.Form.parts (a:quadratref02.Form) (d:Int):Option (Int × Int × Int) :=
 letk (IntKind.u64.wrap d) fun b =>
 letk (decide (a.P < (53:Int))) fun e =>
 bif e then
 letk (IntKind.i64.wrap (a.P + a.W)) fun c =>
 chk (0 ≤ c) <|
 letk (IntKind.u64.wrap ((1:Int) * 2 ^ (min c.toNat (IntKind.u64).bits))) fun f =>
 letk (IntKind.u64.wrap (f - (1:Int))) fun g =>
 letk (IntKind.u64.wrap (BitVec.ofInt (IntKind.u64).bits b &&& BitVec.ofInt (IntKind.u64).bits g).toNat) fun h =>
 Ref2.Form.parts.j0 a h
 else
 Ref2.Form.parts.j0 a b
abbrev E26':Int × Int × Int → AV:=fun r=>(.tup [.lit (.int .i64 r.1),.lit (.int .i64 r.2.1),.lit (.int .u64 r.2.2)])
theorem Ref2.Form.parts_ok {a:quadratref02.Form} {f:Int} {r:Int × Int × Int} (g:Ref2.Form.parts a f = some r):Gives Tryz.prog 106 [quadratref02.Form.enc a,.lit (.int .i64 f)] (.tup [.lit (.int .i64 r.1),.lit (.int .i64 r.2.1),.lit (.int .u64 r.2.2)]):=by
 unfold Ref2.Form.parts at g
 refine W' [(0,4)] Tryz.func106 ?_
 refine V' (N' g fun _ i=>CutN.of (fun s=>∃ b,Ref2.Form.parts.j0 a b = some r ∧ s = ⟨50,[(2,.ptr 0 0),(7,.lit (.int .u64 b))],[.box [.lit (.int .i64 a.P),.lit (.int .i64 a.W)]]⟩) ?_ ?_)
 refine C' i (fun d=>?_) fun d=>N' d fun _ j=>S' j fun k=>N' k fun _ l=>N' l fun _ m=>N' m fun _ n=>?_
 exact B' [0] ⟨_,d,rfl⟩
 exact B' [0] ⟨_,n,rfl⟩
 rintro s ⟨b,h,rfl⟩
 unfold Ref2.Form.parts.j0 at h
 refine L' [0] [2,7] ?_
 refine DrawB.ofG [none,none,none,none,none,none,none,none,none,none,none,none,none,none,none,none,none,none,none,none,none,none,none,none,none,none,none,none,none,none,none] Tryz_mixed (by kernel_rfl) (by kernel_rfl) ?_
 exact D' rfl (D' rfl (D' rfl (DN' h (fun e=>n' e rfl) fun _ o=>D' rfl (D' rfl (DN' o (fun e=>n' e rfl) fun _ p=>DS' p (fun c e=>Side.mk c (n' e rfl)) fun _ q=>DN' q (fun e=>n' e rfl) fun _ t=>DN' t (fun e=>n' e rfl) fun _ u=>D' rfl (D' rfl (D' rfl (DN' u (fun e=>n' e rfl) fun _ v=>DS' v (fun c e=>Side.mk c (n' e rfl)) fun _ w=>D' rfl (D' rfl (DS' w (fun c e=>Side.mk c (n' e rfl)) fun _ x=>DN' x (fun e=>n' e rfl) fun _ y=>DN' y (fun e=>n' e rfl) fun _ z=>DN' z (fun e=>n' e rfl) fun _ aa=>D' rfl (D' rfl (D' rfl (DN' aa (fun e=>n' e rfl) fun _ ab=>DS' ab (fun c e=>Side.mk c (n' e rfl)) fun _ ac=>DN' ac (fun e=>n' e rfl) fun _ ad=>DN' ad (fun e=>n' e rfl) fun _ ae=>D' rfl (D' rfl (D' rfl (R' (E:=E26') ae))))))))))))))))
noncomputable def Ref2.Form.of.j1 (b:Int) (_:Int) (_:List Int) (_:List Int) (a:Int) (e:Int):Option (quadratref02.fraction × Bool) :=
 Option.bind (Ref2.small e) fun c =>
 Option.bind (Ref2.small 1) fun d =>
 letk (decide (a ≥ (0:Int))) fun f =>
 bif f then
 Option.bind (Ref2.up c a) fun g =>
 some ((⟨b,g,d⟩:quadratref02.fraction),true)
 else
 letk (IntKind.i64.wrap (0 - a)) fun h =>
 Option.bind (Ref2.up d h) fun i =>
 some ((⟨b,c,i⟩:quadratref02.fraction),true)
noncomputable def Ref2.Form.of.j0 (b:Int) (c:Int) (d:Int) (a:Int) (e:Int) (f:Int) (g:List Int) (h:List Int):Option (quadratref02.fraction × Bool) :=
 Option.bind (Ref2.Form.bias (⟨a,e⟩:quadratref02.Form)) fun j =>
 letk (IntKind.i64.wrap ((2:Int) - j)) fun k =>
 letk (IntKind.i64.wrap (k - a)) fun l =>
 letk (decide (c > (0:Int))) fun m =>
 bif m then
 letk (IntKind.i64.wrap (a - (1:Int))) fun i =>
 chk (0 ≤ i) <|
 letk (IntKind.u64.wrap ((1:Int) * 2 ^ (min i.toNat (IntKind.u64).bits))) fun n =>
 letk (IntKind.u64.wrap (d + n)) fun o =>
 Option.bind (Ref2.Form.bias (⟨a,e⟩:quadratref02.Form)) fun p =>
 letk (IntKind.i64.wrap (c - p)) fun q =>
 letk (IntKind.i64.wrap (q - a)) fun r =>
 letk (IntKind.i64.wrap (r + (1:Int))) fun s =>
 Ref2.Form.of.j1 b f g h s o
 else
 Ref2.Form.of.j1 b f g h l d
noncomputable def Ref2.Form.of.j2 (a:Int) (b:Int) (c:Int) (d:Int) (e:Int) (f:Int) (g:List Int) (h:List Int) (i:Bool):Option (quadratref02.fraction × Bool) :=
 bif i then
 some ((⟨0,[],[]⟩:quadratref02.fraction),false)
 else
 Ref2.Form.of.j0 a b c d e f g h
noncomputable def Ref2.Form.of (a:quadratref02.Form) (e:Int):Option (quadratref02.fraction × Bool) :=
 Option.bind (Ref2.Form.parts (⟨a.P,a.W⟩:quadratref02.Form) e) fun (d,b,c) =>
 Option.bind (Ref2.Form.top (⟨a.P,a.W⟩:quadratref02.Form)) fun f =>
 letk (b == f) fun g =>
 bif g then
 Ref2.Form.of.j2 d b c a.P a.W 0 ([]) ([]) true
 else
 letk (b == (0:Int)) fun h =>
 bif h then
 letk (c == (0:Int)) fun i =>
 Ref2.Form.of.j2 d b c a.P a.W 0 ([]) ([]) i
 else
 Ref2.Form.of.j2 d b c a.P a.W 0 ([]) ([]) false
theorem Ref2.Form.of_ok {f0:quadratref02.Form} {a1:Int} {r:quadratref02.fraction × Bool} (h0:Ref2.Form.of f0 a1 = some r):Gives Tryz.prog 66 [quadratref02.Form.enc f0,.lit (.int .i64 a1)] (.tup [quadratref02.fraction.enc r.1,.lit (.bool r.2)]):=by
 unfold Ref2.Form.of at h0
 refine W' [(0,4),(0,9),(40,7)] Tryz.func66 ?_
 refine V' (V' ?_)
 obtain ⟨⟨d,f,g⟩,ad,h1⟩:=bind_elim h0
 refine Gate.go (Z' (Ref2.Form.parts_ok ad) (CutN.of (fun s=>∃ i j k l m,Ref2.Form.of.j0 d f g i j k l m = some r ∧ s = ⟨74,[(2,.ptr 0 0),(4,.ptr 1 0),(6,.lit (.int .i64 d)),(7,.lit (.int .i64 f)),(8,.lit (.int .u64 g))],[.box [.lit (.int .i64 i),.lit (.int .i64 j)],.box [.lit (.int .i64 k),.vs 1 (l.map (eI .u32)),.vs 1 (m.map (eI .u32))]]⟩) ?_ ?_))
 refine CutN.of (fun s=>∃ n o p q t h,Ref2.Form.of.j2 d f g n o p q t h = some r ∧ s = ⟨74,[(2,.ptr 0 0),(4,.ptr 1 0),(6,.lit (.int .i64 d)),(7,.lit (.int .i64 f)),(8,.lit (.int .u64 g)),(30,.lit (.bool h))],[.box [.lit (.int .i64 n),.lit (.int .i64 o)],.box [.lit (.int .i64 p),.vs 1 (q.map (eI .u32)),.vs 1 (t.map (eI .u32))]]⟩) ?_ ?_
 refine Gate.go (A' h1 Ref2.Form.top_ok fun _ h2=>C' h2 (fun u=>C' u (fun v=>?_) fun v=>N' v fun _ h7=>?_) fun u=>?_)
 exact B' [0,1] ⟨_,_,_,_,_,_,v,rfl⟩
 exact B' [0,1] ⟨_,_,_,_,_,_,h7,rfl⟩
 exact B' [0,1] ⟨_,_,_,_,_,_,u,rfl⟩
 rintro s ⟨n,o,p,q,t,h,a,rfl⟩
 unfold Ref2.Form.of.j2 at a
 rcases h with _ | _
 have b:=bif_f a
 exact B' [0,1] ⟨_,_,_,_,_,b,rfl⟩
 have b:=bif_t a
 refine Gate.go (V' (V' ?_))
 have ae:=Option.some.inj b
 subst ae
 exact Returns.frozen (r:=.tup [quadratref02.fraction.enc ((⟨0,[],[]⟩:quadratref02.fraction)),.lit (.bool false)]) [] rfl rfl (WV.tups ⟨(WV.aggs ⟨.s,(.nilsVs _),(.nilsVs _),trivial⟩),.s,trivial⟩) ⟨rfl,rfl⟩
 rintro s ⟨i,j,k,l,m,a,rfl⟩
 unfold Ref2.Form.of.j0 at a
 refine DrawB.ofG [none,none,none,none,none,none,none] Tryz_mixed (by kernel_rfl) (by kernel_rfl) ?_
 refine D' rfl (DC' a (fun e=>Z' (Ref2.Form.bias_ok e) rfl) fun _ b=>DN' b (fun e=>n' e rfl) fun _ w=>D' rfl (D' rfl (DN' w (fun e=>n' e rfl) fun _ af=>D' rfl (CutN.of (fun s=>∃ x y z x9 aa,Ref2.Form.of.j1 d x y z x9 aa = some r ∧ s = ⟨74,[(4,.ptr 0 0),(6,.lit (.int .i64 d)),(9,.lit (.int .i64 x9)),(10,.lit (.int .u64 aa))],[.box [.lit (.int .i64 x),.vs 1 (y.map (eI .u32)),.vs 1 (z.map (eI .u32))]]⟩) ?_ ?_))))
 refine C' af (fun c=>?_) fun c=>N' c fun _ ab=>S' ab fun ag=>N' ag fun _ ah=>N' ah fun _ ai=>DrawB.ofG [none,none,none,none,none,none,none,none,none] Tryz_mixed (by kernel_rfl) (by kernel_rfl) ?_
 exact B' [1] ⟨_,_,_,_,_,c,rfl⟩
 refine D' rfl (D' rfl (DC' ai (fun e=>Z' (Ref2.Form.bias_ok e) rfl) fun _ aj=>DN' aj (fun e=>n' e rfl) fun _ ak=>D' rfl (D' rfl (DN' ak (fun e=>n' e rfl) fun _ al=>DN' al (fun e=>n' e rfl) fun _ am=>D' rfl ?_))))
 exact B' [1] ⟨_,_,_,_,_,am,rfl⟩
 rintro s ⟨x,y,z,x9,aa,a,rfl⟩
 unfold Ref2.Form.of.j1 at a
 exact Gate.go (A' a Ref2.small_ok fun _ b=>Gate.go (A' b Ref2.small_ok fun _ w=>Gate.go (V' (V' (V' (C' w (fun ac=>N' ac fun _ c=>Gate.go (A' c Ref2.up_ok fun _ ab=>V' (V' (R' (E:=E25') ab)))) fun ac=>Gate.go (A' ac Ref2.up_ok fun _ c=>V' (V' (R' (E:=E25') c)))))))))
noncomputable def Ref2.asked.j0 (d:Int) (_:Int) (_:Int) (_:Int) (_:List Int) (_:List Int) (b:Int) (c:Int):Option (quadratref02.Form × quadratref02.fraction × Bool) :=
 Option.bind (Ref2.Form.of (⟨b,c⟩:quadratref02.Form) d) fun (a,e) =>
 some ((⟨b,c⟩:quadratref02.Form),(⟨a.sign,a.num,a.den⟩:quadratref02.fraction),e)
noncomputable def Ref2.asked.j1 (c:Int) (d:Int) (e:Int) (f:Int) (g:List Int) (h:List Int) (a:Int) (b:Int) (i:Bool):Option (quadratref02.Form × quadratref02.fraction × Bool) :=
 bif i then
 some ((⟨a,b⟩:quadratref02.Form),(⟨0,[],[]⟩:quadratref02.fraction),false)
 else
 Ref2.asked.j0 c d e f g h a b
noncomputable def Ref2.asked (c:Int) (d:Int) (b:Int):Option (quadratref02.Form × quadratref02.fraction × Bool) :=
 Option.bind (Ref2.FormOf c) fun (a,e) =>
 letk (!e) fun f =>
 bif f then
 Ref2.asked.j1 b 0 0 0 ([]) ([]) a.P a.W true
 else
 letk (decide (d < (0:Int))) fun g =>
 bif g then
 Ref2.asked.j1 b 0 0 0 ([]) ([]) a.P a.W true
 else
 letk (decide (d > (3:Int))) fun h =>
 bif h then
 Ref2.asked.j1 b 0 0 0 ([]) ([]) a.P a.W true
 else
 Option.bind (Ref2.isBits c b) fun i =>
 letk (!i) fun j =>
 Ref2.asked.j1 b 0 0 0 ([]) ([]) a.P a.W j
abbrev E27':quadratref02.Form × quadratref02.fraction × Bool → AV:=fun r=>(.tup [quadratref02.Form.enc r.1,quadratref02.fraction.enc r.2.1,.lit (.bool r.2.2)])
theorem Ref2.asked_ok {y:Int} {z:Int} {d:Int} {r:quadratref02.Form × quadratref02.fraction × Bool} (h0:Ref2.asked y z d = some r):Gives Tryz.prog 35 [.lit (.int .i64 y),.lit (.int .i64 z),.lit (.int .i64 d)] (.tup [quadratref02.Form.enc r.1,quadratref02.fraction.enc r.2.1,.lit (.bool r.2.2)]):=by
 unfold Ref2.asked at h0
 refine W' [(0,4),(42,7)] Tryz.func35 ?_
 refine V' (V' ?_)
 obtain ⟨⟨_,_⟩,ab,h1⟩:=bind_elim h0
 refine Gate.go (Z' (Ref2.FormOf_ok ab) (V' (V' (CutN.of (fun s=>∃ j k f g h b c,Ref2.asked.j0 d j k f g h b c = some r ∧ s = ⟨44,[(2,.lit (.int .i64 d)),(6,.ptr 0 0),(7,.ptr 1 0),(9,.ptr 2 0)],[.box [.lit (.int .i64 j),.lit (.int .i64 k)],.box [.lit (.int .i64 f),.vs 1 (g.map (eI .u32)),.vs 1 (h.map (eI .u32))],.box [.lit (.int .i64 b),.lit (.int .i64 c)]]⟩) ?_ ?_))))
 refine CutN.of (fun s=>∃ o p q t u l m n,Ref2.asked.j1 d o p q t u l m n = some r ∧ s = ⟨44,[(2,.lit (.int .i64 d)),(6,.ptr 0 0),(7,.ptr 1 0),(9,.ptr 2 0),(32,.lit (.bool n))],[.box [.lit (.int .i64 o),.lit (.int .i64 p)],.box [.lit (.int .i64 q),.vs 1 (t.map (eI .u32)),.vs 1 (u.map (eI .u32))],.box [.lit (.int .i64 l),.lit (.int .i64 m)]]⟩) ?_ ?_
 refine C' h1 (fun v=>C' v (fun w=>C' w (fun x=>Gate.go (A' x Ref2.isBits_ok fun _ h8=>N' h8 fun _ h9=>?_)) fun x=>?_) fun w=>?_) fun v=>?_
 exact B' [0,1,2] ⟨_,_,_,_,_,_,_,_,h9,rfl⟩
 exact B' [0,1,2] ⟨_,_,_,_,_,_,_,_,x,rfl⟩
 exact B' [0,1,2] ⟨_,_,_,_,_,_,_,_,w,rfl⟩
 exact B' [0,1,2] ⟨_,_,_,_,_,_,_,_,v,rfl⟩
 rintro s ⟨o,p,q,t,u,l,m,n,e,rfl⟩
 unfold Ref2.asked.j1 at e
 rcases n with _ | _
 have i:=bif_f e
 exact B' [0,1,2] ⟨_,_,_,_,_,_,_,i,rfl⟩
 have i:=bif_t e
 refine Gate.go (V' (V' (V' ?_)))
 have ac:=Option.some.inj i
 subst ac
 exact Returns.frozen (r:=.tup [quadratref02.Form.enc ((⟨l,m⟩:quadratref02.Form)),quadratref02.fraction.enc ((⟨0,[],[]⟩:quadratref02.fraction)),.lit (.bool false)]) [] rfl rfl (WV.tups ⟨.s,(WV.aggs ⟨.s,(.nilsVs _),(.nilsVs _),trivial⟩),.s,trivial⟩) ⟨rfl,rfl⟩
 rintro s ⟨j,k,f,g,h,b,c,e,rfl⟩
 unfold Ref2.asked.j0 at e
 obtain ⟨⟨a,aa⟩,ad,i⟩:=bind_elim e
 refine Gate.go (Z' (Ref2.Form.of_ok ad) (V' (V' (DrawB.ofFN 0 [.box [.lit (.int .i64 j),.lit (.int .i64 k)],.box [.lit (.int .i64 f),.vs 1 (g.map (eI .u32)),.vs 1 (h.map (eI .u32))],.box [.lit (.int .i64 b),.lit (.int .i64 c)],.box [.lit (.int .i64 a.sign),.vs 1 (a.num.map (eI .u32)),.vs 1 (a.den.map (eI .u32))]] 4 4 [[2],[3],[],[0],[1],[]] [[],[],[],[0],[1],[]] [none,none,none,none,none,none] Tryz_mixed (by kernel_rfl) rfl rfl rfl (by kernel_rfl) ?_))))
 refine FNode.rd (F:=[2]) (W:=[]) (.agg [.lit (.int .i64 b),.lit (.int .i64 c)]) ?_ rfl rfl ?_
 rfl
 refine FNode.rd (F:=[3]) (W:=[]) (.agg [.lit (.int .i64 a.sign),.vs 1 (a.num.map (eI .u32)),.vs 1 (a.den.map (eI .u32))]) ?_ rfl rfl ?_
 rfl
 refine FNode.no (W:=[]) (.lit (.bool aa)) ?_ rfl ?_
 rfl
 refine FNode.pl (F:=[0]) (W:=[0]) (.undef) [.box [.lit (.int .i64 b),.lit (.int .i64 c)],.box [.lit (.int .i64 f),.vs 1 (g.map (eI .u32)),.vs 1 (h.map (eI .u32))],.box [.lit (.int .i64 b),.lit (.int .i64 c)],.box [.lit (.int .i64 a.sign),.vs 1 (a.num.map (eI .u32)),.vs 1 (a.den.map (eI .u32))]] ?_ rfl rfl rfl rfl ?_
 refine V' ?_
 rfl
 refine FNode.pl (F:=[1]) (W:=[1]) (.undef) [.box [.lit (.int .i64 b),.lit (.int .i64 c)],.box [.lit (.int .i64 a.sign),.vs 1 (a.num.map (eI .u32)),.vs 1 (a.den.map (eI .u32))],.box [.lit (.int .i64 b),.lit (.int .i64 c)],.box [.lit (.int .i64 a.sign),.vs 1 (a.num.map (eI .u32)),.vs 1 (a.den.map (eI .u32))]] ?_ rfl rfl rfl rfl ?_
 refine V' ?_
 rfl
 refine FNode.no (W:=[]) (.lit (.bool aa)) ?_ rfl ?_
 rfl
 exact R' (E:=E27') i
noncomputable def Ref2.fraction.below (a:quadratref02.fraction) (b:Int):Option Bool :=
 letk (decide (b ≥ (0:Int))) fun c =>
 bif c then
 Option.bind (Ref2.power b) fun d =>
 Option.bind (Ref2.times a.den d) fun e =>
 Option.bind (Ref2.compare a.num e) fun f =>
 letk (decide (f < (0:Int))) fun g =>
 some g
 else
 letk (IntKind.i64.wrap (0 - b)) fun h =>
 Option.bind (Ref2.power h) fun i =>
 Option.bind (Ref2.times a.num i) fun j =>
 Option.bind (Ref2.compare j a.den) fun k =>
 letk (decide (k < (0:Int))) fun l =>
 some l
theorem Ref2.fraction.below_ok {g:quadratref02.fraction} {h:Int} {r:Bool} (i:Ref2.fraction.below g h = some r):Gives Tryz.prog 129 [quadratref02.fraction.enc g,.lit (.int .i64 h)] (.lit (.bool r)):=by
 unfold Ref2.fraction.below at i
 refine W' [] Tryz.func129 ?_
 refine V' (C' i (fun a=>DrawB.ofG [none,none,none,none,none,none,none,none,none,none,none] Tryz_mixed (by kernel_rfl) (by kernel_rfl) ?_) fun a=>DrawB.ofG [none,none,none,none,none,none,none,none,none,none] Tryz_mixed (by kernel_rfl) (by kernel_rfl) ?_)
 exact D' rfl (D' rfl (D' rfl (DN' a (fun e=>n' e rfl) fun _ b=>DC' b (fun e=>Z' (Ref2.power_ok e) rfl) fun _ c=>DC' c (fun e=>Z' (Ref2.times_ok e) rfl) fun _ d=>D' rfl (D' rfl (DC' d (fun e=>Z' (Ref2.compare_ok e) rfl) fun _ f=>DN' f (fun e=>n' e rfl) fun _ j=>D' rfl (R' (E:=E1') j))))))
 exact D' rfl (D' rfl (D' rfl (D' rfl (D' rfl (DC' a (fun e=>Z' (Ref2.power_ok e) rfl) fun _ b=>DC' b (fun e=>Z' (Ref2.times_ok e) rfl) fun _ c=>DC' c (fun e=>Z' (Ref2.compare_ok e) rfl) fun _ d=>DN' d (fun e=>n' e rfl) fun _ f=>D' rfl (R' (E:=E1') f))))))
noncomputable def Ref2.fraction.size.s1 (b:Int) (c:List Int) (d:List Int) (a:Int):Option ((Int × (List Int) × (List Int) × Int) ⊕ Int) :=
 letk (IntKind.i64.wrap (a - (1:Int))) fun e =>
 Option.bind (Ref2.fraction.below (⟨b,c,d⟩:quadratref02.fraction) e) fun f =>
 bif f then
 letk (IntKind.i64.wrap (a - (1:Int))) fun g =>
 some (.inl (b,c,d,g))
 else
 some (.inr a)
noncomputable def Ref2.fraction.size.l1 (a:Int) (b:List Int) (c:List Int) (d:Int):Option Int:=loopO (fun v:Int × (List Int) × (List Int) × Int=>Ref2.fraction.size.s1 v.1 v.2.1 v.2.2.1 v.2.2.2) (a,b,c,d)
noncomputable def Ref2.fraction.size.s0 (a:Int) (b:List Int) (c:List Int) (d:Int):Option ((Int × (List Int) × (List Int) × Int) ⊕ Int) :=
 Option.bind (Ref2.fraction.below (⟨a,b,c⟩:quadratref02.fraction) d) fun e =>
 letk (!e) fun f =>
 bif f then
 letk (IntKind.i64.wrap (d + (1:Int))) fun g =>
 some (.inl (a,b,c,g))
 else
 (Ref2.fraction.size.l1 a b c d).map .inr
noncomputable def Ref2.fraction.size.l0 (a:Int) (b:List Int) (c:List Int) (d:Int):Option Int:=loopO (fun v:Int × (List Int) × (List Int) × Int=>Ref2.fraction.size.s0 v.1 v.2.1 v.2.2.1 v.2.2.2) (a,b,c,d)
noncomputable def Ref2.fraction.size (a:quadratref02.fraction):Option Int :=
 Option.bind (Ref2.nat.bits a.num) fun b =>
 Option.bind (Ref2.nat.bits a.den) fun c =>
 letk (IntKind.i64.wrap (b - c)) fun d =>
 letk (IntKind.i64.wrap (d * (30103:Int))) fun e =>
 chk ((100000:Int) ≠ 0) <|
 letk (IntKind.i64.wrap (e.tdiv (100000:Int))) fun f =>
 letk (IntKind.i64.wrap (f - (1:Int))) fun g =>
 Ref2.fraction.size.l0 a.sign a.num a.den g
theorem Ref2.fraction.size_ok {a:quadratref02.fraction} {r:Int} (l:Ref2.fraction.size a = some r):Gives Tryz.prog 78 [quadratref02.fraction.enc a] (.lit (.int .i64 r)):=by
 unfold Ref2.fraction.size at l
 refine W' [] Tryz.func78 ?_
 refine V' (DrawB.ofG [none,none,none,none,none,none,none,none,none,none,none] Tryz_mixed (by kernel_rfl) (by kernel_rfl) ?_)
 refine D' rfl (D' rfl (DC' l (fun e=>Z' (Ref2.nat.bits_ok e) rfl) fun _ u=>D' rfl (D' rfl (DC' u (fun e=>Z' (Ref2.nat.bits_ok e) rfl) fun _ w=>DN' w (fun e=>n' e rfl) fun _ x=>DN' x (fun e=>n' e rfl) fun _ y=>DS' y (fun c e=>Side.mk c (n' e rfl)) fun _ z=>DN' z (fun e=>n' e rfl) fun aa m=>D' rfl ?_))))
 unfold Ref2.fraction.size.l0 at m
 refine LoopB.of (σ:=Int × (List Int) × (List Int) × Int) (ρ:=Int) (fun v:Int × (List Int) × (List Int) × Int=>Ref2.fraction.size.s0 v.1 v.2.1 v.2.2.1 v.2.2.2) (fun v=>(⟨27,[(1,.ptr 0 0),(3,.lit (.int .i64 v.2.2.2))],[.box [.lit (.int .i64 v.1),.vs 1 (v.2.1.map (eI .u32)),.vs 1 (v.2.2.1.map (eI .u32))]]⟩:St)) (a.sign,a.num,a.den,aa) m (B' [0] rfl) ?_
 rintro K1 ⟨n,o,p,q⟩ f b g h
 replace b:Ref2.fraction.size.s0 n o p q = some f:=b
 unfold Ref2.fraction.size.s0 at b
 refine Gate.go (A' b Ref2.fraction.below_ok fun _ ab=>C' ab (fun i=>?_) fun i=>N' i fun _ ac=>?_)
 obtain ⟨_,s,j⟩:=map_elim i
 have j:=(h _ j.symm).symm
 subst j
 unfold Ref2.fraction.size.l1 at s
 refine LoopB.of (σ:=Int × (List Int) × (List Int) × Int) (ρ:=Int) (fun v:Int × (List Int) × (List Int) × Int=>Ref2.fraction.size.s1 v.1 v.2.1 v.2.2.1 v.2.2.2) (fun v=>(⟨27,[(1,.ptr 0 0),(3,.lit (.int .i64 v.2.2.2))],[.box [.lit (.int .i64 v.1),.vs 1 (v.2.1.map (eI .u32)),.vs 1 (v.2.2.1.map (eI .u32))]]⟩:St)) (n,o,p,q) s (B' [0] rfl) ?_
 rintro K1 ⟨ad,ae,af,ag⟩ f d g h
 replace d:Ref2.fraction.size.s1 ad ae af ag = some f:=d
 unfold Ref2.fraction.size.s1 at d
 refine N' d fun _ ah=>Gate.go (A' ah Ref2.fraction.below_ok fun ai t=>?_)
 rcases ai with _ | _
 have k:=bif_f t
 have aj:=h _ (Option.some.inj k).symm
 have ak:=congrArg some aj
 exact R' (E:=E2') ak
 have k:=bif_t t
 refine N' k fun _ al=>?_
 exact B' [0] ⟨_,g _ (Option.some.inj al).symm,rfl⟩
 exact B' [0] ⟨_,g _ (Option.some.inj ac).symm,rfl⟩
end Go.Q
