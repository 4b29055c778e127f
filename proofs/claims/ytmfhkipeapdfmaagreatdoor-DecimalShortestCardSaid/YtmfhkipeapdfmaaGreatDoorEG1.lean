import Derived.Test.YtmfhkipeapdfmaaGreatDoorEGS
import Derived.Test.YtmfhkipeapdfmaaGreatDoorFX
import Derived.Test.YtmfhkipeapdfmaaGreatDoorFY
import Derived.Test.YtmfhkipeapdfmaaGreatDoorProg
namespace Go.Q
open Go Go.Proofs
set_option maxRecDepth 10000
set_option maxHeartbeats 2000000
noncomputable def Ref2.FormOf (a:Int):Option (quadratref02.Form × Bool) :=
 letk (a == (2:Int)) fun b =>
 bif b then
 some ((⟨11,5⟩:quadratref02.Form),true)
 else
 letk (a == (4:Int)) fun c =>
 bif c then
 some ((⟨24,8⟩:quadratref02.Form),true)
 else
 letk (a == (8:Int)) fun d =>
 bif d then
 some ((⟨53,11⟩:quadratref02.Form),true)
 else
 some ((⟨0,0⟩:quadratref02.Form),false)
abbrev E21':quadratref02.Form × Bool → AV:=fun r=>(.tup [quadratref02.Form.enc r.1,.lit (.bool r.2)])
theorem Ref2.FormOf_ok {d:Int} {r:quadratref02.Form × Bool} (e:Ref2.FormOf d = some r):Gives Tryz.prog 47 [.lit (.int .i64 d)] (.tup [quadratref02.Form.enc r.1,.lit (.bool r.2)]):=by
 unfold Ref2.FormOf at e
 refine W' [] Tryz.func47 ?_
 exact V' (C' e (fun a=>C' a (fun b=>C' b (fun c=>Gate.go (V' (V' (R' (E:=E21') c)))) fun c=>Gate.go (V' (V' (R' (E:=E21') c)))) fun b=>Gate.go (V' (V' (R' (E:=E21') b)))) fun a=>Gate.go (V' (V' (R' (E:=E21') a))))
noncomputable def Ref2.Form.top (a:quadratref02.Form):Option Int :=
 chk (0 ≤ a.W) <|
 letk (IntKind.i64.wrap ((1:Int) * 2 ^ (min a.W.toNat (IntKind.i64).bits))) fun b =>
 letk (IntKind.i64.wrap (b - (1:Int))) fun c =>
 some c
theorem Ref2.Form.top_ok {a:quadratref02.Form} {r:Int} (b:Ref2.Form.top a = some r):Gives Tryz.prog 58 [quadratref02.Form.enc a] (.lit (.int .i64 r)):=by
 unfold Ref2.Form.top at b
 refine W' [] Tryz.func58 ?_
 exact V' (S' b fun c=>N' c fun _ d=>N' d fun _ e=>R' (E:=E2') e)
noncomputable def Ref2.Form.bits (a:quadratref02.Form) (d:Int) (e:Int) (f:Int):Option Int :=
 letk (IntKind.u64.wrap d) fun g =>
 letk (IntKind.i64.wrap (a.P - (1:Int))) fun h =>
 letk (IntKind.i64.wrap (h + a.W)) fun b =>
 chk (0 ≤ b) <|
 letk (IntKind.u64.wrap (g * 2 ^ (min b.toNat (IntKind.u64).bits))) fun i =>
 letk (IntKind.u64.wrap e) fun j =>
 letk (IntKind.i64.wrap (a.P - (1:Int))) fun c =>
 chk (0 ≤ c) <|
 letk (IntKind.u64.wrap (j * 2 ^ (min c.toNat (IntKind.u64).bits))) fun k =>
 letk (IntKind.u64.wrap (BitVec.ofInt (IntKind.u64).bits i ||| BitVec.ofInt (IntKind.u64).bits k).toNat) fun l =>
 letk (IntKind.u64.wrap (BitVec.ofInt (IntKind.u64).bits l ||| BitVec.ofInt (IntKind.u64).bits f).toNat) fun m =>
 letk (IntKind.i64.wrap m) fun n =>
 some n
theorem Ref2.Form.bits_ok {a:quadratref02.Form} {b:Int} {d:Int} {f:Int} {r:Int} (g:Ref2.Form.bits a b d f = some r):Gives Tryz.prog 57 [quadratref02.Form.enc a,.lit (.int .i64 b),.lit (.int .i64 d),.lit (.int .u64 f)] (.lit (.int .i64 r)):=by
 unfold Ref2.Form.bits at g
 refine W' [] Tryz.func57 ?_
 refine V' (L' [0] [1,2,3,4] ?_)
 refine DrawB.ofG [none,none,none,none,none,none,none,none,none,none,none,none,none,none,none,none,none,none,none,none] Tryz_mixed (by kernel_rfl) (by kernel_rfl) ?_
 exact D' rfl (DN' g (fun e=>n' e rfl) fun _ h=>D' rfl (D' rfl (DN' h (fun e=>n' e rfl) fun _ i=>D' rfl (D' rfl (DN' i (fun e=>n' e rfl) fun _ j=>DS' j (fun c e=>Side.mk c (n' e rfl)) fun _ k=>D' rfl (DN' k (fun e=>n' e rfl) fun _ l=>D' rfl (D' rfl (DN' l (fun e=>n' e rfl) fun _ m=>DS' m (fun c e=>Side.mk c (n' e rfl)) fun _ n=>DN' n (fun e=>n' e rfl) fun _ o=>D' rfl (DN' o (fun e=>n' e rfl) fun _ p=>DN' p (fun e=>n' e rfl) fun _ q=>D' rfl (R' (E:=E2') q))))))))))
noncomputable def Ref2.nat.trim.j0 (a:List Int):Option (((List Int)) ⊕ ((List Int))) :=
 letk ((a.length:Int)) fun c =>
 letk (IntKind.i64.wrap (c - (1:Int))) fun b =>
 chk (0 ≤ b ∧ b ≤ (a.length:Int)) <|
 letk ((a.drop 0).take (b.toNat - 0)) fun d =>
 some (.inl d)
noncomputable def Ref2.nat.trim.s0 (a:List Int):Option (((List Int)) ⊕ ((List Int))) :=
 letk ((a.length:Int)) fun c =>
 letk (decide (c > (0:Int))) fun d =>
 bif d then
 letk ((a.length:Int)) fun e =>
 letk (IntKind.i64.wrap (e - (1:Int))) fun b =>
 chk (0 ≤ b) <|
 Option.bind (a[b.toNat]?) fun f =>
 letk (f == (0:Int)) fun g =>
 bif g then
 Ref2.nat.trim.j0 a
 else
 some (.inr a)
 else
 some (.inr a)
noncomputable def Ref2.nat.trim.l0 (a:List Int):Option ((List Int)):=loopO (fun v:(List Int)=>Ref2.nat.trim.s0 v) a
theorem Ref2.nat.trim.l0_eq (a0_1:List Int):Ref2.nat.trim.l0 a0_1 = (Ref2.nat.trim.s0 a0_1).bind (Sum.elim (fun v=>Ref2.nat.trim.l0 v) some):=loopO_eq _ _
noncomputable def Ref2.nat.trim (a:List Int):Option ((List Int)) :=
 Ref2.nat.trim.l0 a
abbrev E24':(List Int) → AV:=fun r=>(.vs 1 (r.map (eI .u32)))
theorem Ref2.nat.trim_ok {b:List Int} {r:(List Int)} (c:Ref2.nat.trim b = some r):Gives Tryz.prog 82 [.vs 1 (b.map (eI .u32))] (.vs 1 (r.map (eI .u32))):=by
 unfold Ref2.nat.trim at c
 refine W' [(1,1)] Tryz.func82 ?_
 unfold Ref2.nat.trim.l0 at c
 refine LoopB.of (σ:=(List Int)) (ρ:=(List Int)) (fun v:(List Int)=>Ref2.nat.trim.s0 v) (fun v=>(⟨21,[(0,.vs 1 (v.map (eI .u32)))],[]⟩:St)) b c (B' [] rfl) ?_
 rintro _ d g a j h
 replace a:Ref2.nat.trim.s0 d = some g:=a
 unfold Ref2.nat.trim.s0 at a
 refine CutN.of (fun s=>Ref2.nat.trim.j0 d = some g ∧ s = ⟨21,[(0,.vs 1 (d.map (eI .u32)))],[]⟩) ?_ ?_
 obtain ⟨k,l,m⟩:=letk_elim a
 refine Nm.mk ⟨k,by rw [l,List.length_map],?_⟩
 refine C' m (fun e=>?_) fun e=>?_
 have n:=h _ (Option.some.inj e).symm
 have o:=congrArg some n
 exact R' (E:=E24') o
 obtain ⟨p,q,t⟩:=letk_elim e
 refine Nm.mk ⟨p,by rw [q,List.length_map],?_⟩
 refine N' t fun _ u=>?_
 obtain ⟨w,x⟩:=chk_elim u
 obtain ⟨_,y,z⟩:=bind_elim x
 refine Side.mk w ?_
 refine At.by y ?_
 refine C' z (fun f=>?_) fun f=>?_
 have aa:=h _ (Option.some.inj f).symm
 have ab:=congrArg some aa
 exact R' (E:=E24') ab
 exact B' [] ⟨f,rfl⟩
 rintro s ⟨i,rfl⟩
 unfold Ref2.nat.trim.j0 at i
 obtain ⟨ac,ad,ae⟩:=letk_elim i
 refine Nm.mk ⟨ac,by rw [ad,List.length_map],?_⟩
 refine N' ae fun _ af=>?_
 obtain ⟨ag,ah⟩:=chk_elim af
 obtain ⟨ai,aj,ak⟩:=letk_elim ah
 refine Side.mk (by simpa only [List.length_map] using ag) ?_
 refine Nm.mk ⟨ai.map (eI .u32),by rw [aj]; simp only [List.map_take,List.map_drop,List.length_map],?_⟩
 exact B' [] ⟨_,j _ (Option.some.inj ak).symm,rfl⟩
noncomputable def Ref2.small (a:Int):Option ((List Int)) :=
 letk (IntKind.u32.wrap a) fun b =>
 chk (0 ≤ (32:Int)) <|
 letk ((IntKind.u64,a.fdiv (2 ^ (min (32:Int).toNat (IntKind.u64).bits))).2) fun c =>
 letk (IntKind.u32.wrap c) fun d =>
 Option.bind (Ref2.nat.trim ([b,d])) fun e =>
 some e
theorem Ref2.small_ok {a:Int} {r:(List Int)} (b:Ref2.small a = some r):Gives Tryz.prog 81 [.lit (.int .u64 a)] (.vs 1 (r.map (eI .u32))):=by
 unfold Ref2.small at b
 refine W' [] Tryz.func81 ?_
 refine N' b fun c e=>S' e fun f=>N' f fun _ g=>N' g fun d i=>Gate.go (Nm.mk ⟨([c,d]).map (eI .u32),rfl,?_⟩)
 obtain ⟨_,j,l⟩:=bind_elim i
 refine Gate.weak (Sees.of (Weak.objs (k:=10) (keep:=[]) (frz:=[0]) (m:=0) (ts:=[(8,.vs 1 (([c,d]).map (eI .u32)))]) (hs:=[]) rfl (by decide) rfl rfl ⟨rfl,fun _ h=>by cases h⟩ ⟨(WV.all (k:=0) (by decide) rfl),trivial⟩)) ?_
 exact Z' (Ref2.nat.trim_ok j) (R' (E:=E24') l)
noncomputable def Ref2.times.s1 (m:List Int) (d:List Int) (b:Int) (a:List Int) (h:Int) (c:Int):Option (((List Int) × Int × Int) ⊕ (((List Int) × Int) ⊕ ((List Int)))) :=
 letk ((d.length:Int)) fun n =>
 letk (decide (c < n)) fun o =>
 bif o then
 chk (0 ≤ b) <|
 Option.bind (m[b.toNat]?) fun p =>
 letk (IntKind.u64.wrap p) fun q =>
 chk (0 ≤ c) <|
 Option.bind (d[c.toNat]?) fun r =>
 letk (IntKind.u64.wrap r) fun s =>
 letk (IntKind.u64.wrap (q * s)) fun t =>
 letk (IntKind.i64.wrap (b + c)) fun e =>
 chk (0 ≤ e ∧ e < (a.length:Int)) <|
 letk (0 + e.toNat) fun u =>
 Option.bind (a[u]?) fun v =>
 letk (IntKind.u64.wrap v) fun w =>
 letk (IntKind.u64.wrap (t + w)) fun x =>
 letk (IntKind.u64.wrap (x + h)) fun i =>
 letk (IntKind.i64.wrap (b + c)) fun f =>
 letk (IntKind.u32.wrap i) fun y =>
 chk (0 ≤ (32:Int)) <|
 letk ((IntKind.u64,i.fdiv (2 ^ (min (32:Int).toNat (IntKind.u64).bits))).2) fun z =>
 chk (0 ≤ f ∧ f < (a.length:Int)) <|
 letk (0 + f.toNat) fun j =>
 Option.bind (a[j]?) fun _ =>
 letk (a.set j y) fun aa =>
 letk (IntKind.i64.wrap (c + (1:Int))) fun ab =>
 some (.inl (aa,z,ab))
 else
 ((
 letk ((d.length:Int)) fun ac =>
 letk (IntKind.i64.wrap (b + ac)) fun g =>
 letk (IntKind.u32.wrap h) fun ad =>
 chk (0 ≤ g ∧ g < (a.length:Int)) <|
 letk (0 + g.toNat) fun k =>
 Option.bind (a[k]?) fun _ =>
 letk (a.set k ad) fun l =>
 letk (IntKind.i64.wrap (b + (1:Int))) fun ae =>
 some (.inl (l,ae)))).map .inr
noncomputable def Ref2.times.l1 (a:List Int) (b:List Int) (c:Int) (d:List Int) (e:Int) (f:Int):Option (((List Int) × Int) ⊕ ((List Int))):=loopO (fun v:(List Int) × Int × Int=>Ref2.times.s1 a b c v.1 v.2.1 v.2.2) (d,e,f)
noncomputable def Ref2.times.s0 (a:List Int) (d:List Int) (b:List Int) (c:Int):Option (((List Int) × Int) ⊕ ((List Int))) :=
 letk ((a.length:Int)) fun e =>
 letk (decide (c < e)) fun f =>
 bif f then
 Ref2.times.l1 a d c b 0 0
 else
 ((
 Option.bind (Ref2.nat.trim b) fun g =>
 some g)).map .inr
noncomputable def Ref2.times.l0 (a:List Int) (b:List Int) (c:List Int) (d:Int):Option ((List Int)):=loopO (fun v:(List Int) × Int=>Ref2.times.s0 a b v.1 v.2) (c,d)
noncomputable def Ref2.times (b:List Int) (c:List Int):Option ((List Int)) :=
 letk ((b.length:Int)) fun d =>
 letk ((c.length:Int)) fun e =>
 letk (IntKind.i64.wrap (d + e)) fun a =>
 chk (0 ≤ a ∧ a ≤ a ∧ a ≤ 9223372036854775807 ∧ 4 * a ≤ 140737488355328) <|
 letk ((List.replicate a.toNat 0:List Int)) fun f =>
 Ref2.times.l0 b c f 0
theorem Ref2.times_ok {a:List Int} {b:List Int} {r:(List Int)} (q:Ref2.times a b = some r):Gives Tryz.prog 80 [.vs 1 (a.map (eI .u32)),.vs 1 (b.map (eI .u32))] (.vs 1 (r.map (eI .u32))):=by
 unfold Ref2.times at q
 refine W' [] Tryz.func80 ?_
 obtain ⟨z,aa,h1⟩:=letk_elim q
 refine Nm.mk ⟨z,by rw [aa,List.length_map],?_⟩
 obtain ⟨ab,ac,h2⟩:=letk_elim h1
 refine Nm.mk ⟨ab,by rw [ac,List.length_map],?_⟩
 refine N' h2 fun _ h3=>S' h3 fun h4=>?_
 obtain ⟨s,ad,t⟩:=letk_elim h4
 refine Nm.mk ⟨s.map (eI .u32),by rw [ad,List.map_replicate]; rfl,?_⟩
 unfold Ref2.times.l0 at t
 refine LoopB.of (σ:=(List Int) × Int) (ρ:=(List Int)) (fun v:(List Int) × Int=>Ref2.times.s0 a b v.1 v.2) (fun v=>(⟨68,[(0,.vs 1 (a.map (eI .u32))),(1,.vs 1 (b.map (eI .u32))),(5,.ref 0 0 ((v.1.map (eI .u32)).length)),(6,.lit (.int .i64 v.2))],[.arr 1 (v.1.map (eI .u32))]⟩:St)) (s,0) t (B' [0] rfl) ?_
 rintro _ ⟨i,c⟩ x1 d ae af
 replace d:Ref2.times.s0 a b i c = some x1:=d
 unfold Ref2.times.s0 at d
 obtain ⟨ag,ah,ai⟩:=letk_elim d
 refine Nm.mk ⟨ag,by rw [ah,List.length_map],?_⟩
 refine C' ai (fun f=>?_) fun f=>?_
 obtain ⟨_,aj,j⟩:=map_elim f
 have j:=(af _ j.symm).symm
 subst j
 obtain ⟨_,ak,al⟩:=bind_elim aj
 refine Gate.weak (Sees.of (Weak.objs (k:=68) (keep:=[]) (frz:=[0]) (m:=0) (ts:=[(66,.vs 1 (i.map (eI .u32)))]) (hs:=[]) rfl (by decide) rfl rfl ⟨rfl,fun _ h=>by cases h⟩ ⟨(WV.all (k:=0) (by decide) rfl),trivial⟩)) ?_
 exact Z' (Ref2.nat.trim_ok ak) (R' (E:=E24') al)
 unfold Ref2.times.l1 at f
 refine LoopB.of (σ:=(List Int) × Int × Int) (ρ:=((List Int) × Int) ⊕ ((List Int))) (fun v:(List Int) × Int × Int=>Ref2.times.s1 a b c v.1 v.2.1 v.2.2) (fun v=>(⟨68,[(0,.vs 1 (a.map (eI .u32))),(1,.vs 1 (b.map (eI .u32))),(5,.ref 0 0 ((v.1.map (eI .u32)).length)),(6,.lit (.int .i64 c)),(7,.lit (.int .u64 v.2.1)),(8,.lit (.int .i64 v.2.2))],[.arr 1 (v.1.map (eI .u32))]⟩:St)) (i,0,0) f (B' [0] rfl) ?_
 rintro _ ⟨n,am,k8⟩ x2 g an ao
 replace g:Ref2.times.s1 a b c n am k8 = some x2:=g
 unfold Ref2.times.s1 at g
 obtain ⟨ap,aq,ar⟩:=letk_elim g
 refine Nm.mk ⟨ap,by rw [aq,List.length_map],?_⟩
 refine C' ar (fun o=>?_) fun o=>L' [0] [0,1,5,6,7,8] ?_
 obtain ⟨_,au,p⟩:=map_elim o
 have p:=(ao _ p.symm).symm
 subst p
 obtain ⟨av,aw,ax⟩:=letk_elim au
 refine Nm.mk ⟨av,by rw [aw,List.length_map],?_⟩
 refine N' ax fun _ ay=>N' ay fun _ az=>?_
 obtain ⟨ba,bb⟩:=chk_elim az
 obtain ⟨bc,bd,be⟩:=letk_elim bb
 refine Side.mk (by simpa only [List.length_map] using ba) ?_
 refine Nm.mk ⟨bc,bd,?_⟩
 obtain ⟨_,bf,bg⟩:=bind_elim be
 obtain ⟨l,u,bh⟩:=letk_elim bg
 refine At.by bf ?_
 refine Side.mk ⟨Nat.le_of_ble_eq_true rfl,rfl⟩ ?_
 refine Nm.mk ⟨l.map (eI .u32),by rw [u,List.map_set]; rfl,?_⟩
 rw [show (n.map (eI .u32)).length = (l.map (eI .u32)).length from by rw [u,List.length_map,List.length_map,List.length_set]]
 refine N' bh fun _ bi=>?_
 exact B' [0] ⟨_,ae _ (Option.some.inj bi).symm,rfl⟩
 refine DrawB.ofG [none,none,none,none,none,none,none,none,none,none,none,none,none,none,none,none,none,none,none,none,none,none] Tryz_mixed (by kernel_rfl) (by kernel_rfl) ?_
 refine D' rfl (D' rfl ?_)
 obtain ⟨bj,bk⟩:=chk_elim o
 obtain ⟨bl,bm,bn⟩:=bind_elim bk
 refine DNodeB.of (.iptr (.lit (.int .u32 bl))) ?_ ?_
 refine Side.mk bj ?_
 refine At.by bm ?_
 rfl
 refine D' rfl (DN' bn (fun e=>n' e rfl) fun _ bo=>D' rfl (D' rfl ?_))
 obtain ⟨bp,bq⟩:=chk_elim bo
 obtain ⟨br,bs,bt⟩:=bind_elim bq
 refine DNodeB.of (.iptr (.lit (.int .u32 br))) ?_ ?_
 refine Side.mk bp ?_
 refine At.by bs ?_
 rfl
 refine D' rfl (DN' bt (fun e=>n' e rfl) fun _ bu=>DN' bu (fun e=>n' e rfl) fun _ bv=>D' rfl (D' rfl (D' rfl (DN' bv (fun e=>n' e rfl) fun _ bw=>?_))))
 obtain ⟨bx,bz⟩:=chk_elim bw
 obtain ⟨w,ca,cb⟩:=letk_elim bz
 refine DNodeB.of (.eptr 0 w 0) ?_ ?_
 refine Side.mk (by simpa only [List.length_map] using bx) ?_
 refine Nm.mk ⟨w,ca,?_⟩
 rfl
 obtain ⟨cc,cd,ce⟩:=bind_elim cb
 refine DNodeB.of (.lit (.int .u32 cc)) ?_ ?_
 refine At.by cd ?_
 rfl
 refine DN' ce (fun e=>n' e rfl) fun _ cf=>DN' cf (fun e=>n' e rfl) fun _ cg=>D' rfl (DN' cg (fun e=>n' e rfl) fun _ ch=>D' rfl (N' ch fun _ ci=>N' ci fun _ cj=>S' cj fun ck=>N' ck fun _ cl=>?_))
 obtain ⟨cm,cn⟩:=chk_elim cl
 obtain ⟨co,cp,cq⟩:=letk_elim cn
 refine Side.mk (by simpa only [List.length_map] using cm) ?_
 refine Nm.mk ⟨co,cp,?_⟩
 obtain ⟨_,cr,cs⟩:=bind_elim cq
 obtain ⟨x,y,ct⟩:=letk_elim cs
 refine At.by cr ?_
 refine Side.mk ⟨Nat.le_of_ble_eq_true rfl,rfl⟩ ?_
 refine Nm.mk ⟨x.map (eI .u32),by rw [y,List.map_set]; rfl,?_⟩
 rw [show (n.map (eI .u32)).length = (x.map (eI .u32)).length from by rw [y,List.length_map,List.length_map,List.length_set]]
 refine N' ct fun _ cu=>?_
 exact B' [0] ⟨_,an _ (Option.some.inj cu).symm,rfl⟩
noncomputable def Ref2.plus.j0 (a:List Int) (b:Int):Option ((List Int)) :=
 letk (decide (b > (0:Int))) fun d =>
 bif d then
 letk (IntKind.u32.wrap b) fun c =>
 chk ((a.length + ([c]).length) * 4 ≤ 140737488355328) <|
 letk (a ++ ([c])) fun e =>
 some e
 else
 some a
noncomputable def Ref2.plus.j1 (e:Int) (a:Int) (b:List Int):Option (((List Int) × Int × Int) ⊕ ((List Int))) :=
 chk (0 ≤ a ∧ a < (b.length:Int)) <|
 letk (0 + a.toNat) fun f =>
 Option.bind (b[f]?) fun g =>
 letk (IntKind.u64.wrap g) fun h =>
 letk (IntKind.u64.wrap (h + e)) fun c =>
 letk (IntKind.u32.wrap c) fun i =>
 chk (0 ≤ (32:Int)) <|
 letk ((IntKind.u64,c.fdiv (2 ^ (min (32:Int).toNat (IntKind.u64).bits))).2) fun j =>
 chk (0 ≤ a ∧ a < (b.length:Int)) <|
 letk (0 + a.toNat) fun d =>
 Option.bind (b[d]?) fun _ =>
 letk (b.set d i) fun l =>
 letk (IntKind.i64.wrap (a + (1:Int))) fun k =>
 some (.inl (l,j,k))
noncomputable def Ref2.plus.s0 (a:List Int) (b:Int) (c:Int):Option (((List Int) × Int × Int) ⊕ ((List Int))) :=
 letk ((a.length:Int)) fun d =>
 letk (decide (c < d)) fun e =>
 bif e then
 letk (decide (b > (0:Int))) fun f =>
 bif f then
 Ref2.plus.j1 b c a
 else
 (Ref2.plus.j0 a b).map .inr
 else
 (Ref2.plus.j0 a b).map .inr
noncomputable def Ref2.plus.l0 (a:List Int) (b:Int) (c:Int):Option ((List Int)):=loopO (fun v:(List Int) × Int × Int=>Ref2.plus.s0 v.1 v.2.1 v.2.2) (a,b,c)
noncomputable def Ref2.plus (a:List Int) (b:Int):Option ((List Int)) :=
 chk (((([]:List Int)).length + a.length) * 4 ≤ 140737488355328) <|
 letk ((([]:List Int)) ++ a) fun c =>
 letk (IntKind.u64.wrap b) fun d =>
 Ref2.plus.l0 c d 0
theorem Ref2.plus_ok {w:List Int} {x:Int} {r:(List Int)} (y:Ref2.plus w x = some r):Gives Tryz.prog 79 [.vs 1 (w.map (eI .u32)),.lit (.int .u32 x)] (.vs 1 (r.map (eI .u32))):=by
 unfold Ref2.plus at y
 refine W' [(0,8),(1,1)] Tryz.func79 ?_
 refine Gate.go (Nm.mk ⟨(([]:List Int)).map (eI .u32),rfl,?_⟩)
 obtain ⟨ad,h1⟩:=chk_elim y
 obtain ⟨z,ae,h2⟩:=letk_elim h1
 refine Gate.go (Side.mk (full_le _) ?_)
 refine Side.mk (one_map (fun _ _ a=>by simp only [AV.cells,List.mem_singleton] at a; subst a; rfl)) ?_
 refine Side.mk (side_rv (by decide) ad) ?_
 refine Nm.mk ⟨z.map (eI .u32),by rw [ae]; exact app_rv,?_⟩
 refine N' h2 fun af h3=>CutN.of (fun s=>∃ b g,Ref2.plus.j0 b g = some r ∧ s = ⟨46,[(5,.ref 0 0 ((b.map (eI .u32)).length)),(6,.lit (.int .u64 g))],[.arr 1 (b.map (eI .u32))]⟩) ?_ ?_
 unfold Ref2.plus.l0 at h3
 refine LoopB.of (σ:=(List Int) × Int × Int) (ρ:=(List Int)) (fun v:(List Int) × Int × Int=>Ref2.plus.s0 v.1 v.2.1 v.2.2) (fun v=>(⟨46,[(5,.ref 0 0 ((v.1.map (eI .u32)).length)),(6,.lit (.int .u64 v.2.1)),(7,.lit (.int .i64 v.2.2))],[.arr 1 (v.1.map (eI .u32))]⟩:St)) (z,af,0) h3 (B' [1] rfl) ?_
 rintro _ ⟨ag,h,i⟩ x1 f ah aa
 replace f:Ref2.plus.s0 ag h i = some x1:=f
 unfold Ref2.plus.s0 at f
 refine CutN.of (fun s=>∃ c,Ref2.plus.j1 h i c = some x1 ∧ s = ⟨46,[(5,.ref 0 0 ((c.map (eI .u32)).length)),(6,.lit (.int .u64 h)),(7,.lit (.int .i64 i))],[.arr 1 (c.map (eI .u32))]⟩) ?_ ?_
 obtain ⟨ai,aj,ak⟩:=letk_elim f
 refine Nm.mk ⟨ai,by rw [aj,List.length_map],?_⟩
 refine C' ak (fun j=>?_) fun j=>C' j (fun n=>?_) fun n=>?_
 obtain ⟨_,al,o⟩:=map_elim j
 have o:=(aa _ o.symm).symm
 subst o
 exact B' [0] ⟨_,_,al,rfl⟩
 obtain ⟨_,am,p⟩:=map_elim n
 have p:=(aa _ p.symm).symm
 subst p
 exact B' [0] ⟨_,_,am,rfl⟩
 exact B' [0] ⟨_,n,rfl⟩
 rintro s ⟨c,d,rfl⟩
 unfold Ref2.plus.j1 at d
 obtain ⟨an,ao⟩:=chk_elim d
 obtain ⟨ap,aq,e⟩:=letk_elim ao
 refine Side.mk (by simpa only [List.length_map] using an) ?_
 refine Nm.mk ⟨ap,aq,?_⟩
 obtain ⟨_,ar,q⟩:=bind_elim e
 refine At.by ar ?_
 refine N' q fun _ t=>N' t fun _ u=>N' u fun _ au=>S' au fun av=>N' av fun _ aw=>?_
 obtain ⟨ax,ay⟩:=chk_elim aw
 obtain ⟨az,ba,bb⟩:=letk_elim ay
 refine Side.mk (by simpa only [List.length_map] using ax) ?_
 refine Nm.mk ⟨az,ba,?_⟩
 obtain ⟨_,bc,bd⟩:=bind_elim bb
 obtain ⟨l,el,be⟩:=letk_elim bd
 refine At.by bc ?_
 refine Side.mk ⟨Nat.le_of_ble_eq_true rfl,rfl⟩ ?_
 refine Nm.mk ⟨l.map (eI .u32),by rw [el,List.map_set]; rfl,?_⟩
 rw [show (c.map (eI .u32)).length = (l.map (eI .u32)).length from by rw [el,List.length_map,List.length_map,List.length_set]]
 refine N' be fun _ bf=>?_
 exact B' [0] ⟨_,ah _ (Option.some.inj bf).symm,rfl⟩
 rintro s ⟨b,g,d,rfl⟩
 unfold Ref2.plus.j0 at d
 refine C' d (fun e=>?_) fun e=>N' e fun ab q=>Gate.go (Nm.mk ⟨([ab]).map (eI .u32),rfl,?_⟩)
 have bg:=Option.some.inj e
 subst bg
 exact Returns.frozen (r:=.vs 1 (b.map (eI .u32))) [0] rfl rfl (WV.all (k:=0) (by decide) rfl) ⟨rfl,rfl⟩
 obtain ⟨bh,t⟩:=chk_elim q
 obtain ⟨ac,bi,u⟩:=letk_elim t
 refine Gate.go (Side.mk (full_le _) ?_)
 refine Side.mk ⟨full_le _,one_map (fun _ _ a=>by simp only [AV.cells,List.mem_singleton] at a; subst a; rfl)⟩ ?_
 refine Side.mk (side_rr (by decide) bh) ?_
 refine Nm.mk ⟨ac.map (eI .u32),by rw [bi]; exact app_rr (m:=[ab]),?_⟩
 have bj:=Option.some.inj u
 subst bj
 exact Returns.frozen (r:=.vs 1 (ac.map (eI .u32))) [2] rfl rfl (WV.all (k:=2) (by decide) rfl) ⟨rfl,rfl⟩
noncomputable def Ref2.power.s1 (a:Int) (b:List Int):Option ((Int × (List Int)) ⊕ ((List Int))) :=
 letk (decide (a > (0:Int))) fun c =>
 bif c then
 Option.bind (Ref2.small 10) fun d =>
 Option.bind (Ref2.times b d) fun e =>
 letk (IntKind.i64.wrap (a - (1:Int))) fun f =>
 some (.inl (f,e))
 else
 some (.inr b)
noncomputable def Ref2.power.l1 (a:Int) (b:List Int):Option ((List Int)):=loopO (fun v:Int × (List Int)=>Ref2.power.s1 v.1 v.2) (a,b)
noncomputable def Ref2.power.s0 (a:Int) (b:List Int):Option ((Int × (List Int)) ⊕ ((List Int))) :=
 letk (decide (a ≥ (9:Int))) fun c =>
 bif c then
 Option.bind (Ref2.small 1000000000) fun d =>
 Option.bind (Ref2.times b d) fun e =>
 letk (IntKind.i64.wrap (a - (9:Int))) fun f =>
 some (.inl (f,e))
 else
 (Ref2.power.l1 a b).map .inr
noncomputable def Ref2.power.l0 (a:Int) (b:List Int):Option ((List Int)):=loopO (fun v:Int × (List Int)=>Ref2.power.s0 v.1 v.2) (a,b)
noncomputable def Ref2.power (a:Int):Option ((List Int)) :=
 Option.bind (Ref2.small 1) fun b =>
 Ref2.power.l0 a b
theorem Ref2.power_ok {c:Int} {r:(List Int)} (j:Ref2.power c = some r):Gives Tryz.prog 83 [.lit (.int .i64 c)] (.vs 1 (r.map (eI .u32))):=by
 unfold Ref2.power at j
 refine W' [] Tryz.func83 ?_
 refine Gate.go (A' j Ref2.small_ok fun o k=>?_)
 unfold Ref2.power.l0 at k
 refine LoopB.of (σ:=Int × (List Int)) (ρ:=(List Int)) (fun v:Int × (List Int)=>Ref2.power.s0 v.1 v.2) (fun v=>(⟨20,[(0,.lit (.int .i64 v.1)),(3,.vs 1 (v.2.map (eI .u32)))],[]⟩:St)) (c,o) k (B' [] rfl) ?_
 rintro p ⟨l,m⟩ d a e f
 replace a:Ref2.power.s0 l m = some d:=a
 unfold Ref2.power.s0 at a
 refine C' a (fun g=>?_) fun g=>Gate.go (A' g Ref2.small_ok fun _ q=>Gate.go (A' q Ref2.times_ok fun _ s=>N' s fun _ t=>?_))
 obtain ⟨_,n,h⟩:=map_elim g
 have h:=(f _ h.symm).symm
 subst h
 unfold Ref2.power.l1 at n
 refine LoopB.of (σ:=Int × (List Int)) (ρ:=(List Int)) (fun v:Int × (List Int)=>Ref2.power.s1 v.1 v.2) (fun v=>(⟨20,[(0,.lit (.int .i64 v.1)),(3,.vs 1 (v.2.map (eI .u32)))],[]⟩:St)) (l,m) n (B' [] rfl) ?_
 rintro p ⟨u,w⟩ d b e f
 replace b:Ref2.power.s1 u w = some d:=b
 unfold Ref2.power.s1 at b
 refine C' b (fun i=>?_) fun i=>Gate.go (A' i Ref2.small_ok fun _ x=>Gate.go (A' x Ref2.times_ok fun _ y=>N' y fun _ z=>?_))
 have aa:=f _ (Option.some.inj i).symm
 have ab:=congrArg some aa
 exact R' (E:=E24') ab
 exact B' [] ⟨_,e _ (Option.some.inj z).symm,rfl⟩
 exact B' [] ⟨_,e _ (Option.some.inj t).symm,rfl⟩
end Go.Q
