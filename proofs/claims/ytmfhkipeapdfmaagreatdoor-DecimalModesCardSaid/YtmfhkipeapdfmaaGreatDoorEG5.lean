import Derived.Test.YtmfhkipeapdfmaaGreatDoorEG4
import Derived.Test.YtmfhkipeapdfmaaGreatDoorFX
import Derived.Test.YtmfhkipeapdfmaaGreatDoorFY
import Derived.Test.YtmfhkipeapdfmaaGreatDoorProg
namespace Go.Q
open Go Go.Proofs
set_option maxRecDepth 10000
set_option maxHeartbeats 2000000
noncomputable def Law2.DecimalModes.j1 (a:List Int):Option Bool :=
 chk (0 ≤ (0:Int) ∧ (0:Int) < ((4:Nat):Int)) <|
 letk ((0:Int).toNat) fun b =>
 Option.bind (a[b]?) fun c =>
 chk (0 ≤ (2:Int) ∧ (2:Int) < ((4:Nat):Int)) <|
 letk ((2:Int).toNat) fun d =>
 Option.bind (a[d]?) fun e =>
 letk (c == e) fun f =>
 bif f then
 chk (0 ≤ (1:Int) ∧ (1:Int) < ((4:Nat):Int)) <|
 letk ((1:Int).toNat) fun g =>
 Option.bind (a[g]?) fun h =>
 chk (0 ≤ (2:Int) ∧ (2:Int) < ((4:Nat):Int)) <|
 letk ((2:Int).toNat) fun i =>
 Option.bind (a[i]?) fun j =>
 letk (h == j) fun k =>
 bif k then
 Option.bind (Law2.Awake) fun l =>
 some l
 else
 chk (0 ≤ (1:Int) ∧ (1:Int) < ((4:Nat):Int)) <|
 letk ((1:Int).toNat) fun m =>
 Option.bind (a[m]?) fun n =>
 chk (0 ≤ (3:Int) ∧ (3:Int) < ((4:Nat):Int)) <|
 letk ((3:Int).toNat) fun o =>
 Option.bind (a[o]?) fun p =>
 letk (n == p) fun q =>
 bif q then
 Option.bind (Law2.Awake) fun r =>
 some r
 else
 some false
 else
 chk (0 ≤ (0:Int) ∧ (0:Int) < ((4:Nat):Int)) <|
 letk ((0:Int).toNat) fun s =>
 Option.bind (a[s]?) fun t =>
 chk (0 ≤ (3:Int) ∧ (3:Int) < ((4:Nat):Int)) <|
 letk ((3:Int).toNat) fun u =>
 Option.bind (a[u]?) fun v =>
 letk (t == v) fun w =>
 bif w then
 chk (0 ≤ (1:Int) ∧ (1:Int) < ((4:Nat):Int)) <|
 letk ((1:Int).toNat) fun x =>
 Option.bind (a[x]?) fun y =>
 chk (0 ≤ (2:Int) ∧ (2:Int) < ((4:Nat):Int)) <|
 letk ((2:Int).toNat) fun z =>
 Option.bind (a[z]?) fun aa =>
 letk (y == aa) fun ab =>
 bif ab then
 Option.bind (Law2.Awake) fun ac =>
 some ac
 else
 chk (0 ≤ (1:Int) ∧ (1:Int) < ((4:Nat):Int)) <|
 letk ((1:Int).toNat) fun ad =>
 Option.bind (a[ad]?) fun ae =>
 chk (0 ≤ (3:Int) ∧ (3:Int) < ((4:Nat):Int)) <|
 letk ((3:Int).toNat) fun af =>
 Option.bind (a[af]?) fun ag =>
 letk (ae == ag) fun ah =>
 bif ah then
 Option.bind (Law2.Awake) fun ai =>
 some ai
 else
 some false
 else
 some false
noncomputable def Law2.DecimalModes.s0 (g:ByteArray) (d:Int) (b:List Int) (c:List Int) (a:Int):Option (((List Int) × (List Int) × Int) ⊕ Bool) :=
 letk (decide (a < (4:Int))) fun h =>
 bif h then
 Option.bind (Dec.Read g d a) fun (i,j,k) =>
 letk (k != (0:Int)) fun m =>
 bif m then
 some (.inr false)
 else
 chk (0 ≤ a ∧ a < ((4:Nat):Int)) <|
 letk (a.toNat) fun e =>
 Option.bind (b[e]?) fun _ =>
 letk (b.set e i) fun l =>
 chk (0 ≤ a ∧ a < ((4:Nat):Int)) <|
 letk (a.toNat) fun f =>
 Option.bind (c[f]?) fun _ =>
 letk (c.set f j) fun n =>
 letk (IntKind.i64.wrap (a + (1:Int))) fun o =>
 some (.inl (l,n,o))
 else
 ((
 chk (0 ≤ (2:Int) ∧ (2:Int) < ((4:Nat):Int)) <|
 letk ((2:Int).toNat) fun p =>
 Option.bind (b[p]?) fun q =>
 chk (0 ≤ (3:Int) ∧ (3:Int) < ((4:Nat):Int)) <|
 letk ((3:Int).toNat) fun r =>
 Option.bind (b[r]?) fun s =>
 Option.bind (Ref1.Compare d q s) fun (t,u) =>
 letk (u != (0:Int)) fun v =>
 bif v then
 some false
 else
 letk (t == (1:Int)) fun w =>
 bif w then
 some false
 else
 chk (0 ≤ (2:Int) ∧ (2:Int) < ((4:Nat):Int)) <|
 letk ((2:Int).toNat) fun x =>
 Option.bind (b[x]?) fun y =>
 chk (0 ≤ (3:Int) ∧ (3:Int) < ((4:Nat):Int)) <|
 letk ((3:Int).toNat) fun z =>
 Option.bind (b[z]?) fun aa =>
 letk (y == aa) fun ab =>
 chk (0 ≤ (2:Int) ∧ (2:Int) < ((4:Nat):Int)) <|
 letk ((2:Int).toNat) fun ac =>
 Option.bind (c[ac]?) fun ad =>
 letk (ad == (0:Int)) fun ae =>
 letk (!(ab == ae)) fun af =>
 bif af then
 some false
 else
 chk (0 ≤ (2:Int) ∧ (2:Int) < ((4:Nat):Int)) <|
 letk ((2:Int).toNat) fun ag =>
 Option.bind (c[ag]?) fun ah =>
 letk (ah == (0:Int)) fun ai =>
 chk (0 ≤ (3:Int) ∧ (3:Int) < ((4:Nat):Int)) <|
 letk ((3:Int).toNat) fun aj =>
 Option.bind (c[aj]?) fun ak =>
 letk (ak == (0:Int)) fun al =>
 letk (!(ai == al)) fun am =>
 bif am then
 some false
 else
 Law2.DecimalModes.j1 b)).map .inr
noncomputable def Law2.DecimalModes.l0 (a:ByteArray) (b:Int) (c:List Int) (d:List Int) (e:Int):Option Bool:=loopO (fun v:(List Int) × (List Int) × Int=>Law2.DecimalModes.s0 a b v.1 v.2.1 v.2.2) (c,d,e)
noncomputable def Law2.DecimalModes.j0 (a:ByteArray) (b:Int):Option Bool :=
 Law2.DecimalModes.l0 a b (([0,0,0,0]:List Int)) (([0,0,0,0]:List Int)) 0
noncomputable def Law2.DecimalModes (a:ByteArray) (b:Int):Option Bool :=
 letk ((a.size:Int)) fun c =>
 letk (decide (c > (200:Int))) fun d =>
 bif d then
 Option.bind (Law2.Awake) fun e =>
 some e
 else
 letk (b != (2:Int)) fun f =>
 bif f then
 letk (b != (4:Int)) fun g =>
 bif g then
 letk (b != (8:Int)) fun h =>
 bif h then
 Option.bind (Law2.Awake) fun i =>
 some i
 else
 Option.bind (Dec.Is a) fun j =>
 letk (!j) fun k =>
 bif k then
 Option.bind (Law2.Awake) fun l =>
 some l
 else
 Law2.DecimalModes.j0 a b
 else
 Option.bind (Dec.Is a) fun m =>
 letk (!m) fun n =>
 bif n then
 Option.bind (Law2.Awake) fun o =>
 some o
 else
 Law2.DecimalModes.j0 a b
 else
 Option.bind (Dec.Is a) fun p =>
 letk (!p) fun q =>
 bif q then
 Option.bind (Law2.Awake) fun r =>
 some r
 else
 Law2.DecimalModes.j0 a b
theorem Law2.DecimalModes_ok {a:ByteArray} {b:Int} {r:Bool} (h0:Law2.DecimalModes a b = some r):Gives Tryz.prog 5 [.lit (.string a),.lit (.int .i64 b)] (.lit (.bool r)):=by
 unfold Law2.DecimalModes at h0
 refine W' [(0,3),(0,14)] Tryz.func5 ?_
 refine CutN.of (fun s=>Law2.DecimalModes.j0 a b = some r ∧ s = ⟨118,[(0,.lit (.string a)),(1,.lit (.int .i64 b))],[]⟩) ?_ ?_
 refine N' h0 fun _ h1=>C' h1 (fun o=>C' o (fun p=>Gate.go (A' p Dec.Is_ok fun _ h6=>C' h6 (fun g=>?_) fun g=>Gate.go (A' g Law2.Awake_ok fun _ i=>R' (E:=E1') i))) fun p=>C' p (fun q=>Gate.go (A' q Dec.Is_ok fun _ g=>C' g (fun c=>?_) fun c=>Gate.go (A' c Law2.Awake_ok fun _ ax=>R' (E:=E1') ax))) fun q=>C' q (fun i=>Gate.go (A' i Dec.Is_ok fun _ c=>C' c (fun t=>?_) fun t=>Gate.go (A' t Law2.Awake_ok fun _ ay=>R' (E:=E1') ay))) fun i=>Gate.go (A' i Law2.Awake_ok fun _ c=>R' (E:=E1') c)) fun o=>Gate.go (A' o Law2.Awake_ok fun _ h4=>R' (E:=E1') h4)
 exact B' [] ⟨g,rfl⟩
 exact B' [] ⟨c,rfl⟩
 exact B' [] ⟨t,rfl⟩
 rintro s ⟨f,rfl⟩
 unfold Law2.DecimalModes.j0 at f
 refine HardN.allocA (eI .i64) [0,0,0,0] [.arr 1 ((([0,0,0,0]:List Int)).map (eI .i64))] rfl rfl rfl (fun _=>rfl) rfl ?_
 refine HardN.allocA (eI .i64) [0,0,0,0] [.arr 1 ((([0,0,0,0]:List Int)).map (eI .i64)),.arr 1 ((([0,0,0,0]:List Int)).map (eI .i64))] rfl rfl rfl (fun _=>rfl) rfl ?_
 unfold Law2.DecimalModes.l0 at f
 refine LoopB.of (σ:=(List Int) × (List Int) × Int) (ρ:=Bool) (fun v:(List Int) × (List Int) × Int=>Law2.DecimalModes.s0 a b v.1 v.2.1 v.2.2) (fun v=>(⟨118,[(0,.lit (.string a)),(1,.lit (.int .i64 b)),(5,.eptr 0 0 0),(6,.eptr 1 0 0),(7,.lit (.int .i64 v.2.2))],[.arr 1 (v.1.map (eI .i64)),.arr 1 (v.2.1.map (eI .i64))]⟩:St)) (([0,0,0,0]:List Int),([0,0,0,0]:List Int),0) f (BackS.by rfl (Sees.of (Weak.objs (keep:=[0,1]) (frz:=[]) (m:=0) rfl (by decide) rfl rfl ⟨⟨_,rfl,.arr _ _⟩,⟨⟨_,rfl,.arr _ _⟩,⟨rfl,fun _ h=>by cases h⟩⟩⟩ ⟨.s,.s,(.eptr _ _ _ 0 rfl),(.eptr _ _ _ 1 rfl),.s,trivial⟩))) ?_
 rintro _ ⟨u,az,ba⟩ x1 n bb aw
 replace n:Law2.DecimalModes.s0 a b u az ba = some x1:=n
 unfold Law2.DecimalModes.s0 at n
 refine C' n (fun w=>?_) fun w=>?_
 obtain ⟨_,bc,x⟩:=map_elim w
 have x:=(aw _ x.symm).symm
 subst x
 obtain ⟨bd,be⟩:=chk_elim bc
 obtain ⟨bf,bg,bh⟩:=letk_elim be
 refine HardN.indexA bf rfl rfl rfl rfl rfl rfl rfl bd bg ?_
 obtain ⟨_,bi,bj⟩:=bind_elim bh
 refine At.by bi ?_
 obtain ⟨bk,bl⟩:=chk_elim bj
 obtain ⟨bm,bn,bo⟩:=letk_elim bl
 refine HardN.indexA bm rfl rfl rfl rfl rfl rfl rfl bk bn ?_
 obtain ⟨_,bp,bq⟩:=bind_elim bo
 refine At.by bp ?_
 obtain ⟨⟨_,_⟩,br,bs⟩:=bind_elim bq
 refine Gate.go (Z' (Ref1.Compare_ok br) (CutN.of (fun s=>Law2.DecimalModes.j1 u = some r ∧ s = ⟨118,[(5,.eptr 0 0 0)],[.arr 1 (u.map (eI .i64))]⟩) ?_ ?_))
 refine C' bs (fun y=>C' y (fun z=>?_) fun z=>R' (E:=E1') z) fun y=>R' (E:=E1') y
 obtain ⟨bt,bu⟩:=chk_elim z
 obtain ⟨bv,bw,bx⟩:=letk_elim bu
 refine HardN.indexA bv rfl rfl rfl rfl rfl rfl rfl bt bw ?_
 obtain ⟨_,bz,ca⟩:=bind_elim bx
 refine At.by bz ?_
 obtain ⟨cb,cc⟩:=chk_elim ca
 obtain ⟨cd,ce,cf⟩:=letk_elim cc
 refine HardN.indexA cd rfl rfl rfl rfl rfl rfl rfl cb ce ?_
 obtain ⟨_,cg,ch⟩:=bind_elim cf
 refine At.by cg ?_
 refine N' ch fun _ ci=>?_
 obtain ⟨cj,ck⟩:=chk_elim ci
 obtain ⟨cl,cm,cn⟩:=letk_elim ck
 refine HardN.indexA cl rfl rfl rfl rfl rfl rfl rfl cj cm ?_
 obtain ⟨_,co,cp⟩:=bind_elim cn
 refine At.by co ?_
 refine N' cp fun _ cq=>C' cq (fun aa=>?_) fun aa=>R' (E:=E1') aa
 obtain ⟨cr,cs⟩:=chk_elim aa
 obtain ⟨ct,cu,cv⟩:=letk_elim cs
 refine HardN.indexA ct rfl rfl rfl rfl rfl rfl rfl cr cu ?_
 obtain ⟨_,cw,cx⟩:=bind_elim cv
 refine At.by cw ?_
 refine N' cx fun _ cy=>?_
 obtain ⟨cz,da⟩:=chk_elim cy
 obtain ⟨db,dc,dd⟩:=letk_elim da
 refine HardN.indexA db rfl rfl rfl rfl rfl rfl rfl cz dc ?_
 obtain ⟨_,de,df⟩:=bind_elim dd
 refine At.by de ?_
 refine N' df fun _ dg=>C' dg (fun ab=>?_) fun ab=>R' (E:=E1') ab
 exact BackS.by ⟨ab,rfl⟩ (Sees.of (Weak.objs (keep:=[0]) (frz:=[]) (m:=0) rfl (by decide) rfl rfl ⟨⟨_,rfl,.arr _ _⟩,⟨rfl,fun _ h=>by cases h⟩⟩ ⟨(.eptr _ _ _ 0 rfl),trivial⟩))
 rintro s ⟨f,rfl⟩
 unfold Law2.DecimalModes.j1 at f
 obtain ⟨dh,di⟩:=chk_elim f
 obtain ⟨dj,dk,dl⟩:=letk_elim di
 refine HardN.indexA dj rfl rfl rfl rfl rfl rfl rfl dh dk ?_
 obtain ⟨_,dm,dn⟩:=bind_elim dl
 refine At.by dm ?_
 obtain ⟨dp,dq⟩:=chk_elim dn
 obtain ⟨dr,ds,dt⟩:=letk_elim dq
 refine HardN.indexA dr rfl rfl rfl rfl rfl rfl rfl dp ds ?_
 obtain ⟨_,du,dv⟩:=bind_elim dt
 refine At.by du ?_
 refine C' dv (fun ac=>?_) fun ac=>?_
 obtain ⟨ad,ae⟩:=chk_elim ac
 obtain ⟨dw,dx,af⟩:=letk_elim ae
 refine HardN.indexA dw rfl rfl rfl rfl rfl rfl rfl ad dx ?_
 obtain ⟨_,dy,ag⟩:=bind_elim af
 refine At.by dy ?_
 obtain ⟨ah,ai⟩:=chk_elim ag
 obtain ⟨dz,ea,aj⟩:=letk_elim ai
 refine HardN.indexA dz rfl rfl rfl rfl rfl rfl rfl ah ea ?_
 obtain ⟨_,eb,ak⟩:=bind_elim aj
 refine At.by eb ?_
 refine C' ak (fun d=>R' (E:=E1') d) fun d=>?_
 obtain ⟨al,j⟩:=chk_elim d
 obtain ⟨ec,ed,am⟩:=letk_elim j
 refine HardN.indexA ec rfl rfl rfl rfl rfl rfl rfl al ed ?_
 obtain ⟨_,ee,an⟩:=bind_elim am
 refine At.by ee ?_
 obtain ⟨ao,ap⟩:=chk_elim an
 obtain ⟨ef,eg,aq⟩:=letk_elim ap
 refine HardN.indexA ef rfl rfl rfl rfl rfl rfl rfl ao eg ?_
 obtain ⟨_,eh,ar⟩:=bind_elim aq
 refine At.by eh ?_
 refine C' ar (fun e=>?_) fun e=>Gate.go (A' e Law2.Awake_ok fun _ k=>R' (E:=E1') k)
 obtain ⟨ei,k⟩:=chk_elim e
 obtain ⟨ej,ek,em⟩:=letk_elim k
 refine HardN.indexA ej rfl rfl rfl rfl rfl rfl rfl ei ek ?_
 obtain ⟨_,en,eo⟩:=bind_elim em
 refine At.by en ?_
 obtain ⟨ep,eq⟩:=chk_elim eo
 obtain ⟨er,es,et⟩:=letk_elim eq
 refine HardN.indexA er rfl rfl rfl rfl rfl rfl rfl ep es ?_
 obtain ⟨_,eu,ev⟩:=bind_elim et
 refine At.by eu ?_
 exact C' ev (fun au=>R' (E:=E1') au) fun au=>Gate.go (A' au Law2.Awake_ok fun _ ew=>R' (E:=E1') ew)
 obtain ⟨ad,ae⟩:=chk_elim ac
 obtain ⟨ex,ey,af⟩:=letk_elim ae
 refine HardN.indexA ex rfl rfl rfl rfl rfl rfl rfl ad ey ?_
 obtain ⟨_,ez,ag⟩:=bind_elim af
 refine At.by ez ?_
 obtain ⟨ah,ai⟩:=chk_elim ag
 obtain ⟨fa,fb,aj⟩:=letk_elim ai
 refine HardN.indexA fa rfl rfl rfl rfl rfl rfl rfl ah fb ?_
 obtain ⟨_,fc,ak⟩:=bind_elim aj
 refine At.by fc ?_
 refine C' ak (fun d=>?_) fun d=>Gate.go (A' d Law2.Awake_ok fun _ j=>R' (E:=E1') j)
 obtain ⟨al,j⟩:=chk_elim d
 obtain ⟨fd,fe,am⟩:=letk_elim j
 refine HardN.indexA fd rfl rfl rfl rfl rfl rfl rfl al fe ?_
 obtain ⟨_,ff,an⟩:=bind_elim am
 refine At.by ff ?_
 obtain ⟨ao,ap⟩:=chk_elim an
 obtain ⟨fg,fh,aq⟩:=letk_elim ap
 refine HardN.indexA fg rfl rfl rfl rfl rfl rfl rfl ao fh ?_
 obtain ⟨_,fi,ar⟩:=bind_elim aq
 refine At.by fi ?_
 exact C' ar (fun e=>R' (E:=E1') e) fun e=>Gate.go (A' e Law2.Awake_ok fun _ k=>R' (E:=E1') k)
 obtain ⟨⟨_,_,_⟩,fj,fk⟩:=bind_elim w
 refine Gate.go (Z' (Dec.Read_ok fj) (C' fk (fun av=>?_) fun av=>?_))
 obtain ⟨fl,fm⟩:=chk_elim av
 obtain ⟨fn,fo,fp⟩:=letk_elim fm
 refine HardN.indexA fn rfl rfl rfl rfl rfl rfl rfl fl fo ?_
 obtain ⟨_,fq,fr⟩:=bind_elim fp
 obtain ⟨l,el,fs⟩:=letk_elim fr
 refine At.by fq ?_
 refine Side.mk ⟨Nat.le_of_ble_eq_true rfl,rfl⟩ ?_
 refine Nm.mk ⟨l.map (eI .i64),by rw [el,List.map_set]; rfl,?_⟩
 obtain ⟨ft,fu⟩:=chk_elim fs
 obtain ⟨fv,fw,fx⟩:=letk_elim fu
 refine HardN.indexA fv rfl rfl rfl rfl rfl rfl rfl ft fw ?_
 obtain ⟨_,fy,fz⟩:=bind_elim fx
 obtain ⟨ga,gb,gc⟩:=letk_elim fz
 refine At.by fy ?_
 refine Side.mk ⟨Nat.le_of_ble_eq_true rfl,rfl⟩ ?_
 refine Nm.mk ⟨ga.map (eI .i64),by rw [gb,List.map_set]; rfl,?_⟩
 refine N' gc fun _ gd=>?_
 exact BackS.by ⟨_,bb _ (Option.some.inj gd).symm,rfl⟩ (Sees.of (Weak.objs (keep:=[0,1]) (frz:=[]) (m:=0) rfl (by decide) rfl rfl ⟨⟨_,rfl,.arr _ _⟩,⟨⟨_,rfl,.arr _ _⟩,⟨rfl,fun _ h=>by cases h⟩⟩⟩ ⟨.s,.s,(.eptr _ _ _ 0 rfl),(.eptr _ _ _ 1 rfl),.s,trivial⟩))
 have ge:=aw _ (Option.some.inj av).symm
 subst ge
 exact Returns.pure (r:=.lit (.bool false)) rfl rfl rfl rfl ⟨rfl,rfl⟩
end Go.Q
