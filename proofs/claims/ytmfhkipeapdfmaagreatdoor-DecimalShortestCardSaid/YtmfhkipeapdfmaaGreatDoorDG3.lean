import Derived.Test.YtmfhkipeapdfmaaGreatDoorDG2
import Derived.Test.YtmfhkipeapdfmaaGreatDoorFX
import Derived.Test.YtmfhkipeapdfmaaGreatDoorFY
import Derived.Test.YtmfhkipeapdfmaaGreatDoorProg
namespace Go.Q
open Go Go.Proofs
set_option maxRecDepth 10000
set_option maxHeartbeats 2000000
noncomputable def Flt.shape.add.j1 (a:Int) (b:Int) (c:Int) (d:Int) (e:Int) (f:Int) (g:Int) (h:Int) (i:Int) (j:Int) (k:Int):Option (Int × Int) :=
 Option.bind (Flt.shape.sum (⟨b,c⟩:float.shape) a (⟨d,e,f,g⟩:float.number) (⟨h,i,j,k⟩:float.number)) fun (l,m) =>
 some (l,m)
noncomputable def Flt.shape.add.j0 (c:Int) (d:Int) (e:Int) (f:Int) (g:Int) (h:Int) (a:Int) (i:Int) (j:Int) (k:Int) (b:Int):Option (Int × Int) :=
 letk (decide (a < b)) fun l =>
 bif l then
 Flt.shape.add.j1 c d e i j k b f g h a
 else
 Flt.shape.add.j1 c d e f g h a i j k b
noncomputable def Flt.shape.add.j5 (a:float.shape) (d:Int) (b:float.number) (c:float.number) (f:Bool):Option (Int × Int) :=
 bif f then
 Option.bind (Flt.shape.none (⟨a.p,a.w⟩:float.shape) d) fun g =>
 some (g,0)
 else
 letk (b.class_ == (0:Int)) fun h =>
 bif h then
 Option.bind (Flt.shape.round (⟨a.p,a.w⟩:float.shape) d c.sign (⟨0,c.m,c.e,false⟩:float.exact)) fun (i,j) =>
 some (i,j)
 else
 letk (c.class_ == (0:Int)) fun k =>
 bif k then
 Option.bind (Flt.shape.round (⟨a.p,a.w⟩:float.shape) d b.sign (⟨0,b.m,b.e,false⟩:float.exact)) fun (l,n) =>
 some (l,n)
 else
 Flt.shape.add.j0 d a.p a.w b.class_ b.sign b.m b.e c.class_ c.sign c.m c.e
noncomputable def Flt.shape.add.j4 (a:float.shape) (d:Int) (b:float.number) (c:float.number) (e:Bool):Option (Int × Int) :=
 bif e then
 Option.bind (Flt.shape.zero (⟨a.p,a.w⟩:float.shape) b.sign) fun f =>
 some (f,0)
 else
 letk (b.class_ == (0:Int)) fun g =>
 bif g then
 letk (c.class_ == (0:Int)) fun h =>
 Flt.shape.add.j5 a d b c h
 else
 Flt.shape.add.j5 a d b c false
noncomputable def Flt.shape.add.j3 (a:float.shape) (d:Int) (b:float.number) (c:float.number) (e:Bool):Option (Int × Int) :=
 bif e then
 Option.bind (Flt.shape.quiet (⟨a.p,a.w⟩:float.shape)) fun f =>
 some (f,1)
 else
 letk (b.class_ == (2:Int)) fun g =>
 bif g then
 Option.bind (Flt.shape.infinite (⟨a.p,a.w⟩:float.shape) b.sign) fun h =>
 some (h,0)
 else
 letk (c.class_ == (2:Int)) fun i =>
 bif i then
 Option.bind (Flt.shape.infinite (⟨a.p,a.w⟩:float.shape) c.sign) fun j =>
 some (j,0)
 else
 letk (b.class_ == (0:Int)) fun k =>
 bif k then
 letk (c.class_ == (0:Int)) fun l =>
 bif l then
 letk (b.sign == c.sign) fun m =>
 Flt.shape.add.j4 a d b c m
 else
 Flt.shape.add.j4 a d b c false
 else
 Flt.shape.add.j4 a d b c false
noncomputable def Flt.shape.add.j2 (a:float.shape) (d:Int) (b:float.number) (c:float.number) (e:Bool):Option (Int × Int) :=
 bif e then
 Option.bind (Flt.shape.quiet (⟨a.p,a.w⟩:float.shape)) fun f =>
 some (f,0)
 else
 letk (b.class_ == (2:Int)) fun g =>
 bif g then
 letk (c.class_ == (2:Int)) fun h =>
 bif h then
 letk (b.sign != c.sign) fun i =>
 Flt.shape.add.j3 a d b c i
 else
 Flt.shape.add.j3 a d b c false
 else
 Flt.shape.add.j3 a d b c false
noncomputable def Flt.shape.add (c:float.shape) (d:Int) (a:float.number) (b:float.number):Option (Int × Int) :=
 letk (a.class_ == (3:Int)) fun e =>
 bif e then
 Flt.shape.add.j2 c d a b true
 else
 letk (b.class_ == (3:Int)) fun f =>
 Flt.shape.add.j2 c d a b f
theorem Flt.shape.add_ok {g:float.shape} {h:Int} {a:float.number} {b:float.number} {r:Int × Int} (h0:Flt.shape.add g h a b = some r):Gives Tryz.prog 149 [float.shape.enc g,.lit (.int .i64 h),float.number.enc a,float.number.enc b] (.tup [.lit (.int .i64 r.1),.lit (.int .i64 r.2)]):=by
 unfold Flt.shape.add at h0
 refine W' [(0,17),(0,19),(20,5),(31,9),(65,21),(85,25)] Tryz.func149 ?_
 refine V' (V' (V' (CutN.of (fun s=>∃ u v x y z aa ab ac ad ae,Flt.shape.add.j0 h u v x y z aa ab ac ad ae = some r ∧ s = ⟨133,[(1,.lit (.int .i64 h)),(4,.ptr 0 0),(6,.ptr 1 0),(7,.ptr 2 0)],[.box [.lit (.int .i64 u),.lit (.int .i64 v)],.box [.lit (.int .i64 x),.lit (.int .i64 y),.lit (.int .u64 z),.lit (.int .i64 aa)],.box [.lit (.int .i64 ab),.lit (.int .i64 ac),.lit (.int .u64 ad),.lit (.int .i64 ae)]]⟩) ?_ ?_)))
 refine CutN.of (fun s=>∃ n,Flt.shape.add.j2 g h a b n = some r ∧ s = ⟨133,[(1,.lit (.int .i64 h)),(4,.ptr 0 0),(6,.ptr 1 0),(7,.ptr 2 0),(10,.lit (.bool n))],[.box [.lit (.int .i64 g.p),.lit (.int .i64 g.w)],.box [.lit (.int .i64 a.class_),.lit (.int .i64 a.sign),.lit (.int .u64 a.m),.lit (.int .i64 a.e)],.box [.lit (.int .i64 b.class_),.lit (.int .i64 b.sign),.lit (.int .u64 b.m),.lit (.int .i64 b.e)]]⟩) ?_ ?_
 refine C' h0 (fun h2=>N' h2 fun _ h3=>?_) fun h2=>?_
 exact B' [0,1,2] ⟨_,h3,rfl⟩
 exact B' [0,1,2] ⟨_,h2,rfl⟩
 rintro s ⟨n,c,rfl⟩
 unfold Flt.shape.add.j2 at c
 rcases n with _ | _
 have d:=bif_f c
 refine CutN.of (fun s=>∃ o,Flt.shape.add.j3 g h a b o = some r ∧ s = ⟨133,[(1,.lit (.int .i64 h)),(4,.ptr 0 0),(6,.ptr 1 0),(7,.ptr 2 0),(21,.lit (.bool o))],[.box [.lit (.int .i64 g.p),.lit (.int .i64 g.w)],.box [.lit (.int .i64 a.class_),.lit (.int .i64 a.sign),.lit (.int .u64 a.m),.lit (.int .i64 a.e)],.box [.lit (.int .i64 b.class_),.lit (.int .i64 b.sign),.lit (.int .u64 b.m),.lit (.int .i64 b.e)]]⟩) ?_ ?_
 refine C' d (fun f=>?_) fun f=>C' f (fun i=>?_) fun i=>N' i fun _ k=>?_
 exact B' [0,1,2] ⟨_,f,rfl⟩
 exact B' [0,1,2] ⟨_,i,rfl⟩
 exact B' [0,1,2] ⟨_,k,rfl⟩
 rintro s ⟨o,c,rfl⟩
 unfold Flt.shape.add.j3 at c
 rcases o with _ | _
 have d:=bif_f c
 refine C' d (fun f=>C' f (fun i=>CutN.of (fun s=>∃ q,Flt.shape.add.j4 g h a b q = some r ∧ s = ⟨133,[(1,.lit (.int .i64 h)),(4,.ptr 0 0),(6,.ptr 1 0),(7,.ptr 2 0),(55,.lit (.bool q))],[.box [.lit (.int .i64 g.p),.lit (.int .i64 g.w)],.box [.lit (.int .i64 a.class_),.lit (.int .i64 a.sign),.lit (.int .u64 a.m),.lit (.int .i64 a.e)],.box [.lit (.int .i64 b.class_),.lit (.int .i64 b.sign),.lit (.int .u64 b.m),.lit (.int .i64 b.e)]]⟩) ?_ ?_) fun i=>Gate.go (A' i Flt.shape.infinite_ok fun _ k=>R' (E:=E10') k)) fun f=>Gate.go (A' f Flt.shape.infinite_ok fun _ l=>R' (E:=E10') l)
 refine C' i (fun af=>?_) fun af=>C' af (fun ag=>?_) fun ag=>N' ag fun _ ar=>?_
 exact B' [0,1,2] ⟨_,af,rfl⟩
 exact B' [0,1,2] ⟨_,ag,rfl⟩
 exact B' [0,1,2] ⟨_,ar,rfl⟩
 rintro s ⟨q,c,rfl⟩
 unfold Flt.shape.add.j4 at c
 rcases q with _ | _
 have d:=bif_f c
 refine CutN.of (fun s=>∃ t,Flt.shape.add.j5 g h a b t = some r ∧ s = ⟨133,[(1,.lit (.int .i64 h)),(4,.ptr 0 0),(6,.ptr 1 0),(7,.ptr 2 0),(75,.lit (.bool t))],[.box [.lit (.int .i64 g.p),.lit (.int .i64 g.w)],.box [.lit (.int .i64 a.class_),.lit (.int .i64 a.sign),.lit (.int .u64 a.m),.lit (.int .i64 a.e)],.box [.lit (.int .i64 b.class_),.lit (.int .i64 b.sign),.lit (.int .u64 b.m),.lit (.int .i64 b.e)]]⟩) ?_ ?_
 refine C' d (fun f=>?_) fun f=>N' f fun _ l=>?_
 exact B' [0,1,2] ⟨_,f,rfl⟩
 exact B' [0,1,2] ⟨_,l,rfl⟩
 rintro s ⟨t,c,rfl⟩
 unfold Flt.shape.add.j5 at c
 rcases t with _ | _
 have d:=bif_f c
 refine C' d (fun f=>C' f (fun i=>?_) fun i=>Gate.go (V' ?_)) fun f=>Gate.go (V' ?_)
 exact B' [0,1,2] ⟨_,_,_,_,_,_,_,_,_,_,i,rfl⟩
 obtain ⟨⟨_,_⟩,au,k⟩:=bind_elim i
 exact Gate.go (Z' (Flt.shape.round_ok au) (R' (E:=E10') k))
 obtain ⟨⟨_,_⟩,av,l⟩:=bind_elim f
 exact Gate.go (Z' (Flt.shape.round_ok av) (R' (E:=E10') l))
 have d:=bif_t c
 exact Gate.go (A' d Flt.shape.none_ok fun _ j=>R' (E:=E10') j)
 have d:=bif_t c
 exact Gate.go (A' d Flt.shape.zero_ok fun _ j=>R' (E:=E10') j)
 have d:=bif_t c
 exact Gate.go (A' d Flt.shape.quiet_ok fun _ j=>R' (E:=E10') j)
 have d:=bif_t c
 exact Gate.go (A' d Flt.shape.quiet_ok fun _ j=>R' (E:=E10') j)
 rintro s ⟨u,v,x,y,z,aa,ab,ac,ad,ae,c,rfl⟩
 unfold Flt.shape.add.j0 at c
 refine CutN.of (fun s=>∃ ah ai aj ak al am an ao ap aq,Flt.shape.add.j1 h ah ai aj ak al am an ao ap aq = some r ∧ s = ⟨133,[(1,.lit (.int .i64 h)),(4,.ptr 0 0),(6,.ptr 1 0),(7,.ptr 2 0)],[.box [.lit (.int .i64 ah),.lit (.int .i64 ai)],.box [.lit (.int .i64 aj),.lit (.int .i64 ak),.lit (.int .u64 al),.lit (.int .i64 am)],.box [.lit (.int .i64 an),.lit (.int .i64 ao),.lit (.int .u64 ap),.lit (.int .i64 aq)]]⟩) ?_ ?_
 refine C' c (fun j=>?_) fun j=>V' (V' ?_)
 exact B' [0,1,2] ⟨_,_,_,_,_,_,_,_,_,_,j,rfl⟩
 exact B' [0,1,2] ⟨_,_,_,_,_,_,_,_,_,_,j,rfl⟩
 rintro s ⟨ah,ai,aj,ak,al,am,an,ao,ap,aq,c,rfl⟩
 unfold Flt.shape.add.j1 at c
 obtain ⟨⟨_,_⟩,aw,d⟩:=bind_elim c
 exact Gate.go (Z' (Flt.shape.sum_ok aw) (R' (E:=E10') d))
noncomputable def Flt.Sub (f:Int) (c:Int) (g:Int) (h:Int):Option (Int × Int × Int) :=
 Option.bind (Flt.two f c g h) fun (d,a,b,i) =>
 letk (!i) fun j =>
 bif j then
 some (0,0,2)
 else
 letk (IntKind.i64.wrap ((1:Int) - b.sign)) fun k =>
 Option.bind (Flt.shape.add (⟨d.p,d.w⟩:float.shape) c (⟨a.class_,a.sign,a.m,a.e⟩:float.number) (⟨b.class_,k,b.m,b.e⟩:float.number)) fun (l,n) =>
 some (l,n,0)
theorem Flt.Sub_ok {b:Int} {c:Int} {d:Int} {e:Int} {r:Int × Int × Int} (f:Flt.Sub b c d e = some r):Gives Tryz.prog 110 [.lit (.int .i64 b),.lit (.int .i64 c),.lit (.int .i64 d),.lit (.int .i64 e)] (.tup [.lit (.int .i64 r.1),.lit (.int .i64 r.2.1),.lit (.int .i64 r.2.2)]):=by
 unfold Flt.Sub at f
 refine W' [] Tryz.func110 ?_
 obtain ⟨⟨_,_,_,_⟩,g,h⟩:=bind_elim f
 refine Gate.go (Z' (Flt.two_ok g) (V' (V' (V' (V' (V' (V' (C' h (fun a=>N' a fun _ i=>V' ?_) fun a=>R' (E:=E11') a))))))))
 obtain ⟨⟨_,_⟩,j,k⟩:=bind_elim i
 exact Gate.go (Z' (Flt.shape.add_ok j) (R' (E:=E11') k))
noncomputable def Dec.word (b:Int) (c:decimal.parsed):Option Int :=
 Option.bind (Flt.Make b 0 c.sign 1 2000) fun (a,_,_) =>
 letk (c.word.toList == (⟨#[110,97,110]⟩:ByteArray).toList) fun d =>
 bif d then
 Option.bind (Flt.Sub b 0 a a) fun (e,_,_) =>
 some e
 else
 some a
theorem Dec.word_ok {b:Int} {c:decimal.parsed} {r:Int} (d:Dec.word b c = some r):Gives Tryz.prog 54 [.lit (.int .i64 b),decimal.parsed.enc c] (.lit (.int .i64 r)):=by
 unfold Dec.word at d
 refine W' [] Tryz.func54 ?_
 refine V' ?_
 obtain ⟨⟨_,_,_⟩,e,f⟩:=bind_elim d
 refine Gate.go (Z' (Flt.Make_ok e) (C' f (fun a=>R' (E:=E2') a) fun a=>?_))
 obtain ⟨⟨_,_,_⟩,g,h⟩:=bind_elim a
 exact Gate.go (Z' (Flt.Sub_ok g) (R' (E:=E2') h))
noncomputable def Dec.big.trim.j0 (a:List Int):Option (((List Int)) ⊕ ((List Int))) :=
 letk ((a.length:Int)) fun c =>
 letk (IntKind.i64.wrap (c - (1:Int))) fun b =>
 chk (0 ≤ b ∧ b ≤ (a.length:Int)) <|
 letk ((a.drop 0).take (b.toNat - 0)) fun d =>
 some (.inl d)
noncomputable def Dec.big.trim.s0 (a:List Int):Option (((List Int)) ⊕ ((List Int))) :=
 letk ((a.length:Int)) fun c =>
 letk (decide (c > (0:Int))) fun d =>
 bif d then
 letk ((a.length:Int)) fun e =>
 letk (IntKind.i64.wrap (e - (1:Int))) fun b =>
 chk (0 ≤ b) <|
 Option.bind (a[b.toNat]?) fun f =>
 letk (f == (0:Int)) fun g =>
 bif g then
 Dec.big.trim.j0 a
 else
 some (.inr a)
 else
 some (.inr a)
noncomputable def Dec.big.trim.l0 (a:List Int):Option ((List Int)):=loopO (fun v:(List Int)=>Dec.big.trim.s0 v) a
theorem Dec.big.trim.l0_eq (b0_1:List Int):Dec.big.trim.l0 b0_1 = (Dec.big.trim.s0 b0_1).bind (Sum.elim (fun v=>Dec.big.trim.l0 v) some):=loopO_eq _ _
noncomputable def Dec.big.trim (a:List Int):Option ((List Int)) :=
 Dec.big.trim.l0 a
abbrev E14':(List Int) → AV:=fun r=>(VI' r)
theorem Dec.big.trim_ok {b:List Int} {r:(List Int)} (c:Dec.big.trim b = some r):Gives Tryz.prog 119 [VI' b] (VI' r):=by
 unfold Dec.big.trim at c
 refine W' [(1,1)] Tryz.func119 ?_
 unfold Dec.big.trim.l0 at c
 refine LoopB.of (σ:=(List Int)) (ρ:=(List Int)) (fun v:(List Int)=>Dec.big.trim.s0 v) (fun v=>(⟨21,[(0,VI' v)],[]⟩:St)) b c (B' [] rfl) ?_
 rintro _ d g a j h
 replace a:Dec.big.trim.s0 d = some g:=a
 unfold Dec.big.trim.s0 at a
 refine CutN.of (fun s=>Dec.big.trim.j0 d = some g ∧ s = ⟨21,[(0,VI' d)],[]⟩) ?_ ?_
 obtain ⟨k,l,m⟩:=letk_elim a
 refine Nm.mk ⟨k,by rw [l,List.length_map],?_⟩
 refine C' m (fun e=>?_) fun e=>?_
 have n:=h _ (Option.some.inj e).symm
 have o:=congrArg some n
 exact R' (E:=E14') o
 obtain ⟨p,q,t⟩:=letk_elim e
 refine Nm.mk ⟨p,by rw [q,List.length_map],?_⟩
 refine N' t fun _ u=>?_
 obtain ⟨w,x⟩:=chk_elim u
 obtain ⟨_,y,z⟩:=bind_elim x
 refine Side.mk w ?_
 refine At.by y ?_
 refine C' z (fun f=>?_) fun f=>?_
 have aa:=h _ (Option.some.inj f).symm
 have ab:=congrArg some aa
 exact R' (E:=E14') ab
 exact B' [] ⟨f,rfl⟩
 rintro s ⟨i,rfl⟩
 unfold Dec.big.trim.j0 at i
 obtain ⟨ac,ad,ae⟩:=letk_elim i
 refine Nm.mk ⟨ac,by rw [ad,List.length_map],?_⟩
 refine N' ae fun _ af=>?_
 obtain ⟨ag,ah⟩:=chk_elim af
 obtain ⟨ai,aj,ak⟩:=letk_elim ah
 refine Side.mk (by simpa only [List.length_map] using ag) ?_
 refine Nm.mk ⟨ai.map (eI .i64),by rw [aj]; simp only [List.map_take,List.map_drop,List.length_map],?_⟩
 exact B' [] ⟨_,j _ (Option.some.inj ak).symm,rfl⟩
noncomputable def Dec.whole.s0 (d:ByteArray) (b:List Int) (a:Int):Option (((List Int) × Int) ⊕ ((List Int))) :=
 letk (decide (a > (0:Int))) fun g =>
 bif g then
 letk (IntKind.i64.wrap (a - (9:Int))) fun e =>
 letk (if e > 0 then e else 0) fun c =>
 chk (0 ≤ c ∧ c ≤ a ∧ a ≤ (d.size:Int)) <|
 letk (d.extract c.toNat a.toNat) fun h =>
 Option.bind (Strconv.Atoi h) fun (f,_) =>
 chk ((b.length + ([f]).length) * 8 ≤ 140737488355328) <|
 letk (b ++ ([f])) fun i =>
 letk (IntKind.i64.wrap (a - (9:Int))) fun j =>
 some (.inl (i,j))
 else
 ((
 Option.bind (Dec.big.trim b) fun k =>
 some k)).map .inr
noncomputable def Dec.whole.l0 (a:ByteArray) (b:List Int) (c:Int):Option ((List Int)):=loopO (fun v:(List Int) × Int=>Dec.whole.s0 a v.1 v.2) (b,c)
noncomputable def Dec.whole (a:ByteArray):Option ((List Int)) :=
 letk ((a.size:Int)) fun b =>
 Dec.whole.l0 a ([]) b
theorem Dec.whole_ok {a:ByteArray} {r:(List Int)} (e:Dec.whole a = some r):Gives Tryz.prog 72 [.lit (.string a)] (VI' r):=by
 unfold Dec.whole at e
 refine W' [] Tryz.func72 ?_
 refine N' e fun n f=>?_
 unfold Dec.whole.l0 at f
 refine LoopB.of (σ:=(List Int) × Int) (ρ:=(List Int)) (fun v:(List Int) × Int=>Dec.whole.s0 a v.1 v.2) (fun v=>(⟨29,[(0,.lit (.string a)),(3,.ref 0 0 ((v.1.map (eI .i64)).length)),(4,.lit (.int .i64 v.2))],[.arr 1 (v.1.map (eI .i64))]⟩:St)) ([],n) f (BackS.by rfl (Sees.of (Weak.objs (keep:=[]) (frz:=[]) (m:=1) rfl (by decide) rfl rfl ⟨rfl,fun _ g=>by simp only [List.mem_cons,List.not_mem_nil,or_false] at g; exact ⟨_,g⟩⟩ ⟨.s,(.nilsRef 0 (by decide) (by decide)),.s,trivial⟩))) ?_
 rintro _ ⟨i,o⟩ p b q t
 replace b:Dec.whole.s0 a i o = some p:=b
 unfold Dec.whole.s0 at b
 refine C' b (fun c=>?_) fun c=>N' c fun _ u=>N' u fun _ w=>S' w fun x=>N' x fun _ y=>?_
 obtain ⟨_,z,d⟩:=map_elim c
 have d:=(t _ d.symm).symm
 subst d
 obtain ⟨_,aa,ab⟩:=bind_elim z
 refine Gate.weak (Sees.of (Weak.objs (k:=29) (keep:=[]) (frz:=[0]) (m:=0) (ts:=[(27,VI' i)]) (hs:=[]) rfl (by decide) rfl rfl ⟨rfl,fun _ h=>by cases h⟩ ⟨(WV.all (k:=0) (by decide) rfl),trivial⟩)) ?_
 exact Z' (Dec.big.trim_ok aa) (R' (E:=E14') ab)
 obtain ⟨⟨j,_⟩,ac,ad⟩:=bind_elim y
 refine Gate.go (Z' (Strconv.Atoi_ok ac) (Gate.go (Nm.mk ⟨([j]).map (eI .i64),rfl,?_⟩)))
 obtain ⟨ae,af⟩:=chk_elim ad
 obtain ⟨ag,ah,ai⟩:=letk_elim af
 refine Gate.go (Side.mk (full_le _) ?_)
 refine Side.mk ⟨full_le _,one_map (fun _ _ l=>by simp only [AV.cells,List.mem_singleton] at l; subst l; rfl)⟩ ?_
 refine Side.mk (side_rr (by decide) ae) ?_
 refine Nm.mk ⟨ag.map (eI .i64),by rw [ah]; exact app_rr (m:=[j]),?_⟩
 refine N' ai fun _ aj=>?_
 exact B' [2] ⟨_,q _ (Option.some.inj aj).symm,rfl⟩
noncomputable def Dec.big.times.s1 (a:List Int) (b:Int):Option (((List Int) × Int) ⊕ ((List Int))) :=
 letk (decide (b > (0:Int))) fun d =>
 bif d then
 chk ((1000000000:Int) ≠ 0) <|
 letk (b.tmod (1000000000:Int)) fun c =>
 chk ((a.length + ([c]).length) * 8 ≤ 140737488355328) <|
 letk (a ++ ([c])) fun e =>
 chk ((1000000000:Int) ≠ 0) <|
 letk (IntKind.i64.wrap (b.tdiv (1000000000:Int))) fun f =>
 some (.inl (e,f))
 else
 ((
 Option.bind (Dec.big.trim a) fun g =>
 some g)).map .inr
noncomputable def Dec.big.times.l1 (a:List Int) (b:Int):Option ((List Int)):=loopO (fun v:(List Int) × Int=>Dec.big.times.s1 v.1 v.2) (a,b)
noncomputable def Dec.big.times.s0 (f:List Int) (g:Int) (h:Int) (b:List Int) (c:Int) (a:Int):Option (((List Int) × Int × Int) ⊕ ((List Int))) :=
 letk (decide (a < h)) fun i =>
 bif i then
 chk (0 ≤ a) <|
 Option.bind (f[a.toNat]?) fun j =>
 letk (IntKind.i64.wrap (j * g)) fun k =>
 letk (IntKind.i64.wrap (k + c)) fun d =>
 chk ((1000000000:Int) ≠ 0) <|
 letk (d.tmod (1000000000:Int)) fun e =>
 chk ((b.length + ([e]).length) * 8 ≤ 140737488355328) <|
 letk (b ++ ([e])) fun l =>
 chk ((1000000000:Int) ≠ 0) <|
 letk (IntKind.i64.wrap (d.tdiv (1000000000:Int))) fun m =>
 letk (IntKind.i64.wrap (a + (1:Int))) fun n =>
 some (.inl (l,m,n))
 else
 (Dec.big.times.l1 b c).map .inr
noncomputable def Dec.big.times.l0 (a:List Int) (b:Int) (c:Int) (d:List Int) (e:Int) (f:Int):Option ((List Int)):=loopO (fun v:(List Int) × Int × Int=>Dec.big.times.s0 a b c v.1 v.2.1 v.2.2) (d,e,f)
noncomputable def Dec.big.times (a:List Int) (b:Int):Option ((List Int)) :=
 letk ((a.length:Int)) fun c =>
 Dec.big.times.l0 a b c ([]) 0 0
theorem Dec.big.times_ok {a:List Int} {b:Int} {r:(List Int)} (q:Dec.big.times a b = some r):Gives Tryz.prog 120 [VI' a,.lit (.int .i64 b)] (VI' r):=by
 unfold Dec.big.times at q
 refine W' [] Tryz.func120 ?_
 obtain ⟨d,ac,t⟩:=letk_elim q
 refine Nm.mk ⟨d,by rw [ac,List.length_map],?_⟩
 unfold Dec.big.times.l0 at t
 refine LoopB.of (σ:=(List Int) × Int × Int) (ρ:=(List Int)) (fun v:(List Int) × Int × Int=>Dec.big.times.s0 a b d v.1 v.2.1 v.2.2) (fun v=>(⟨39,[(1,.lit (.int .i64 b)),(5,.ref 0 0 ((v.1.map (eI .i64)).length)),(6,.lit (.int .i64 v.2.1)),(9,VI' a),(10,.lit (.int .i64 d)),(11,.lit (.int .i64 v.2.2))],[.arr 1 (v.1.map (eI .i64))]⟩:St)) ([],0,0) t (BackS.by rfl (Sees.of (Weak.objs (keep:=[]) (frz:=[]) (m:=1) rfl (by decide) rfl rfl ⟨rfl,fun _ u=>by simp only [List.mem_cons,List.not_mem_nil,or_false] at u; exact ⟨_,u⟩⟩ ⟨.s,(.nilsRef 0 (by decide) (by decide)),.s,.s,.s,.s,trivial⟩))) ?_
 rintro K1 ⟨w,x,ad⟩ g e i j
 replace e:Dec.big.times.s0 a b d w x ad = some g:=e
 unfold Dec.big.times.s0 at e
 refine C' e (fun l=>?_) fun l=>?_
 obtain ⟨_,y,n⟩:=map_elim l
 have n:=(j _ n.symm).symm
 subst n
 unfold Dec.big.times.l1 at y
 refine LoopB.of (σ:=(List Int) × Int) (ρ:=(List Int)) (fun v:(List Int) × Int=>Dec.big.times.s1 v.1 v.2) (fun v=>(⟨39,[(5,.ref 0 0 ((v.1.map (eI .i64)).length)),(6,.lit (.int .i64 v.2))],[.arr 1 (v.1.map (eI .i64))]⟩:St)) (w,x) y (B' [0] rfl) ?_
 rintro K1 ⟨z,ae⟩ g f i j
 replace f:Dec.big.times.s1 z ae = some g:=f
 unfold Dec.big.times.s1 at f
 refine C' f (fun o=>?_) fun o=>S' o fun af=>N' af fun aa ag=>Gate.go (Nm.mk ⟨([aa]).map (eI .i64),rfl,?_⟩)
 obtain ⟨_,ah,p⟩:=map_elim o
 have p:=(j _ p.symm).symm
 subst p
 obtain ⟨_,ai,aj⟩:=bind_elim ah
 refine Gate.weak (Sees.of (Weak.objs (k:=39) (keep:=[]) (frz:=[0]) (m:=0) (ts:=[(37,VI' z)]) (hs:=[]) rfl (by decide) rfl rfl ⟨rfl,fun _ h=>by cases h⟩ ⟨(WV.all (k:=0) (by decide) rfl),trivial⟩)) ?_
 exact Z' (Dec.big.trim_ok ai) (R' (E:=E14') aj)
 obtain ⟨ak,al⟩:=chk_elim ag
 obtain ⟨am,an,ao⟩:=letk_elim al
 refine Gate.go (Side.mk (full_le _) ?_)
 refine Side.mk ⟨full_le _,one_map (fun _ _ c=>by simp only [AV.cells,List.mem_singleton] at c; subst c; rfl)⟩ ?_
 refine Side.mk (side_rr (by decide) ak) ?_
 refine Nm.mk ⟨am.map (eI .i64),by rw [an]; exact app_rr (m:=[aa]),?_⟩
 refine S' ao fun ap=>N' ap fun _ aq=>?_
 exact B' [2] ⟨_,i _ (Option.some.inj aq).symm,rfl⟩
 obtain ⟨ar,au⟩:=chk_elim l
 obtain ⟨_,av,aw⟩:=bind_elim au
 refine Side.mk ar ?_
 refine At.by av ?_
 refine N' aw fun _ ax=>N' ax fun _ ay=>S' ay fun az=>N' az fun ab ba=>Gate.go (Nm.mk ⟨([ab]).map (eI .i64),rfl,?_⟩)
 obtain ⟨bb,bc⟩:=chk_elim ba
 obtain ⟨bd,be,bf⟩:=letk_elim bc
 refine Gate.go (Side.mk (full_le _) ?_)
 refine Side.mk ⟨full_le _,one_map (fun _ _ c=>by simp only [AV.cells,List.mem_singleton] at c; subst c; rfl)⟩ ?_
 refine Side.mk (side_rr (by decide) bb) ?_
 refine Nm.mk ⟨bd.map (eI .i64),by rw [be]; exact app_rr (m:=[ab]),?_⟩
 refine S' bf fun bg=>N' bg fun _ bh=>N' bh fun _ bi=>?_
 exact B' [2] ⟨_,i _ (Option.some.inj bi).symm,rfl⟩
noncomputable def Dec.big.power.s2 (c:Int) (a:List Int) (b:Int):Option (((List Int) × Int) ⊕ ((List Int))) :=
 letk (decide (b > (0:Int))) fun d =>
 bif d then
 Option.bind (Dec.big.times a c) fun e =>
 letk (IntKind.i64.wrap (b - (1:Int))) fun f =>
 some (.inl (e,f))
 else
 some (.inr a)
noncomputable def Dec.big.power.l2 (a:Int) (b:List Int) (c:Int):Option ((List Int)):=loopO (fun v:(List Int) × Int=>Dec.big.power.s2 a v.1 v.2) (b,c)
noncomputable def Dec.big.power.s1 (c:Int) (d:Int) (b:List Int) (a:Int):Option (((List Int) × Int) ⊕ ((List Int))) :=
 letk (decide (a ≥ (8:Int))) fun e =>
 bif e then
 Option.bind (Dec.big.times b d) fun f =>
 letk (IntKind.i64.wrap (a - (8:Int))) fun g =>
 some (.inl (f,g))
 else
 (Dec.big.power.l2 c b a).map .inr
noncomputable def Dec.big.power.l1 (a:Int) (b:Int) (c:List Int) (d:Int):Option ((List Int)):=loopO (fun v:(List Int) × Int=>Dec.big.power.s1 a b v.1 v.2) (c,d)
noncomputable def Dec.big.power.s0 (d:List Int) (a:Int) (e:Int) (b:Int) (c:Int):Option ((Int × Int) ⊕ ((List Int))) :=
 letk (decide (c < (8:Int))) fun f =>
 bif f then
 letk (IntKind.i64.wrap (b * a)) fun g =>
 letk (IntKind.i64.wrap (c + (1:Int))) fun h =>
 some (.inl (g,h))
 else
 (Dec.big.power.l1 a b d e).map .inr
noncomputable def Dec.big.power.l0 (a:List Int) (b:Int) (c:Int) (d:Int) (e:Int):Option ((List Int)):=loopO (fun v:Int × Int=>Dec.big.power.s0 a b c v.1 v.2) (d,e)
noncomputable def Dec.big.power (a:List Int) (b:Int) (c:Int):Option ((List Int)) :=
 Dec.big.power.l0 a b c 1 0
theorem Dec.big.power_ok {b:List Int} {a:Int} {c:Int} {r:(List Int)} (k:Dec.big.power b a c = some r):Gives Tryz.prog 73 [VI' b,.lit (.int .i64 a),.lit (.int .i64 c)] (VI' r):=by
 unfold Dec.big.power at k
 refine W' [] Tryz.func73 ?_
 unfold Dec.big.power.l0 at k
 refine LoopB.of (σ:=Int × Int) (ρ:=(List Int)) (fun v:Int × Int=>Dec.big.power.s0 b a c v.1 v.2) (fun v=>(⟨29,[(0,VI' b),(1,.lit (.int .i64 a)),(2,.lit (.int .i64 c)),(7,.lit (.int .i64 v.1)),(8,.lit (.int .i64 v.2))],[]⟩:St)) (1,0) k (B' [] rfl) ?_
 rintro q ⟨g,x⟩ d h e f
 replace h:Dec.big.power.s0 b a c g x = some d:=h
 unfold Dec.big.power.s0 at h
 refine C' h (fun l=>?_) fun l=>N' l fun _ y=>N' y fun _ z=>?_
 obtain ⟨_,s,m⟩:=map_elim l
 have m:=(f _ m.symm).symm
 subst m
 unfold Dec.big.power.l1 at s
 refine LoopB.of (σ:=(List Int) × Int) (ρ:=(List Int)) (fun v:(List Int) × Int=>Dec.big.power.s1 a g v.1 v.2) (fun v=>(⟨29,[(0,VI' v.1),(1,.lit (.int .i64 a)),(2,.lit (.int .i64 v.2)),(7,.lit (.int .i64 g))],[]⟩:St)) (b,c) s (B' [] rfl) ?_
 rintro q ⟨t,u⟩ d i e f
 replace i:Dec.big.power.s1 a g t u = some d:=i
 unfold Dec.big.power.s1 at i
 refine C' i (fun n=>?_) fun n=>Gate.go (A' n Dec.big.times_ok fun _ aa=>N' aa fun _ ab=>?_)
 obtain ⟨_,w,o⟩:=map_elim n
 have o:=(f _ o.symm).symm
 subst o
 unfold Dec.big.power.l2 at w
 refine LoopB.of (σ:=(List Int) × Int) (ρ:=(List Int)) (fun v:(List Int) × Int=>Dec.big.power.s2 a v.1 v.2) (fun v=>(⟨29,[(0,VI' v.1),(1,.lit (.int .i64 a)),(2,.lit (.int .i64 v.2))],[]⟩:St)) (t,u) w (B' [] rfl) ?_
 rintro q ⟨ac,ad⟩ d j e f
 replace j:Dec.big.power.s2 a ac ad = some d:=j
 unfold Dec.big.power.s2 at j
 refine C' j (fun p=>?_) fun p=>Gate.go (A' p Dec.big.times_ok fun _ ae=>N' ae fun _ af=>?_)
 have ag:=f _ (Option.some.inj p).symm
 have ah:=congrArg some ag
 exact R' (E:=E14') ah
 exact B' [] ⟨_,e _ (Option.some.inj af).symm,rfl⟩
 exact B' [] ⟨_,e _ (Option.some.inj ab).symm,rfl⟩
 exact B' [] ⟨_,e _ (Option.some.inj z).symm,rfl⟩
noncomputable def Dec.big.compare.s0 (b:List Int) (c:List Int) (a:Int):Option (Int ⊕ Int) :=
 letk (decide (a ≥ (0:Int))) fun d =>
 bif d then
 chk (0 ≤ a) <|
 Option.bind (b[a.toNat]?) fun e =>
 chk (0 ≤ a) <|
 Option.bind (c[a.toNat]?) fun f =>
 letk (e != f) fun g =>
 bif g then
 chk (0 ≤ a) <|
 Option.bind (b[a.toNat]?) fun h =>
 chk (0 ≤ a) <|
 Option.bind (c[a.toNat]?) fun i =>
 letk (IntKind.i64.wrap (h - i)) fun j =>
 some (.inr j)
 else
 letk (IntKind.i64.wrap (a - (1:Int))) fun k =>
 some (.inl k)
 else
 some (.inr 0)
noncomputable def Dec.big.compare.l0 (a:List Int) (b:List Int) (c:Int):Option Int:=loopO (fun v:Int=>Dec.big.compare.s0 a b v) c
noncomputable def Dec.big.compare (a:List Int) (b:List Int):Option Int :=
 letk ((a.length:Int)) fun c =>
 letk ((b.length:Int)) fun d =>
 letk (c != d) fun e =>
 bif e then
 letk ((a.length:Int)) fun f =>
 letk ((b.length:Int)) fun g =>
 letk (IntKind.i64.wrap (f - g)) fun h =>
 some h
 else
 letk ((a.length:Int)) fun i =>
 letk (IntKind.i64.wrap (i - (1:Int))) fun j =>
 Dec.big.compare.l0 a b j
theorem Dec.big.compare_ok {a:List Int} {b:List Int} {r:Int} (k:Dec.big.compare a b = some r):Gives Tryz.prog 127 [VI' a,VI' b] (.lit (.int .i64 r)):=by
 unfold Dec.big.compare at k
 refine W' [] Tryz.func127 ?_
 obtain ⟨n,o,p⟩:=letk_elim k
 refine Nm.mk ⟨n,by rw [o,List.length_map],?_⟩
 obtain ⟨q,s,t⟩:=letk_elim p
 refine Nm.mk ⟨q,by rw [s,List.length_map],?_⟩
 refine C' t (fun f=>?_) fun f=>?_
 obtain ⟨u,w,g⟩:=letk_elim f
 refine Nm.mk ⟨u,by rw [w,List.length_map],?_⟩
 refine N' g fun x c=>?_
 unfold Dec.big.compare.l0 at c
 refine LoopB.of (σ:=Int) (ρ:=Int) (fun v:Int=>Dec.big.compare.s0 a b v) (fun v=>(⟨41,[(0,VI' a),(1,VI' b),(5,.lit (.int .i64 v))],[]⟩:St)) x c (B' [] rfl) ?_
 rintro _ y z d aa l
 replace d:Dec.big.compare.s0 a b y = some z:=d
 unfold Dec.big.compare.s0 at d
 refine C' d (fun h=>?_) fun h=>DrawB.ofG [none,none,none,none,none,none,none,none,none] Tryz_mixed (by kernel_rfl) (by kernel_rfl) ?_
 have ab:=l _ (Option.some.inj h).symm
 have ac:=congrArg some ab
 exact R' (E:=E2') ac
 refine D' rfl (D' rfl ?_)
 obtain ⟨ad,ae⟩:=chk_elim h
 obtain ⟨af,ag,ah⟩:=bind_elim ae
 refine DNodeB.of (.iptr (.lit (.int .i64 af))) ?_ ?_
 refine Side.mk ad ?_
 refine At.by ag ?_
 rfl
 refine D' rfl (D' rfl (D' rfl ?_))
 obtain ⟨ai,aj⟩:=chk_elim ah
 obtain ⟨ak,al,am⟩:=bind_elim aj
 refine DNodeB.of (.iptr (.lit (.int .i64 ak))) ?_ ?_
 refine Side.mk ai ?_
 refine At.by al ?_
 rfl
 refine D' rfl (DN' am (fun e=>n' e rfl) fun an m=>?_)
 rcases an with _ | _
 have i:=bif_f m
 refine N' i fun _ j=>?_
 exact B' [] ⟨_,aa _ (Option.some.inj j).symm,rfl⟩
 have i:=bif_t m
 refine DrawB.ofG [none,none,none,none,none,none,none,none,none,none] Tryz_mixed (by kernel_rfl) (by kernel_rfl) ?_
 refine D' rfl (D' rfl ?_)
 obtain ⟨ao,j⟩:=chk_elim i
 obtain ⟨ap,aq,ar⟩:=bind_elim j
 refine DNodeB.of (.iptr (.lit (.int .i64 ap))) ?_ ?_
 refine Side.mk ao ?_
 refine At.by aq ?_
 rfl
 refine D' rfl (D' rfl (D' rfl ?_))
 obtain ⟨au,av⟩:=chk_elim ar
 obtain ⟨aw,ax,ay⟩:=bind_elim av
 refine DNodeB.of (.iptr (.lit (.int .i64 aw))) ?_ ?_
 refine Side.mk au ?_
 refine At.by ax ?_
 rfl
 refine D' rfl (DN' ay (fun e=>n' e rfl) fun az ba=>D' rfl ?_)
 have bb:=l _ (Option.some.inj ba).symm
 subst bb
 exact Returns.pure (r:=.lit (.int .i64 az)) rfl rfl rfl rfl ⟨rfl,rfl⟩
 obtain ⟨bc,bd,g⟩:=letk_elim f
 refine Nm.mk ⟨bc,by rw [bd,List.length_map],?_⟩
 obtain ⟨be,bf,c⟩:=letk_elim g
 refine Nm.mk ⟨be,by rw [bf,List.length_map],?_⟩
 exact N' c fun _ h7=>R' (E:=E2') h7
noncomputable def Dec.big.less.j0 (_:List Int) (_:List Int) (_:Int) (c:Int) (a:List Int) (b:Int):Option (((List Int) × Int × Int) ⊕ ((List Int))) :=
 letk (decide (b < (0:Int))) fun e =>
 bif e then
 letk (IntKind.i64.wrap (b + (1000000000:Int))) fun d =>
 chk ((a.length + ([d]).length) * 8 ≤ 140737488355328) <|
 letk (a ++ ([d])) fun f =>
 letk (IntKind.i64.wrap (c + (1:Int))) fun g =>
 some (.inl (f,1,g))
 else
 chk ((a.length + ([b]).length) * 8 ≤ 140737488355328) <|
 letk (a ++ ([b])) fun h =>
 letk (IntKind.i64.wrap (c + (1:Int))) fun i =>
 some (.inl (h,0,i))
noncomputable def Dec.big.less.s0 (c:List Int) (b:List Int) (d:Int) (e:List Int) (g:Int) (a:Int):Option (((List Int) × Int × Int) ⊕ ((List Int))) :=
 letk (decide (a < d)) fun h =>
 bif h then
 chk (0 ≤ a) <|
 Option.bind (c[a.toNat]?) fun i =>
 letk (IntKind.i64.wrap (i - g)) fun f =>
 letk ((b.length:Int)) fun j =>
 letk (decide (a < j)) fun k =>
 bif k then
 chk (0 ≤ a) <|
 Option.bind (b[a.toNat]?) fun l =>
 letk (IntKind.i64.wrap (f - l)) fun m =>
 Dec.big.less.j0 c b d a e m
 else
 Dec.big.less.j0 c b d a e f
 else
 ((
 Option.bind (Dec.big.trim e) fun n =>
 some n)).map .inr
noncomputable def Dec.big.less.l0 (a:List Int) (b:List Int) (c:Int) (d:List Int) (e:Int) (f:Int):Option ((List Int)):=loopO (fun v:(List Int) × Int × Int=>Dec.big.less.s0 a b c v.1 v.2.1 v.2.2) (d,e,f)
noncomputable def Dec.big.less (a:List Int) (b:List Int):Option ((List Int)) :=
 letk ((a.length:Int)) fun c =>
 Dec.big.less.l0 a b c ([]) 0 0
theorem Dec.big.less_ok {a:List Int} {b:List Int} {r:(List Int)} (u:Dec.big.less a b = some r):Gives Tryz.prog 128 [VI' a,VI' b] (VI' r):=by
 unfold Dec.big.less at u
 refine W' [(0,9)] Tryz.func128 ?_
 obtain ⟨c,ad,w⟩:=letk_elim u
 refine Nm.mk ⟨c,by rw [ad,List.length_map],?_⟩
 unfold Dec.big.less.l0 at w
 refine LoopB.of (σ:=(List Int) × Int × Int) (ρ:=(List Int)) (fun v:(List Int) × Int × Int=>Dec.big.less.s0 a b c v.1 v.2.1 v.2.2) (fun v=>(⟨40,[(1,VI' b),(5,.ref 0 0 ((v.1.map (eI .i64)).length)),(6,.lit (.int .i64 v.2.1)),(9,VI' a),(10,.lit (.int .i64 c)),(11,.lit (.int .i64 v.2.2))],[.arr 1 (v.1.map (eI .i64))]⟩:St)) ([],0,0) w (BackS.by rfl (Sees.of (Weak.objs (keep:=[]) (frz:=[]) (m:=1) rfl (by decide) rfl rfl ⟨rfl,fun _ x=>by simp only [List.mem_cons,List.not_mem_nil,or_false] at x; exact ⟨_,x⟩⟩ ⟨.s,(.nilsRef 0 (by decide) (by decide)),.s,.s,.s,.s,trivial⟩))) ?_
 rintro _ ⟨y,ae,i⟩ z f aa af
 replace f:Dec.big.less.s0 a b c y ae i = some z:=f
 unfold Dec.big.less.s0 at f
 refine C' f (fun j=>?_) fun j=>?_
 obtain ⟨_,ag,l⟩:=map_elim j
 have l:=(af _ l.symm).symm
 subst l
 obtain ⟨_,ah,ai⟩:=bind_elim ag
 refine Gate.weak (Sees.of (Weak.objs (k:=40) (keep:=[]) (frz:=[0]) (m:=0) (ts:=[(38,VI' y)]) (hs:=[]) rfl (by decide) rfl rfl ⟨rfl,fun _ h=>by cases h⟩ ⟨(WV.all (k:=0) (by decide) rfl),trivial⟩)) ?_
 exact Z' (Dec.big.trim_ok ah) (R' (E:=E14') ai)
 obtain ⟨aj,ak⟩:=chk_elim j
 obtain ⟨_,al,am⟩:=bind_elim ak
 refine Side.mk aj ?_
 refine At.by al ?_
 refine N' am fun _ an=>CutN.of (fun s=>∃ g d,Dec.big.less.j0 a b c i g d = some z ∧ s = ⟨40,[(1,VI' b),(5,.ref 0 0 ((g.map (eI .i64)).length)),(8,.lit (.int .i64 d)),(9,VI' a),(10,.lit (.int .i64 c)),(11,.lit (.int .i64 i))],[.arr 1 (g.map (eI .i64))]⟩) ?_ ?_
 obtain ⟨ao,ap,aq⟩:=letk_elim an
 refine Nm.mk ⟨ao,by rw [ap,List.length_map],?_⟩
 refine C' aq (fun n=>?_) fun n=>?_
 exact B' [0] ⟨_,_,n,rfl⟩
 obtain ⟨ar,au⟩:=chk_elim n
 obtain ⟨_,av,aw⟩:=bind_elim au
 refine Side.mk ar ?_
 refine At.by av ?_
 refine N' aw fun _ ax=>?_
 exact B' [0] ⟨_,_,ax,rfl⟩
 rintro s ⟨g,d,ab,rfl⟩
 unfold Dec.big.less.j0 at ab
 refine C' ab (fun o=>Gate.go (Nm.mk ⟨([d]).map (eI .i64),rfl,?_⟩)) fun o=>N' o fun ac p=>Gate.go (Nm.mk ⟨([ac]).map (eI .i64),rfl,?_⟩)
 obtain ⟨ay,p⟩:=chk_elim o
 obtain ⟨az,ba,q⟩:=letk_elim p
 refine Gate.go (Side.mk (full_le _) ?_)
 refine Side.mk ⟨full_le _,one_map (fun _ _ e=>by simp only [AV.cells,List.mem_singleton] at e; subst e; rfl)⟩ ?_
 refine Side.mk (side_rr (by decide) ay) ?_
 refine Nm.mk ⟨az.map (eI .i64),by rw [ba]; exact app_rr (m:=[d]),?_⟩
 refine N' q fun _ t=>?_
 exact B' [2] ⟨_,aa _ (Option.some.inj t).symm,rfl⟩
 obtain ⟨bb,q⟩:=chk_elim p
 obtain ⟨bc,bd,t⟩:=letk_elim q
 refine Gate.go (Side.mk (full_le _) ?_)
 refine Side.mk ⟨full_le _,one_map (fun _ _ e=>by simp only [AV.cells,List.mem_singleton] at e; subst e; rfl)⟩ ?_
 refine Side.mk (side_rr (by decide) bb) ?_
 refine Nm.mk ⟨bc.map (eI .i64),by rw [bd]; exact app_rr (m:=[ac]),?_⟩
 refine N' t fun _ be=>?_
 exact B' [2] ⟨_,aa _ (Option.some.inj be).symm,rfl⟩
noncomputable def Dec.quotient.s2 (e:List Int) (f:Int) (b:List Int) (c:Int) (a:Int):Option (((List Int) × Int × Int) ⊕ (Int × Int × Bool)) :=
 letk (decide (a ≥ (0:Int))) fun g =>
 bif g then
 Option.bind (Dec.big.power e 2 a) fun d =>
 Option.bind (Dec.big.compare b d) fun h =>
 letk (decide (h ≥ (0:Int))) fun i =>
 bif i then
 Option.bind (Dec.big.less b d) fun j =>
 chk (0 ≤ a) <|
 letk (IntKind.i64.wrap ((1:Int) * 2 ^ (min a.toNat (IntKind.i64).bits))) fun k =>
 letk (IntKind.i64.wrap (BitVec.ofInt (IntKind.i64).bits c ||| BitVec.ofInt (IntKind.i64).bits k).toNat) fun l =>
 letk (IntKind.i64.wrap (a - (1:Int))) fun m =>
 some (.inl (j,l,m))
 else
 letk (IntKind.i64.wrap (a - (1:Int))) fun n =>
 some (.inl (b,c,n))
 else
 ((
 letk ((b.length:Int)) fun o =>
 letk (decide (o > (0:Int))) fun p =>
 some (c,f,p))).map .inr
noncomputable def Dec.quotient.l2 (a:List Int) (b:Int) (c:List Int) (d:Int) (e:Int):Option (Int × Int × Bool):=loopO (fun v:(List Int) × Int × Int=>Dec.quotient.s2 a b v.1 v.2.1 v.2.2) (c,d,e)
noncomputable def Dec.quotient.s1 (a:List Int) (b:List Int) (c:Int) (d:List Int):Option (((List Int) × Int × (List Int)) ⊕ (Int × Int × Bool)) :=
 Option.bind (Dec.big.times d 4) fun e =>
 Option.bind (Dec.big.compare a e) fun f =>
 letk (decide (f ≥ (0:Int))) fun g =>
 bif g then
 Option.bind (Dec.big.times b 2) fun h =>
 Option.bind (Dec.big.times d 2) fun i =>
 letk (IntKind.i64.wrap (c + (1:Int))) fun j =>
 some (.inl (h,j,i))
 else
 (Dec.quotient.l2 b c a 0 61).map .inr
noncomputable def Dec.quotient.l1 (a:List Int) (b:List Int) (c:Int) (d:List Int):Option (Int × Int × Bool):=loopO (fun v:(List Int) × Int × (List Int)=>Dec.quotient.s1 a v.1 v.2.1 v.2.2) (b,c,d)
noncomputable def Dec.quotient.s0 (d:List Int) (b:(List Int)) (a:List Int) (c:Int):Option (((List Int) × Int) ⊕ (Int × Int × Bool)) :=
 Option.bind (Dec.big.compare a b) fun e =>
 letk (decide (e < (0:Int))) fun f =>
 bif f then
 Option.bind (Dec.big.times a 2) fun g =>
 letk (IntKind.i64.wrap (c - (1:Int))) fun h =>
 some (.inl (g,h))
 else
 (Dec.quotient.l1 a d c b).map .inr
noncomputable def Dec.quotient.l0 (a:List Int) (b:(List Int)) (c:List Int) (d:Int):Option (Int × Int × Bool):=loopO (fun v:(List Int) × Int=>Dec.quotient.s0 a b v.1 v.2) (c,d)
noncomputable def Dec.quotient (b:List Int) (a:List Int):Option (Int × Int × Bool) :=
 Option.bind (Dec.big.power a 2 60) fun c =>
 Dec.quotient.l0 a c b 0
abbrev E15':Int × Int × Bool → AV:=fun r=>(.tup [.lit (.int .i64 r.1),.lit (.int .i64 r.2.1),.lit (.bool r.2.2)])
theorem Dec.quotient_ok {l:List Int} {a:List Int} {r:Int × Int × Bool} (w:Dec.quotient l a = some r):Gives Tryz.prog 77 [VI' l,VI' a] (.tup [.lit (.int .i64 r.1),.lit (.int .i64 r.2.1),.lit (.bool r.2.2)]):=by
 unfold Dec.quotient at w
 refine W' [] Tryz.func77 ?_
 refine Gate.go (A' w Dec.big.power_ok fun f x=>?_)
 unfold Dec.quotient.l0 at x
 refine LoopB.of (σ:=(List Int) × Int) (ρ:=Int × Int × Bool) (fun v:(List Int) × Int=>Dec.quotient.s0 a f v.1 v.2) (fun v=>(⟨54,[(0,VI' v.1),(1,VI' a),(4,.lit (.int .i64 0)),(5,.lit (.int .i64 v.2)),(7,VI' f)],[]⟩:St)) (l,0) x (B' [] rfl) ?_
 rintro y ⟨c,z⟩ d g b e
 replace g:Dec.quotient.s0 a f c z = some d:=g
 unfold Dec.quotient.s0 at g
 refine Gate.go (A' g Dec.big.compare_ok fun _ ac=>C' ac (fun m=>?_) fun m=>Gate.go (A' m Dec.big.times_ok fun _ ad=>N' ad fun _ ae=>?_))
 obtain ⟨_,aa,n⟩:=map_elim m
 have n:=(e _ n.symm).symm
 subst n
 unfold Dec.quotient.l1 at aa
 refine LoopB.of (σ:=(List Int) × Int × (List Int)) (ρ:=Int × Int × Bool) (fun v:(List Int) × Int × (List Int)=>Dec.quotient.s1 c v.1 v.2.1 v.2.2) (fun v=>(⟨54,[(0,VI' c),(1,VI' v.1),(4,.lit (.int .i64 0)),(5,.lit (.int .i64 v.2.1)),(7,VI' v.2.2)],[]⟩:St)) (a,z,f) aa (B' [] rfl) ?_
 rintro y ⟨h,i,af⟩ d j b e
 replace j:Dec.quotient.s1 c h i af = some d:=j
 unfold Dec.quotient.s1 at j
 refine Gate.go (A' j Dec.big.times_ok fun _ ag=>Gate.go (A' ag Dec.big.compare_ok fun _ ah=>C' ah (fun o=>?_) fun o=>Gate.go (A' o Dec.big.times_ok fun _ ai=>Gate.go (A' ai Dec.big.times_ok fun _ aj=>N' aj fun _ ak=>?_))))
 obtain ⟨_,ab,p⟩:=map_elim o
 have p:=(e _ p.symm).symm
 subst p
 unfold Dec.quotient.l2 at ab
 refine LoopB.of (σ:=(List Int) × Int × Int) (ρ:=Int × Int × Bool) (fun v:(List Int) × Int × Int=>Dec.quotient.s2 h i v.1 v.2.1 v.2.2) (fun v=>(⟨54,[(0,VI' v.1),(1,VI' h),(4,.lit (.int .i64 v.2.1)),(5,.lit (.int .i64 i)),(8,.lit (.int .i64 v.2.2))],[]⟩:St)) (c,0,61) ab (B' [] rfl) ?_
 rintro y ⟨al,m4,i8⟩ d k b e
 replace k:Dec.quotient.s2 h i al m4 i8 = some d:=k
 unfold Dec.quotient.s2 at k
 refine C' k (fun q=>?_) fun q=>Gate.go (A' q Dec.big.power_ok fun _ am=>Gate.go (A' am Dec.big.compare_ok fun _ an=>C' an (fun s=>N' s fun _ t=>?_) fun s=>Gate.go (A' s Dec.big.less_ok fun _ t=>S' t fun ao=>N' ao fun _ ap=>N' ap fun _ aq=>N' aq fun _ ar=>?_)))
 obtain ⟨_,au,u⟩:=map_elim q
 have u:=(e _ u.symm).symm
 subst u
 obtain ⟨av,aw,ax⟩:=letk_elim au
 refine Nm.mk ⟨av,by rw [aw,List.length_map],?_⟩
 exact N' ax fun _ ay=>R' (E:=E15') ay
 exact B' [] ⟨_,b _ (Option.some.inj t).symm,rfl⟩
 exact B' [] ⟨_,b _ (Option.some.inj ar).symm,rfl⟩
 exact B' [] ⟨_,b _ (Option.some.inj ak).symm,rfl⟩
 exact B' [] ⟨_,b _ (Option.some.inj ae).symm,rfl⟩
noncomputable def Dec.round.j0 (a:Int) (b:Int) (c:Int) (f:List Int) (g:List Int):Option (Int × Int × Int) :=
 Option.bind (Dec.quotient f g) fun (h,d,i) =>
 letk (IntKind.i64.wrap (h * (2:Int))) fun e =>
 bif i then
 letk (IntKind.i64.wrap (e + (1:Int))) fun j =>
 letk (IntKind.i64.wrap (d - (1:Int))) fun k =>
 Option.bind (Flt.Make a b c j k) fun (l,m,n) =>
 some (l,m,n)
 else
 letk (IntKind.i64.wrap (d - (1:Int))) fun o =>
 Option.bind (Flt.Make a b c e o) fun (p,q,r) =>
 some (p,q,r)
noncomputable def Dec.round (a:Int) (b:Int) (c:Int) (g:ByteArray) (i:Int):Option (Int × Int × Int) :=
 Option.bind (Strs.TrimLeft g ⟨#[48]⟩) fun d =>
 letk ((g.size:Int)) fun j =>
 letk ((d.size:Int)) fun k =>
 letk (IntKind.i64.wrap (j - k)) fun l =>
 letk (IntKind.i64.wrap (i - l)) fun e =>
 letk (d.toList == (⟨#[]⟩:ByteArray).toList) fun m =>
 bif m then
 Option.bind (Flt.Make a b c 0 0) fun (n,o,p) =>
 some (n,o,p)
 else
 letk (decide (e > (400:Int))) fun q =>
 bif q then
 Option.bind (Flt.Make a b c 1 2000) fun (r,s,t) =>
 some (r,s,t)
 else
 letk (decide (e < ((-400):Int))) fun u =>
 bif u then
 Option.bind (Flt.Make a b c 1 (-2000)) fun (v,w,x) =>
 some (v,w,x)
 else
 Option.bind (Dec.whole d) fun h =>
 letk ((d.size:Int)) fun y =>
 letk (IntKind.i64.wrap (e - y)) fun f =>
 letk (decide (f ≥ (0:Int))) fun z =>
 bif z then
 Option.bind (Dec.big.power h 10 f) fun aa =>
 Dec.round.j0 a b c aa ([1])
 else
 letk (IntKind.i64.wrap (0 - f)) fun ab =>
 Option.bind (Dec.big.power ([1]) 10 ab) fun ac =>
 Dec.round.j0 a b c h ac
theorem Dec.round_ok {a:Int} {b:Int} {c:Int} {t:ByteArray} {u:Int} {r:Int × Int × Int} (v:Dec.round a b c t u = some r):Gives Tryz.prog 34 [.lit (.int .i64 a),.lit (.int .i64 b),.lit (.int .i64 c),.lit (.string t),.lit (.int .i64 u)] (.tup [.lit (.int .i64 r.1),.lit (.int .i64 r.2.1),.lit (.int .i64 r.2.2)]):=by
 unfold Dec.round at v
 refine W' [(0,14)] Tryz.func34 ?_
 refine Gate.go (A' v Strs.TrimLeft_ok fun _ y=>N' y fun _ z=>N' z fun _ h3=>N' h3 fun _ h4=>N' h4 fun _ h5=>C' h5 (fun d=>C' d (fun e=>C' e (fun f=>Gate.go (A' f Dec.whole_ok fun aa g=>Gate.go (Nm.mk ⟨([1]).map (eI .i64),rfl,?_⟩))) fun f=>?_) fun e=>?_) fun d=>?_)
 refine N' g fun _ ab=>N' ab fun _ ac=>CutN.of (fun s=>∃ i j,Dec.round.j0 a b c i j = some r ∧ s = ⟨96,[(0,.lit (.int .i64 a)),(1,.lit (.int .i64 b)),(2,.lit (.int .i64 c)),(14,VI' i),(15,VI' j)],[]⟩) ?_ ?_
 refine C' ac (fun l=>N' l fun ad n=>?_) fun l=>Gate.go (A' l Dec.big.power_ok fun _ n=>?_)
 obtain ⟨_,ae,af⟩:=bind_elim n
 refine Gate.weak (Sees.of (Weak.objs (k:=96) (keep:=[]) (frz:=[0]) (m:=0) (ts:=[(0,.lit (.int .i64 a)),(1,.lit (.int .i64 b)),(2,.lit (.int .i64 c)),(14,VI' aa),(70,.vs 1 (([1]).map (eI .i64))),(72,.lit (.int .i64 ad))]) (hs:=[]) rfl (by decide) rfl rfl ⟨rfl,fun _ h=>by cases h⟩ ⟨.s,.s,.s,.s,(WV.all (k:=0) (by decide) rfl),.s,trivial⟩)) ?_
 refine Z' (Dec.big.power_ok ae) ?_
 exact B' [] ⟨_,_,af,rfl⟩
 exact BackS.by ⟨_,_,n,rfl⟩ (Sees.of (Weak.objs (keep:=[]) (frz:=[0]) (m:=0) rfl (by decide) rfl rfl ⟨rfl,fun _ h=>by cases h⟩ ⟨.s,.s,.s,.s,(WV.all (k:=0) (by decide) rfl),trivial⟩))
 rintro s ⟨i,j,w,rfl⟩
 unfold Dec.round.j0 at w
 obtain ⟨⟨_,_,ag⟩,ah,ai⟩:=bind_elim w
 refine Gate.go (Z' (Dec.quotient_ok ah) (N' ai fun _ x=>?_))
 rcases ag with _ | _
 have o:=bif_f x
 refine N' o fun _ p=>?_
 obtain ⟨⟨_,_,_⟩,aj,q⟩:=bind_elim p
 exact Gate.go (Z' (Flt.Make_ok aj) (R' (E:=E11') q))
 have o:=bif_t x
 refine N' o fun _ p=>N' p fun _ q=>?_
 obtain ⟨⟨_,_,_⟩,ak,al⟩:=bind_elim q
 exact Gate.go (Z' (Flt.Make_ok ak) (R' (E:=E11') al))
 obtain ⟨⟨_,_,_⟩,am,g⟩:=bind_elim f
 exact Gate.go (Z' (Flt.Make_ok am) (R' (E:=E11') g))
 obtain ⟨⟨_,_,_⟩,an,ao⟩:=bind_elim e
 exact Gate.go (Z' (Flt.Make_ok an) (R' (E:=E11') ao))
 obtain ⟨⟨_,_,_⟩,ap,h8⟩:=bind_elim d
 exact Gate.go (Z' (Flt.Make_ok ap) (R' (E:=E11') h8))
noncomputable def Dec.Read (d:ByteArray) (b:Int) (c:Int):Option (Int × Int × Int) :=
 Option.bind (Dec.isKind b c) fun e =>
 letk (!e) fun f =>
 bif f then
 some (0,0,2)
 else
 Option.bind (Dec.parse d) fun (a,g) =>
 letk (!g) fun h =>
 bif h then
 some (0,0,3)
 else
 letk (!(a.word.toList == (⟨#[]⟩:ByteArray).toList)) fun i =>
 bif i then
 Option.bind (Dec.word b (⟨a.sign,a.word,a.digits,a.x⟩:decimal.parsed)) fun j =>
 some (j,0,0)
 else
 Option.bind (Dec.round b c a.sign a.digits a.x) fun (k,l,m) =>
 some (k,l,m)
theorem Dec.Read_ok {e:ByteArray} {f:Int} {g:Int} {r:Int × Int × Int} (h:Dec.Read e f g = some r):Gives Tryz.prog 16 [.lit (.string e),.lit (.int .i64 f),.lit (.int .i64 g)] (.tup [.lit (.int .i64 r.1),.lit (.int .i64 r.2.1),.lit (.int .i64 r.2.2)]):=by
 unfold Dec.Read at h
 refine W' [] Tryz.func16 ?_
 refine Gate.go (A' h Dec.isKind_ok fun _ i=>C' i (fun a=>?_) fun a=>R' (E:=E11') a)
 obtain ⟨⟨_,_⟩,j,k⟩:=bind_elim a
 refine Gate.go (Z' (Dec.parse_ok j) (V' (V' (C' k (fun b=>C' b (fun c=>?_) fun c=>Gate.go (A' c Dec.word_ok fun _ d=>R' (E:=E11') d)) fun b=>R' (E:=E11') b))))
 obtain ⟨⟨_,_,_⟩,l,d⟩:=bind_elim c
 exact Gate.go (Z' (Dec.round_ok l) (R' (E:=E11') d))
noncomputable def Flt.Class (d:Int) (b:Int):Option ByteArray :=
 Option.bind (Flt.two d 0 b b) fun (e,a,_,f) =>
 letk (!f) fun g =>
 bif g then
 some ⟨#[]⟩
 else
 letk (a.class_ == (0:Int)) fun h =>
 bif h then
 some ⟨#[122,101,114,111]⟩
 else
 letk (a.class_ == (2:Int)) fun i =>
 bif i then
 some ⟨#[105,110,102,105,110,105,116,101]⟩
 else
 letk (a.class_ == (3:Int)) fun j =>
 bif j then
 some ⟨#[110,111,110,101]⟩
 else
 letk (IntKind.i64.wrap (e.p - (1:Int))) fun c =>
 chk (0 ≤ c) <|
 letk (IntKind.u64.wrap ((1:Int) * 2 ^ (min c.toNat (IntKind.u64).bits))) fun k =>
 letk (decide (a.m < k)) fun l =>
 bif l then
 some ⟨#[108,101,97,115,116]⟩
 else
 some ⟨#[110,111,114,109,97,108]⟩
theorem Flt.Class_ok {h:Int} {i:Int} {r:ByteArray} (j:Flt.Class h i = some r):Gives Tryz.prog 70 [.lit (.int .i64 h),.lit (.int .i64 i)] (.lit (.string r)):=by
 unfold Flt.Class at j
 refine W' [] Tryz.func70 ?_
 obtain ⟨⟨_,_,_,_⟩,l,m⟩:=bind_elim j
 refine Gate.go (Z' (Flt.two_ok l) (V' (V' (V' (V' (V' (V' (C' m (fun a=>C' a (fun b=>C' b (fun d=>C' d (fun f=>DrawB.ofG [none,none,none,none,none,none,none,none] Tryz_mixed (by kernel_rfl) (by kernel_rfl) ?_) fun f=>R' (E:=E4') f) fun d=>R' (E:=E4') d) fun b=>R' (E:=E4') b) fun a=>R' (E:=E4') a))))))))
 refine D' rfl (D' rfl (D' rfl (D' rfl (DN' f (fun e=>n' e rfl) fun _ n=>DS' n (fun c e=>Side.mk c (n' e rfl)) fun _ o=>DN' o (fun e=>n' e rfl) fun p k=>D' rfl ?_))))
 rcases p with _ | _
 have g:=bif_f k
 exact R' (E:=E4') g
 have g:=bif_t k
 exact R' (E:=E4') g
noncomputable def Flt.shape.place (a:float.shape) (b:Int):Option Int :=
 letk (IntKind.u64.wrap b) fun f =>
 letk (IntKind.i64.wrap (a.p + a.w)) fun g =>
 letk (IntKind.i64.wrap (g - (1:Int))) fun c =>
 chk (0 ≤ c) <|
 letk (IntKind.u64.wrap ((1:Int) * 2 ^ (min c.toNat (IntKind.u64).bits))) fun h =>
 letk (IntKind.u64.wrap (h - (1:Int))) fun i =>
 letk (IntKind.u64.wrap (BitVec.ofInt (IntKind.u64).bits f &&& BitVec.ofInt (IntKind.u64).bits i).toNat) fun j =>
 letk (IntKind.i64.wrap j) fun d =>
 letk (IntKind.u64.wrap b) fun k =>
 letk (IntKind.i64.wrap (a.p + a.w)) fun l =>
 letk (IntKind.i64.wrap (l - (1:Int))) fun e =>
 chk (0 ≤ e) <|
 letk ((IntKind.u64,k.fdiv (2 ^ (min e.toNat (IntKind.u64).bits))).2) fun m =>
 letk (IntKind.u64.wrap (BitVec.ofInt (IntKind.u64).bits m &&& BitVec.ofInt (IntKind.u64).bits (1:Int)).toNat) fun n =>
 letk (n == (1:Int)) fun o =>
 bif o then
 letk (IntKind.i64.wrap (0 - d)) fun q =>
 some q
 else
 some d
theorem Flt.shape.place_ok {b:float.shape} {c:Int} {r:Int} (d:Flt.shape.place b c = some r):Gives Tryz.prog 136 [float.shape.enc b,.lit (.int .i64 c)] (.lit (.int .i64 r)):=by
 unfold Flt.shape.place at d
 refine W' [] Tryz.func136 ?_
 exact V' (N' d fun _ e=>N' e fun _ f=>N' f fun _ g=>S' g fun h=>N' h fun _ i=>N' i fun _ j=>N' j fun _ k=>N' k fun _ l=>N' l fun _ m=>N' m fun _ n=>N' n fun _ o=>S' o fun p=>N' p fun _ q=>N' q fun _ s=>C' s (fun a=>R' (E:=E2') a) fun a=>N' a fun _ t=>R' (E:=E2') t)
noncomputable def Flt.Compare.j0 (d:Int) (e:Int) (a:float.shape):Option (Int × Int) :=
 Option.bind (Flt.shape.place (⟨a.p,a.w⟩:float.shape) d) fun b =>
 Option.bind (Flt.shape.place (⟨a.p,a.w⟩:float.shape) e) fun c =>
 letk (decide (b < c)) fun f =>
 bif f then
 some ((-1),0)
 else
 letk (decide (b > c)) fun g =>
 bif g then
 some (1,0)
 else
 some (0,0)
noncomputable def Flt.Compare.j1 (a:Int) (b:Int) (c:float.shape) (d:float.number) (e:float.number) (f:Bool):Option (Int × Int) :=
 bif f then
 some (2,0)
 else
 letk (d.class_ == (0:Int)) fun g =>
 bif g then
 letk (e.class_ == (0:Int)) fun h =>
 bif h then
 some (0,0)
 else
 Flt.Compare.j0 a b c
 else
 Flt.Compare.j0 a b c
noncomputable def Flt.Compare (f:Int) (a:Int) (b:Int):Option (Int × Int) :=
 Option.bind (Flt.two f 0 a b) fun (e,c,d,g) =>
 letk (!g) fun h =>
 bif h then
 some (0,2)
 else
 letk (c.class_ == (3:Int)) fun i =>
 bif i then
 Flt.Compare.j1 a b e c d true
 else
 letk (d.class_ == (3:Int)) fun j =>
 Flt.Compare.j1 a b e c d j
theorem Flt.Compare_ok {t:Int} {a:Int} {b:Int} {r:Int × Int} (u:Flt.Compare t a b = some r):Gives Tryz.prog 94 [.lit (.int .i64 t),.lit (.int .i64 a),.lit (.int .i64 b)] (.tup [.lit (.int .i64 r.1),.lit (.int .i64 r.2)]):=by
 unfold Flt.Compare at u
 refine W' [(0,8),(36,11)] Tryz.func94 ?_
 obtain ⟨⟨c,f,g,_⟩,v,x⟩:=bind_elim u
 refine Gate.go (Z' (Flt.two_ok v) (V' (V' (V' (V' (V' (V' (CutN.of (fun s=>Flt.Compare.j0 a b c = some r ∧ s = ⟨58,[(1,.lit (.int .i64 a)),(2,.lit (.int .i64 b)),(8,.ptr 0 0)],[.box [.lit (.int .i64 c.p),.lit (.int .i64 c.w)]]⟩) ?_ ?_))))))))
 refine C' x (fun j=>CutN.of (fun s=>∃ i,Flt.Compare.j1 a b c f g i = some r ∧ s = ⟨58,[(1,.lit (.int .i64 a)),(2,.lit (.int .i64 b)),(8,.ptr 0 0),(9,.ptr 1 0),(10,.ptr 2 0),(26,.lit (.bool i))],[.box [.lit (.int .i64 c.p),.lit (.int .i64 c.w)],.box [.lit (.int .i64 f.class_),.lit (.int .i64 f.sign),.lit (.int .u64 f.m),.lit (.int .i64 f.e)],.box [.lit (.int .i64 g.class_),.lit (.int .i64 g.sign),.lit (.int .u64 g.m),.lit (.int .i64 g.e)]]⟩) ?_ ?_) fun j=>R' (E:=E10') j
 refine C' j (fun k=>N' k fun _ y=>?_) fun k=>?_
 exact B' [0,1,2] ⟨_,y,rfl⟩
 exact B' [0,1,2] ⟨_,k,rfl⟩
 rintro s ⟨i,d,rfl⟩
 unfold Flt.Compare.j1 at d
 rcases i with _ | _
 have h:=bif_f d
 refine C' h (fun l=>?_) fun l=>C' l (fun n=>?_) fun n=>R' (E:=E10') n
 exact B' [0] ⟨l,rfl⟩
 exact B' [0] ⟨n,rfl⟩
 have h:=bif_t d
 exact R' (E:=E10') h
 rintro s ⟨d,rfl⟩
 unfold Flt.Compare.j0 at d
 refine DrawB.ofG [none,none,none,none,none,none,none,none] Tryz_mixed (by kernel_rfl) (by kernel_rfl) ?_
 exact D' rfl (D' rfl (DC' d (fun e=>Z' (Flt.shape.place_ok e) rfl) fun _ h=>D' rfl (D' rfl (DC' h (fun e=>Z' (Flt.shape.place_ok e) rfl) fun _ z=>D' rfl (D' rfl (C' z (fun o=>C' o (fun q=>R' (E:=E10') q) fun q=>R' (E:=E10') q) fun o=>R' (E:=E10') o))))))
noncomputable def Dec.special (a:Int) (b:Int):Option (ByteArray × Bool) :=
 Option.bind (Flt.Class a b) fun c =>
 letk (c.toList == (⟨#[110,111,110,101]⟩:ByteArray).toList) fun d =>
 bif d then
 some (⟨#[110,97,110]⟩,true)
 else
 letk (c.toList == (⟨#[105,110,102,105,110,105,116,101]⟩:ByteArray).toList) fun e =>
 bif e then
 Option.bind (Flt.Compare a b 0) fun (f,_) =>
 letk (decide (f < (0:Int))) fun g =>
 bif g then
 some (⟨#[45,105,110,102]⟩,true)
 else
 some (⟨#[105,110,102]⟩,true)
 else
 some (⟨#[]⟩,false)
abbrev E16':ByteArray × Bool → AV:=fun r=>(.tup [.lit (.string r.1),.lit (.bool r.2)])
theorem Dec.special_ok {d:Int} {e:Int} {r:ByteArray × Bool} (f:Dec.special d e = some r):Gives Tryz.prog 41 [.lit (.int .i64 d),.lit (.int .i64 e)] (.tup [.lit (.string r.1),.lit (.bool r.2)]):=by
 unfold Dec.special at f
 refine W' [] Tryz.func41 ?_
 refine Gate.go (A' f Flt.Class_ok fun _ g=>C' g (fun a=>C' a (fun b=>R' (E:=E16') b) fun b=>?_) fun a=>R' (E:=E16') a)
 obtain ⟨⟨_,_⟩,h,i⟩:=bind_elim b
 exact Gate.go (Z' (Flt.Compare_ok h) (C' i (fun c=>R' (E:=E16') c) fun c=>R' (E:=E16') c))
noncomputable def Dec.isFinite (b:Int) (c:Int):Option Bool :=
 Option.bind (Flt.Class b c) fun a =>
 letk (a.toList == (⟨#[108,101,97,115,116]⟩:ByteArray).toList) fun d =>
 bif d then
 some true
 else
 letk (a.toList == (⟨#[110,111,114,109,97,108]⟩:ByteArray).toList) fun e =>
 some e
theorem Dec.isFinite_ok {b:Int} {c:Int} {r:Bool} (d:Dec.isFinite b c = some r):Gives Tryz.prog 30 [.lit (.int .i64 b),.lit (.int .i64 c)] (.lit (.bool r)):=by
 unfold Dec.isFinite at d
 refine W' [] Tryz.func30 ?_
 exact Gate.go (A' d Flt.Class_ok fun _ e=>C' e (fun a=>N' a fun _ f=>R' (E:=E1') f) fun a=>R' (E:=E1') a)
end Go.Q
