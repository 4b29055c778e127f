import Derived.Test.YtmfhkipeapdfmaaGreatDoorDGE
import Derived.Test.YtmfhkipeapdfmaaGreatDoorFX
import Derived.Test.YtmfhkipeapdfmaaGreatDoorFY
import Derived.Test.YtmfhkipeapdfmaaGreatDoorProg
namespace Go.Q
open Go Go.Proofs
set_option maxRecDepth 10000
set_option maxHeartbeats 2000000
noncomputable def Ref1.Valid (b:Int) (a:Int):Option Bool :=
 letk (b == (2:Int)) fun c =>
 bif c then
 letk (decide (a ≥ (0:Int))) fun d =>
 bif d then
 letk (decide (a < (65536:Int))) fun e =>
 some e
 else
 some false
 else
 letk (b == (4:Int)) fun f =>
 bif f then
 letk (decide (a ≥ (0:Int))) fun g =>
 bif g then
 letk (decide (a < (4294967296:Int))) fun h =>
 some h
 else
 some false
 else
 letk (b == (8:Int)) fun i =>
 some i
abbrev E1':Bool → AV:=fun r=>(.lit (.bool r))
abbrev E2':Int → AV:=fun r=>(.lit (.int .i64 r))
abbrev E4':ByteArray → AV:=fun r=>(.lit (.string r))
noncomputable def Flt.of (a:Int):Option (float.shape × Bool) :=
 letk (a == (2:Int)) fun b =>
 bif b then
 some ((⟨11,5⟩:float.shape),true)
 else
 letk (a == (4:Int)) fun c =>
 bif c then
 some ((⟨24,8⟩:float.shape),true)
 else
 letk (a == (8:Int)) fun d =>
 bif d then
 some ((⟨53,11⟩:float.shape),true)
 else
 some ((⟨0,0⟩:float.shape),false)
abbrev E5':float.shape × Bool → AV:=fun r=>(.tup [float.shape.enc r.1,.lit (.bool r.2)])
theorem Flt.of_ok {d:Int} {r:float.shape × Bool} (e:Flt.of d = some r):Gives Tryz.prog 92 [.lit (.int .i64 d)] (.tup [float.shape.enc r.1,.lit (.bool r.2)]):=by
 unfold Flt.of at e
 refine W' [] Tryz.func92 ?_
 exact V' (C' e (fun a=>C' a (fun b=>C' b (fun c=>Gate.go (V' (V' (R' (E:=E5') c)))) fun c=>Gate.go (V' (V' (R' (E:=E5') c)))) fun b=>Gate.go (V' (V' (R' (E:=E5') b)))) fun a=>Gate.go (V' (V' (R' (E:=E5') a))))
noncomputable def Flt.shape.top (a:float.shape):Option Int :=
 chk (0 ≤ a.w) <|
 letk (IntKind.u64.wrap ((1:Int) * 2 ^ (min a.w.toNat (IntKind.u64).bits))) fun b =>
 letk (IntKind.u64.wrap (b - (1:Int))) fun c =>
 some c
abbrev E6':Int → AV:=fun r=>(.lit (.int .u64 r))
theorem Flt.shape.top_ok {a:float.shape} {r:Int} (b:Flt.shape.top a = some r):Gives Tryz.prog 133 [float.shape.enc a] (.lit (.int .u64 r)):=by
 unfold Flt.shape.top at b
 refine W' [] Tryz.func133 ?_
 exact V' (S' b fun c=>N' c fun _ d=>N' d fun _ e=>R' (E:=E6') e)
noncomputable def Flt.shape.bias (b:float.shape):Option Int :=
 letk (IntKind.i64.wrap (b.w - (1:Int))) fun a =>
 chk (0 ≤ a) <|
 letk (IntKind.i64.wrap ((1:Int) * 2 ^ (min a.toNat (IntKind.i64).bits))) fun c =>
 letk (IntKind.i64.wrap (c - (1:Int))) fun d =>
 some d
theorem Flt.shape.bias_ok {a:float.shape} {r:Int} (b:Flt.shape.bias a = some r):Gives Tryz.prog 135 [float.shape.enc a] (.lit (.int .i64 r)):=by
 unfold Flt.shape.bias at b
 refine W' [] Tryz.func135 ?_
 exact V' (N' b fun _ c=>S' c fun d=>N' d fun _ e=>N' e fun _ f=>R' (E:=E2') f)
noncomputable def Flt.shape.least (a:float.shape):Option Int :=
 Option.bind (Flt.shape.bias (⟨a.p,a.w⟩:float.shape)) fun b =>
 letk (IntKind.i64.wrap ((2:Int) - b)) fun c =>
 letk (IntKind.i64.wrap (c - a.p)) fun d =>
 some d
theorem Flt.shape.least_ok {a:float.shape} {r:Int} (b:Flt.shape.least a = some r):Gives Tryz.prog 134 [float.shape.enc a] (.lit (.int .i64 r)):=by
 unfold Flt.shape.least at b
 refine W' [] Tryz.func134 ?_
 refine V' (DrawB.ofG [none,none,none,none,none,none,none] Tryz_mixed (by kernel_rfl) (by kernel_rfl) ?_)
 exact D' rfl (DC' b (fun e=>Z' (Flt.shape.bias_ok e) rfl) fun _ c=>DN' c (fun e=>n' e rfl) fun _ d=>D' rfl (D' rfl (DN' d (fun e=>n' e rfl) fun _ f=>D' rfl (R' (E:=E2') f))))
noncomputable def Flt.shape.read.j2 (c:Int) (d:Int) (a:Int) (e:Int) (_:Int) (_:Int) (_:Int) (_:Int) (_:Int) (b:Int) (g:Int) (h:Int) (i:Bool):Option (float.number × Bool) :=
 bif i then
 some ((⟨0,b,g,h⟩:float.number),true)
 else
 letk (c == (0:Int)) fun j =>
 bif j then
 Option.bind (Flt.shape.least (⟨a,e⟩:float.shape)) fun k =>
 some ((⟨1,b,d,k⟩:float.number),true)
 else
 letk (IntKind.i64.wrap (a - (1:Int))) fun f =>
 chk (0 ≤ f) <|
 letk (IntKind.u64.wrap ((1:Int) * 2 ^ (min f.toNat (IntKind.u64).bits))) fun l =>
 letk (IntKind.u64.wrap (BitVec.ofInt (IntKind.u64).bits d ||| BitVec.ofInt (IntKind.u64).bits l).toNat) fun m =>
 letk (IntKind.i64.wrap c) fun n =>
 Option.bind (Flt.shape.bias (⟨a,e⟩:float.shape)) fun o =>
 letk (IntKind.i64.wrap (n - o)) fun p =>
 letk (IntKind.i64.wrap (p - a)) fun q =>
 letk (IntKind.i64.wrap (q + (1:Int))) fun r =>
 some ((⟨1,b,m,r⟩:float.number),true)
noncomputable def Flt.shape.read.j1 (a:Int) (e:Int) (f:Int) (g:Int) (h:Int) (i:Int) (j:Int) (k:Int) (l:Int) (b:Int) (c:Int) (d:Int) (m:Bool):Option (float.number × Bool) :=
 bif m then
 some ((⟨2,b,c,d⟩:float.number),true)
 else
 Option.bind (Flt.shape.top (⟨f,g⟩:float.shape)) fun n =>
 letk (a == n) fun o =>
 bif o then
 some ((⟨3,b,c,d⟩:float.number),true)
 else
 letk (a == (0:Int)) fun p =>
 bif p then
 letk (e == (0:Int)) fun q =>
 Flt.shape.read.j2 a e f g h i j k l b c d q
 else
 Flt.shape.read.j2 a e f g h i j k l b c d false
noncomputable def Flt.shape.read.j0 (c:Int) (n:Int) (a:Int) (b:Int) (f:Int) (g:Int) (h:Int) (i:Int):Option (float.number × Bool) :=
 letk (IntKind.i64.wrap (n - (1:Int))) fun j =>
 chk (0 ≤ j) <|
 letk ((IntKind.u64,c.fdiv (2 ^ (min j.toNat (IntKind.u64).bits))).2) fun o =>
 letk (IntKind.u64.wrap (BitVec.ofInt (IntKind.u64).bits o &&& BitVec.ofInt (IntKind.u64).bits (1:Int)).toNat) fun p =>
 letk (IntKind.i64.wrap p) fun k =>
 letk (IntKind.i64.wrap (a - (1:Int))) fun l =>
 chk (0 ≤ l) <|
 letk ((IntKind.u64,c.fdiv (2 ^ (min l.toNat (IntKind.u64).bits))).2) fun q =>
 Option.bind (Flt.shape.top (⟨a,b⟩:float.shape)) fun r =>
 letk (IntKind.u64.wrap (BitVec.ofInt (IntKind.u64).bits q &&& BitVec.ofInt (IntKind.u64).bits r).toNat) fun d =>
 letk (IntKind.i64.wrap (a - (1:Int))) fun m =>
 chk (0 ≤ m) <|
 letk (IntKind.u64.wrap ((1:Int) * 2 ^ (min m.toNat (IntKind.u64).bits))) fun s =>
 letk (IntKind.u64.wrap (s - (1:Int))) fun t =>
 letk (IntKind.u64.wrap (BitVec.ofInt (IntKind.u64).bits c &&& BitVec.ofInt (IntKind.u64).bits t).toNat) fun e =>
 Option.bind (Flt.shape.top (⟨a,b⟩:float.shape)) fun u =>
 letk (d == u) fun v =>
 bif v then
 letk (e == (0:Int)) fun w =>
 Flt.shape.read.j1 d e a b f g h i 0 k 0 0 w
 else
 Flt.shape.read.j1 d e a b f g h i 0 k 0 0 false
noncomputable def Flt.shape.read.j3 (a:float.shape) (b:Int) (c:Int) (d:Bool):Option (float.number × Bool) :=
 bif d then
 some ((⟨0,0,0,0⟩:float.number),false)
 else
 Flt.shape.read.j0 b c a.p a.w 0 0 0 0
noncomputable def Flt.shape.read (b:float.shape) (d:Int):Option (float.number × Bool) :=
 letk (IntKind.u64.wrap d) fun c =>
 letk (IntKind.i64.wrap (b.p + b.w)) fun a =>
 letk (decide (a < (64:Int))) fun e =>
 bif e then
 chk (0 ≤ a) <|
 letk ((IntKind.u64,c.fdiv (2 ^ (min a.toNat (IntKind.u64).bits))).2) fun f =>
 letk (f != (0:Int)) fun g =>
 Flt.shape.read.j3 b c a g
 else
 Flt.shape.read.j3 b c a false
abbrev E7':float.number × Bool → AV:=fun r=>(.tup [float.number.enc r.1,.lit (.bool r.2)])
theorem Flt.shape.read_ok {t:float.shape} {a1:Int} {r:float.number × Bool} (h0:Flt.shape.read t a1 = some r):Gives Tryz.prog 93 [float.shape.enc t,.lit (.int .i64 a1)] (.tup [float.number.enc r.1,.lit (.bool r.2)]):=by
 unfold Flt.shape.read at h0
 refine W' [(0,5),(77,19),(93,27),(35,9)] Tryz.func93 ?_
 refine V' (V' (N' h0 fun y h1=>N' h1 fun z h2=>CutN.of (fun s=>∃ ae af ag ah ai aj,Flt.shape.read.j0 y z ae af ag ah ai aj = some r ∧ s = ⟨101,[(2,.ptr 0 0),(4,.ptr 1 0),(6,.lit (.int .u64 y)),(7,.lit (.int .i64 z))],[.box [.lit (.int .i64 ae),.lit (.int .i64 af)],.box [.lit (.int .i64 ag),.lit (.int .i64 ah),.lit (.int .u64 ai),.lit (.int .i64 aj)]]⟩) ?_ ?_))
 refine CutN.of (fun s=>∃ aa,Flt.shape.read.j3 t y z aa = some r ∧ s = ⟨101,[(2,.ptr 0 0),(4,.ptr 1 0),(6,.lit (.int .u64 y)),(7,.lit (.int .i64 z)),(25,.lit (.bool aa))],[.box [.lit (.int .i64 t.p),.lit (.int .i64 t.w)],.box [.lit (.int .i64 0),.lit (.int .i64 0),.lit (.int .u64 0),.lit (.int .i64 0)]]⟩) ?_ ?_
 refine C' h2 (fun h4=>?_) fun h4=>S' h4 fun h5=>N' h5 fun _ h6=>N' h6 fun _ h7=>?_
 exact B' [0,1] ⟨_,h4,rfl⟩
 exact B' [0,1] ⟨_,h7,rfl⟩
 rintro s ⟨aa,a,rfl⟩
 unfold Flt.shape.read.j3 at a
 rcases aa with _ | _
 have b:=bif_f a
 exact B' [0,1] ⟨_,_,_,_,_,_,b,rfl⟩
 have b:=bif_t a
 exact Gate.go (V' (V' (R' (E:=E7') b)))
 rintro s ⟨ae,af,ag,ah,ai,aj,a,rfl⟩
 unfold Flt.shape.read.j0 at a
 refine N' a fun _ b=>S' b fun ak=>N' ak fun _ u=>N' u fun _ g=>N' g fun _ al=>Gate.go (V' (V' (V' (L' [0,1,2] [2,4,6,8] ?_))))
 refine DrawB.ofG [none,none,none,none,none,none,none,none,none,none,none,none,none,none,none,none,none] Tryz_mixed (by kernel_rfl) (by kernel_rfl) ?_
 refine D' rfl (D' rfl (D' rfl (DN' al (fun e=>n' e rfl) fun _ n=>DS' n (fun c e=>Side.mk c (n' e rfl)) fun _ am=>D' rfl (DC' am (fun e=>Z' (Flt.shape.top_ok e) rfl) fun _ an=>DN' an (fun e=>n' e rfl) fun v ao=>D' rfl (D' rfl (D' rfl (DN' ao (fun e=>n' e rfl) fun _ ap=>DS' ap (fun c e=>Side.mk c (n' e rfl)) fun _ ba=>DN' ba (fun e=>n' e rfl) fun _ bb=>DN' bb (fun e=>n' e rfl) fun x bc=>D' rfl (D' rfl (CutN.of (fun s=>∃ d f h i j k q l o m ab,Flt.shape.read.j1 v x d f h i j k q l o m ab = some r ∧ s = ⟨101,[(2,.ptr 0 0),(4,.ptr 1 0),(8,.ptr 2 0),(9,.lit (.int .u64 v)),(10,.lit (.int .u64 x)),(67,.lit (.bool ab))],[.box [.lit (.int .i64 d),.lit (.int .i64 f)],.box [.lit (.int .i64 h),.lit (.int .i64 i),.lit (.int .u64 j),.lit (.int .i64 k)],.box [.lit (.int .i64 q),.lit (.int .i64 l),.lit (.int .u64 o),.lit (.int .i64 m)]]⟩) ?_ ?_)))))))))
 refine Gate.go (A' bc Flt.shape.top_ok fun _ bd=>C' bd (fun aq=>?_) fun aq=>N' aq fun _ be=>?_)
 exact B' [0,1,2] ⟨_,_,_,_,_,_,_,_,_,_,_,aq,rfl⟩
 exact B' [0,1,2] ⟨_,_,_,_,_,_,_,_,_,_,_,be,rfl⟩
 rintro s ⟨d,f,h,i,j,k,q,l,o,m,ab,a,rfl⟩
 unfold Flt.shape.read.j1 at a
 rcases ab with _ | _
 have b:=bif_f a
 refine Gate.go (A' b Flt.shape.top_ok fun _ ak=>C' ak (fun g=>CutN.of (fun s=>∃ ac,Flt.shape.read.j2 v x d f h i j k q l o m ac = some r ∧ s = ⟨101,[(2,.ptr 0 0),(4,.ptr 1 0),(8,.ptr 2 0),(9,.lit (.int .u64 v)),(10,.lit (.int .u64 x)),(83,.lit (.bool ac))],[.box [.lit (.int .i64 d),.lit (.int .i64 f)],.box [.lit (.int .i64 h),.lit (.int .i64 i),.lit (.int .u64 j),.lit (.int .i64 k)],.box [.lit (.int .i64 q),.lit (.int .i64 l),.lit (.int .u64 o),.lit (.int .i64 m)]]⟩) ?_ ?_) fun g=>V' (V' (R' (E:=E7') g)))
 refine C' g (fun n=>?_) fun n=>N' n fun _ ar=>?_
 exact B' [0,1,2] ⟨_,n,rfl⟩
 exact B' [0,1,2] ⟨_,ar,rfl⟩
 rintro s ⟨ac,a,rfl⟩
 unfold Flt.shape.read.j2 at a
 rcases ac with _ | _
 have b:=bif_f a
 refine C' b (fun u=>L' [0,1,2] [2,4,8,9,10] ?_) fun u=>Gate.go (A' u Flt.shape.least_ok fun _ g=>V' (V' (V' (V' (R' (E:=E7') g)))))
 refine DrawB.ofFN 0 [.box [.lit (.int .i64 d),.lit (.int .i64 f)],.box [.lit (.int .i64 h),.lit (.int .i64 i),.lit (.int .u64 j),.lit (.int .i64 k)],.box [.lit (.int .i64 q),.lit (.int .i64 l),.lit (.int .u64 o),.lit (.int .i64 m)]] 3 3 [[],[0],[0],[],[],[],[],[],[0],[],[],[0],[0],[],[],[2],[2],[2],[2],[2],[2]] [[],[],[],[],[],[],[],[],[],[],[],[],[],[],[],[],[2],[],[2],[],[2]] [none,none,none,none,none,none,none,none,none,none,none,none,none,none,none,none,none,none,none,none,none] Tryz_mixed (by kernel_rfl) rfl rfl rfl (by kernel_rfl) ?_
 refine FNode.no (W:=[]) (.lit (.int .u64 x)) ?_ rfl ?_
 rfl
 refine FNode.rd (F:=[0]) (W:=[]) (.ptr 0 0) ?_ rfl rfl ?_
 rfl
 refine FNode.rd (F:=[0]) (W:=[]) (.lit (.int .i64 d)) ?_ rfl rfl ?_
 rfl
 obtain ⟨av,bf,g⟩:=letk_elim u
 refine FNode.no (W:=[]) (.lit (.int .i64 av)) ?_ rfl ?_
 refine Nm.mk ⟨av,bf,?_⟩
 rfl
 obtain ⟨bg,al⟩:=chk_elim g
 obtain ⟨aw,bh,n⟩:=letk_elim al
 refine FNode.no (W:=[]) (.lit (.int .u64 aw)) ?_ rfl ?_
 refine Side.mk bg ?_
 refine Nm.mk ⟨aw,bh,?_⟩
 rfl
 obtain ⟨ad,bi,ar⟩:=letk_elim n
 refine FNode.no (W:=[]) (.lit (.int .u64 ad)) ?_ rfl ?_
 refine Nm.mk ⟨ad,bi,?_⟩
 rfl
 refine FNode.no (W:=[]) (.lit (.int .u64 v)) ?_ rfl ?_
 rfl
 obtain ⟨ax,bj,am⟩:=letk_elim ar
 refine FNode.no (W:=[]) (.lit (.int .i64 ax)) ?_ rfl ?_
 refine Nm.mk ⟨ax,bj,?_⟩
 rfl
 refine FNode.rd (F:=[0]) (W:=[]) (.agg [.lit (.int .i64 d),.lit (.int .i64 f)]) ?_ rfl rfl ?_
 rfl
 obtain ⟨bk,bl,an⟩:=bind_elim am
 refine FNode.no (W:=[]) (.lit (.int .i64 bk)) ?_ rfl ?_
 refine Z' (Flt.shape.bias_ok bl) ?_
 rfl
 obtain ⟨ay,bm,ao⟩:=letk_elim an
 refine FNode.no (W:=[]) (.lit (.int .i64 ay)) ?_ rfl ?_
 refine Nm.mk ⟨ay,bm,?_⟩
 rfl
 refine FNode.rd (F:=[0]) (W:=[]) (.ptr 0 0) ?_ rfl rfl ?_
 rfl
 refine FNode.rd (F:=[0]) (W:=[]) (.lit (.int .i64 d)) ?_ rfl rfl ?_
 rfl
 obtain ⟨az,bn,ap⟩:=letk_elim ao
 refine FNode.no (W:=[]) (.lit (.int .i64 az)) ?_ rfl ?_
 refine Nm.mk ⟨az,bn,?_⟩
 rfl
 obtain ⟨au,bo,bp⟩:=letk_elim ap
 refine FNode.no (W:=[]) (.lit (.int .i64 au)) ?_ rfl ?_
 refine Nm.mk ⟨au,bo,?_⟩
 rfl
 refine FNode.rd (F:=[2]) (W:=[]) (.ptr 2 0) ?_ rfl rfl ?_
 rfl
 refine FNode.pl (F:=[2]) (W:=[2]) (.undef) [.box [.lit (.int .i64 d),.lit (.int .i64 f)],.box [.lit (.int .i64 h),.lit (.int .i64 i),.lit (.int .u64 j),.lit (.int .i64 k)],.box [.lit (.int .i64 1),.lit (.int .i64 l),.lit (.int .u64 o),.lit (.int .i64 m)]] ?_ rfl rfl rfl rfl ?_
 refine V' ?_
 rfl
 refine FNode.rd (F:=[2]) (W:=[]) (.ptr 2 2) ?_ rfl rfl ?_
 rfl
 refine FNode.pl (F:=[2]) (W:=[2]) (.undef) [.box [.lit (.int .i64 d),.lit (.int .i64 f)],.box [.lit (.int .i64 h),.lit (.int .i64 i),.lit (.int .u64 j),.lit (.int .i64 k)],.box [.lit (.int .i64 1),.lit (.int .i64 l),.lit (.int .u64 ad),.lit (.int .i64 m)]] ?_ rfl rfl rfl rfl ?_
 refine V' ?_
 rfl
 refine FNode.rd (F:=[2]) (W:=[]) (.ptr 2 3) ?_ rfl rfl ?_
 rfl
 refine FNode.pl (F:=[2]) (W:=[2]) (.undef) [.box [.lit (.int .i64 d),.lit (.int .i64 f)],.box [.lit (.int .i64 h),.lit (.int .i64 i),.lit (.int .u64 j),.lit (.int .i64 k)],.box [.lit (.int .i64 1),.lit (.int .i64 l),.lit (.int .u64 ad),.lit (.int .i64 au)]] ?_ rfl rfl rfl rfl ?_
 refine V' ?_
 rfl
 exact V' (R' (E:=E7') bp)
 have b:=bif_t a
 exact V' (V' (R' (E:=E7') b))
 have b:=bif_t a
 exact V' (V' (R' (E:=E7') b))
noncomputable def Flt.Valid (b:Int) (c:Int):Option Bool :=
 Option.bind (Flt.of b) fun (a,d) =>
 letk (!d) fun e =>
 bif e then
 some false
 else
 Option.bind (Flt.shape.read (⟨a.p,a.w⟩:float.shape) c) fun (_,f) =>
 some f
theorem Flt.Valid_ok {b:Int} {c:Int} {r:Bool} (d:Flt.Valid b c = some r):Gives Tryz.prog 40 [.lit (.int .i64 b),.lit (.int .i64 c)] (.lit (.bool r)):=by
 unfold Flt.Valid at d
 refine W' [] Tryz.func40 ?_
 obtain ⟨⟨_,_⟩,e,f⟩:=bind_elim d
 refine Gate.go (Z' (Flt.of_ok e) (V' (V' (C' f (fun a=>?_) fun a=>R' (E:=E1') a))))
 obtain ⟨⟨_,_⟩,g,h⟩:=bind_elim a
 exact Gate.go (Z' (Flt.shape.read_ok g) (R' (E:=E1') h))
noncomputable def Dec.isKind (b:Int) (a:Int):Option Bool :=
 Option.bind (Flt.Valid b 0) fun c =>
 bif c then
 letk (decide (a ≥ (0:Int))) fun d =>
 bif d then
 letk (decide (a ≤ (3:Int))) fun e =>
 some e
 else
 some false
 else
 some false
theorem Dec.isKind_ok {c:Int} {d:Int} {r:Bool} (e:Dec.isKind c d = some r):Gives Tryz.prog 52 [.lit (.int .i64 c),.lit (.int .i64 d)] (.lit (.bool r)):=by
 unfold Dec.isKind at e
 refine W' [] Tryz.func52 ?_
 refine Gate.go (A' e Flt.Valid_ok fun g f=>?_)
 rcases g with _ | _
 have a:=bif_f f
 exact R' (E:=E1') a
 have a:=bif_t f
 exact C' a (fun b=>R' (E:=E1') b) fun b=>N' b fun _ h=>R' (E:=E1') h
noncomputable def Dec.digitsOf.s0 (s0:ByteArray) (a:Int):Option (Int ⊕ ByteArray) :=
 letk ((s0.size:Int)) fun b =>
 letk (decide (a < b)) fun c =>
 bif c then
 chk (0 ≤ a ∧ a < (s0.size:Int)) <|
 letk (bt s0 a) fun d =>
 letk (decide (d ≥ (48:Int))) fun e =>
 bif e then
 chk (0 ≤ a ∧ a < (s0.size:Int)) <|
 letk (bt s0 a) fun f =>
 letk (decide (f ≤ (57:Int))) fun g =>
 bif g then
 letk (IntKind.i64.wrap (a + (1:Int))) fun h =>
 some (.inl h)
 else
 ((
 chk (0 ≤ a ∧ a ≤ (s0.size:Int)) <|
 letk (s0.extract 0 a.toNat) fun i =>
 some i)).map .inr
 else
 ((
 chk (0 ≤ a ∧ a ≤ (s0.size:Int)) <|
 letk (s0.extract 0 a.toNat) fun j =>
 some j)).map .inr
 else
 ((
 chk (0 ≤ a ∧ a ≤ (s0.size:Int)) <|
 letk (s0.extract 0 a.toNat) fun k =>
 some k)).map .inr
noncomputable def Dec.digitsOf.l0 (s0:ByteArray) (a:Int):Option ByteArray:=loopO (fun v:Int=>Dec.digitsOf.s0 s0 v) a
noncomputable def Dec.digitsOf (a:ByteArray):Option ByteArray :=
 Dec.digitsOf.l0 a 0
theorem Dec.digitsOf_ok {s0:ByteArray} {r:ByteArray} (b:Dec.digitsOf s0 = some r):Gives Tryz.prog 107 [.lit (.string s0)] (.lit (.string r)):=by
 unfold Dec.digitsOf at b
 refine W' [] Tryz.func107 ?_
 unfold Dec.digitsOf.l0 at b
 refine LoopB.of (σ:=Int) (ρ:=ByteArray) (fun v:Int=>Dec.digitsOf.s0 s0 v) (fun v=>(⟨25,[(0,.lit (.string s0)),(3,.lit (.int .i64 v))],[]⟩:St)) 0 b (B' [] rfl) ?_
 rintro _ j k a l c
 replace a:Dec.digitsOf.s0 s0 j = some k:=a
 unfold Dec.digitsOf.s0 at a
 refine N' a fun _ m=>C' m (fun d=>?_) fun d=>S' d fun n=>N' n fun _ o=>C' o (fun e=>?_) fun e=>S' e fun p=>N' p fun _ q=>C' q (fun f=>?_) fun f=>N' f fun _ s=>?_
 obtain ⟨_,t,g⟩:=map_elim d
 have g:=(c _ g.symm).symm
 subst g
 exact S' t fun u=>N' u fun _ w=>R' (E:=E4') w
 obtain ⟨_,x,h⟩:=map_elim e
 have h:=(c _ h.symm).symm
 subst h
 exact S' x fun y=>N' y fun _ z=>R' (E:=E4') z
 obtain ⟨_,aa,i⟩:=map_elim f
 have i:=(c _ i.symm).symm
 subst i
 exact S' aa fun ab=>N' ab fun _ ac=>R' (E:=E4') ac
 exact B' [] ⟨_,l _ (Option.some.inj s).symm,rfl⟩
noncomputable def Slite.HasPrefix (a:ByteArray) (b:ByteArray):Option Bool :=
 letk ((a.size:Int)) fun d =>
 letk ((b.size:Int)) fun e =>
 letk (decide (d ≥ e)) fun f =>
 bif f then
 letk ((b.size:Int)) fun c =>
 chk (0 ≤ c ∧ c ≤ (a.size:Int)) <|
 letk (a.extract 0 c.toNat) fun g =>
 letk (g.toList == b.toList) fun h =>
 some h
 else
 some false
theorem Slite.HasPrefix_ok {b:ByteArray} {c:ByteArray} {r:Bool} (d:Slite.HasPrefix b c = some r):Gives Tryz.prog 142 [.lit (.string b),.lit (.string c)] (.lit (.bool r)):=by
 unfold Slite.HasPrefix at d
 refine W' [] Tryz.func142 ?_
 exact N' d fun _ e=>N' e fun _ f=>C' f (fun a=>R' (E:=E1') a) fun a=>N' a fun _ g=>S' g fun h=>N' h fun _ i=>N' i fun _ j=>R' (E:=E1') j
noncomputable def Strs.HasPrefix (a:ByteArray) (b:ByteArray):Option Bool :=
 Option.bind (Slite.HasPrefix a b) fun c =>
 some c
theorem Strs.HasPrefix_ok {a:ByteArray} {b:ByteArray} {r:Bool} (c:Strs.HasPrefix a b = some r):Gives Tryz.prog 100 [.lit (.string a),.lit (.string b)] (.lit (.bool r)):=by
 unfold Strs.HasPrefix at c
 refine W' [] Tryz.func100 ?_
 exact Gate.go (A' c Slite.HasPrefix_ok fun _ d=>R' (E:=E1') d)
noncomputable def Dec.parse.j6 (a:Int) (b:ByteArray) (c:ByteArray) (d:Int) (e:Int):Option (decimal.parsed × Bool) :=
 letk (IntKind.i64.wrap (d + e)) fun f =>
 some ((⟨a,b,c,f⟩:decimal.parsed),true)
noncomputable def Dec.parse.j5 (f:ByteArray) (a:Int) (b:ByteArray) (c:ByteArray) (d:Int) (g:Bool):Option (decimal.parsed × Bool) :=
 Option.bind (Strconv.Atoi f) fun (e,_) =>
 bif g then
 letk (IntKind.i64.wrap (0 - e)) fun h =>
 Dec.parse.j6 a b c d h
 else
 Dec.parse.j6 a b c d e
noncomputable def Dec.parse.j7 (e:ByteArray) (a:Int) (b:ByteArray) (c:ByteArray) (d:Int) (f:Bool) (g:Bool):Option (decimal.parsed × Bool) :=
 bif g then
 some ((⟨a,b,c,d⟩:decimal.parsed),false)
 else
 Dec.parse.j5 e a b c d f
noncomputable def Dec.parse.j4 (a:ByteArray) (b:Int) (c:ByteArray) (d:ByteArray) (e:Int) (f:Bool):Option (decimal.parsed × Bool) :=
 letk (a.toList == (⟨#[]⟩:ByteArray).toList) fun g =>
 bif g then
 Dec.parse.j7 a b c d e f true
 else
 letk ((a.size:Int)) fun h =>
 letk (decide (h > (4:Int))) fun i =>
 bif i then
 Dec.parse.j7 a b c d e f true
 else
 Option.bind (Dec.digitsOf a) fun j =>
 letk (!(j.toList == a.toList)) fun k =>
 Dec.parse.j7 a b c d e f k
noncomputable def Dec.parse.j3 (b:ByteArray) (c:Int) (d:ByteArray) (e:ByteArray) (f:Int):Option (decimal.parsed × Bool) :=
 letk (b.toList == (⟨#[]⟩:ByteArray).toList) fun g =>
 bif g then
 some ((⟨c,d,e,f⟩:decimal.parsed),true)
 else
 chk (0 ≤ (1:Int) ∧ (1:Int) ≤ (b.size:Int)) <|
 letk (b.extract 0 ((1:Int).toNat)) fun h =>
 Option.bind (Strs.Contains ⟨#[101,69,100,68]⟩ h) fun i =>
 letk (!i) fun j =>
 bif j then
 some ((⟨c,d,e,f⟩:decimal.parsed),false)
 else
 chk (0 ≤ (1:Int) ∧ (1:Int) ≤ (b.size:Int)) <|
 letk (b.extract (1:Int).toNat b.size) fun a =>
 Option.bind (Strs.HasPrefix a ⟨#[45]⟩) fun k =>
 bif k then
 chk (0 ≤ (1:Int) ∧ (1:Int) ≤ (a.size:Int)) <|
 letk (a.extract (1:Int).toNat a.size) fun l =>
 Dec.parse.j4 l c d e f true
 else
 Option.bind (Strs.HasPrefix a ⟨#[43]⟩) fun m =>
 bif m then
 chk (0 ≤ (1:Int) ∧ (1:Int) ≤ (a.size:Int)) <|
 letk (a.extract (1:Int).toNat a.size) fun n =>
 Dec.parse.j4 n c d e f false
 else
 Dec.parse.j4 a c d e f false
noncomputable def Dec.parse.j8 (e:ByteArray) (a:Int) (b:ByteArray) (c:ByteArray) (d:Int) (f:Bool):Option (decimal.parsed × Bool) :=
 bif f then
 some ((⟨a,b,c,d⟩:decimal.parsed),false)
 else
 Dec.parse.j3 e a b c d
noncomputable def Dec.parse.j2 (b:ByteArray) (c:ByteArray) (d:Int) (e:ByteArray) (_:ByteArray) (_:Int) (f:ByteArray):Option (decimal.parsed × Bool) :=
 chk (((b.size + f.size:Nat):Int) ≤ 9223372036854775807) <|
 letk (b ++ f) fun a =>
 letk ((b.size:Int)) fun g =>
 letk (a.toList == (⟨#[]⟩:ByteArray).toList) fun h =>
 bif h then
 Dec.parse.j8 c d e a g true
 else
 letk ((a.size:Int)) fun i =>
 letk (decide (i > (60:Int))) fun j =>
 Dec.parse.j8 c d e a g j
noncomputable def Dec.parse.j1 (b:ByteArray) (f:Int) (g:ByteArray) (h:ByteArray) (i:Int):Option (decimal.parsed × Bool) :=
 Option.bind (Dec.digitsOf b) fun c =>
 letk ((c.size:Int)) fun d =>
 chk (0 ≤ d ∧ d ≤ (b.size:Int)) <|
 letk (b.extract d.toNat b.size) fun a =>
 Option.bind (Strs.HasPrefix a ⟨#[46]⟩) fun k =>
 bif k then
 chk (0 ≤ (1:Int) ∧ (1:Int) ≤ (a.size:Int)) <|
 letk (a.extract (1:Int).toNat a.size) fun l =>
 Option.bind (Dec.digitsOf l) fun j =>
 letk ((j.size:Int)) fun m =>
 letk (IntKind.i64.wrap ((1:Int) + m)) fun e =>
 chk (0 ≤ e ∧ e ≤ (a.size:Int)) <|
 letk (a.extract e.toNat a.size) fun n =>
 Dec.parse.j2 c n f g h i j
 else
 Dec.parse.j2 c a f g h i (⟨#[]⟩)
noncomputable def Dec.parse.j9 (a:ByteArray) (b:Int) (e:ByteArray) (c:ByteArray) (d:Int) (f:Bool):Option (decimal.parsed × Bool) :=
 bif f then
 some ((⟨b,a,c,d⟩:decimal.parsed),true)
 else
 Dec.parse.j1 a b e c d
noncomputable def Dec.parse.j0 (a:ByteArray) (b:Int) (c:ByteArray) (d:ByteArray) (e:Int):Option (decimal.parsed × Bool) :=
 letk (a.toList == (⟨#[105,110,102]⟩:ByteArray).toList) fun f =>
 bif f then
 Dec.parse.j9 a b c d e true
 else
 letk (a.toList == (⟨#[110,97,110]⟩:ByteArray).toList) fun g =>
 Dec.parse.j9 a b c d e g
noncomputable def Dec.parse.j10 (a:ByteArray) (b:Bool):Option (decimal.parsed × Bool) :=
 bif b then
 chk (0 ≤ (0:Int) ∧ (0:Int) < (a.size:Int)) <|
 letk (bt a (0:Int)) fun c =>
 letk (c == (45:Int)) fun d =>
 bif d then
 chk (0 ≤ (1:Int) ∧ (1:Int) ≤ (a.size:Int)) <|
 letk (a.extract (1:Int).toNat a.size) fun e =>
 Dec.parse.j0 e 1 (⟨#[]⟩) (⟨#[]⟩) 0
 else
 chk (0 ≤ (1:Int) ∧ (1:Int) ≤ (a.size:Int)) <|
 letk (a.extract (1:Int).toNat a.size) fun f =>
 Dec.parse.j0 f 0 (⟨#[]⟩) (⟨#[]⟩) 0
 else
 Dec.parse.j0 a 0 (⟨#[]⟩) (⟨#[]⟩) 0
noncomputable def Dec.parse (a:ByteArray):Option (decimal.parsed × Bool) :=
 letk (!(a.toList == (⟨#[]⟩:ByteArray).toList)) fun b =>
 bif b then
 chk (0 ≤ (0:Int) ∧ (0:Int) < (a.size:Int)) <|
 letk (bt a (0:Int)) fun c =>
 letk (c == (45:Int)) fun d =>
 bif d then
 Dec.parse.j10 a true
 else
 chk (0 ≤ (0:Int) ∧ (0:Int) < (a.size:Int)) <|
 letk (bt a (0:Int)) fun e =>
 letk (e == (43:Int)) fun f =>
 Dec.parse.j10 a f
 else
 Dec.parse.j10 a false
abbrev E8':decimal.parsed × Bool → AV:=fun r=>(.tup [decimal.parsed.enc r.1,.lit (.bool r.2)])
theorem Dec.parse_ok {x:ByteArray} {r:decimal.parsed × Bool} (h0:Dec.parse x = some r):Gives Tryz.prog 53 [.lit (.string x)] (.tup [decimal.parsed.enc r.1,.lit (.bool r.2)]):=by
 unfold Dec.parse at h0
 refine W' [(0,5),(0,8),(0,14),(0,17),(0,25),(0,27),(0,30),(110,53),(77,33),(42,13),(30,5)] Tryz.func53 ?_
 refine V' (CutN.of (fun s=>∃ h m n o p,Dec.parse.j0 h m n o p = some r ∧ s = ⟨116,[(0,.lit (.string h)),(2,.ptr 0 0)],[.box [.lit (.int .i64 m),.lit (.string n),.lit (.string o),.lit (.int .i64 p)]]⟩) ?_ ?_)
 refine CutN.of (fun s=>∃ y,Dec.parse.j10 x y = some r ∧ s = ⟨116,[(0,.lit (.string x)),(2,.ptr 0 0),(20,.lit (.bool y))],[.box [.lit (.int .i64 0),.lit (.string (⟨#[]⟩)),.lit (.string (⟨#[]⟩)),.lit (.int .i64 0)]]⟩) ?_ ?_
 refine C' h0 (fun h2=>?_) fun h2=>S' h2 fun h3=>N' h3 fun _ h4=>C' h4 (fun h6=>S' h6 fun h7=>N' h7 fun _ h8=>N' h8 fun _ h9=>?_) fun h6=>?_
 exact B' [0] ⟨_,h2,rfl⟩
 exact B' [0] ⟨_,h9,rfl⟩
 exact B' [0] ⟨_,h6,rfl⟩
 rintro s ⟨y,a,rfl⟩
 unfold Dec.parse.j10 at a
 rcases y with _ | _
 have b:=bif_f a
 exact B' [0] ⟨_,_,_,_,_,b,rfl⟩
 have b:=bif_t a
 refine S' b fun c=>N' c fun _ e=>C' e (fun d=>?_) fun d=>V' (S' d fun g=>N' g fun _ f=>?_)
 obtain ⟨bl,g⟩:=chk_elim d
 obtain ⟨bm,bn,f⟩:=letk_elim g
 refine Side.mk bl ?_
 refine Nm.mk ⟨bm,bn,?_⟩
 exact B' [0] ⟨_,_,_,_,_,f,rfl⟩
 exact B' [0] ⟨_,_,_,_,_,f,rfl⟩
 rintro s ⟨h,m,n,o,p,a,rfl⟩
 unfold Dec.parse.j0 at a
 refine CutN.of (fun s=>∃ ae af ag ah,Dec.parse.j1 h ae af ag ah = some r ∧ s = ⟨116,[(0,.lit (.string h)),(2,.ptr 0 0)],[.box [.lit (.int .i64 ae),.lit (.string af),.lit (.string ag),.lit (.int .i64 ah)]]⟩) ?_ ?_
 refine CutN.of (fun s=>∃ z,Dec.parse.j9 h m n o p z = some r ∧ s = ⟨116,[(0,.lit (.string h)),(2,.ptr 0 0),(32,.lit (.bool z))],[.box [.lit (.int .i64 m),.lit (.string n),.lit (.string o),.lit (.int .i64 p)]]⟩) ?_ ?_
 refine C' a (fun c=>N' c fun _ e=>?_) fun c=>?_
 exact B' [0] ⟨_,e,rfl⟩
 exact B' [0] ⟨_,c,rfl⟩
 rintro s ⟨z,a,rfl⟩
 unfold Dec.parse.j9 at a
 rcases z with _ | _
 have b:=bif_f a
 exact B' [0] ⟨_,_,_,_,b,rfl⟩
 have b:=bif_t a
 exact V' (V' (R' (E:=E8') b))
 rintro s ⟨ae,af,ag,ah,a,rfl⟩
 unfold Dec.parse.j1 at a
 refine Gate.go (A' a Dec.digitsOf_ok fun bk b=>N' b fun _ c=>?_)
 obtain ⟨bo,e⟩:=chk_elim c
 obtain ⟨bp,bq,ai⟩:=letk_elim e
 refine Side.mk bo ?_
 refine Nm.mk ⟨bp,bq,?_⟩
 refine CutN.of (fun s=>∃ i aj ak al am an,Dec.parse.j2 bk i aj ak al am an = some r ∧ s = ⟨116,[(0,.lit (.string i)),(2,.ptr 0 0),(4,.lit (.string bk)),(5,.lit (.string an))],[.box [.lit (.int .i64 aj),.lit (.string ak),.lit (.string al),.lit (.int .i64 am)]]⟩) ?_ ?_
 refine Gate.go (A' ai Strs.HasPrefix_ok fun br d=>?_)
 rcases br with _ | _
 have g:=bif_f d
 exact B' [0] ⟨_,_,_,_,_,_,g,rfl⟩
 have g:=bif_t d
 refine S' g fun f=>N' f fun _ ao=>Gate.go (A' ao Dec.digitsOf_ok fun _ ap=>N' ap fun _ aa=>N' aa fun _ q=>?_)
 obtain ⟨bs,l⟩:=chk_elim q
 obtain ⟨bt,bu,j⟩:=letk_elim l
 refine Side.mk bs ?_
 refine Nm.mk ⟨bt,bu,?_⟩
 exact B' [0] ⟨_,_,_,_,_,_,j,rfl⟩
 rintro s ⟨i,aj,ak,al,am,an,a,rfl⟩
 unfold Dec.parse.j2 at a
 refine S' a fun b=>N' b fun _ c=>N' c fun _ e=>V' (V' (CutN.of (fun s=>∃ aq ar au av,Dec.parse.j3 i aq ar au av = some r ∧ s = ⟨116,[(0,.lit (.string i)),(2,.ptr 0 0)],[.box [.lit (.int .i64 aq),.lit (.string ar),.lit (.string au),.lit (.int .i64 av)]]⟩) ?_ ?_))
 refine CutN.of (fun s=>∃ aw ax ay az ab,Dec.parse.j8 i aw ax ay az ab = some r ∧ s = ⟨116,[(0,.lit (.string i)),(2,.ptr 0 0),(67,.lit (.bool ab))],[.box [.lit (.int .i64 aw),.lit (.string ax),.lit (.string ay),.lit (.int .i64 az)]]⟩) ?_ ?_
 refine C' e (fun d=>N' d fun _ g=>N' g fun _ f=>?_) fun d=>?_
 exact B' [0] ⟨_,_,_,_,_,f,rfl⟩
 exact B' [0] ⟨_,_,_,_,_,d,rfl⟩
 rintro s ⟨aw,ax,ay,az,ab,a,rfl⟩
 unfold Dec.parse.j8 at a
 rcases ab with _ | _
 have b:=bif_f a
 exact B' [0] ⟨_,_,_,_,b,rfl⟩
 have b:=bif_t a
 exact V' (R' (E:=E8') b)
 rintro s ⟨aq,ar,au,av,a,rfl⟩
 unfold Dec.parse.j3 at a
 refine C' a (fun c=>S' c fun e=>N' e fun _ ai=>Gate.go (A' ai Strs.Contains_ok fun _ d=>C' d (fun f=>S' f fun ao=>N' ao fun _ ap=>Gate.go (A' ap Strs.HasPrefix_ok fun bv aa=>CutN.of (fun s=>∃ k ba bb bc bd be,Dec.parse.j4 k ba bb bc bd be = some r ∧ s = ⟨116,[(0,.lit (.string k)),(2,.ptr 0 0),(6,.lit (.bool be))],[.box [.lit (.int .i64 ba),.lit (.string bb),.lit (.string bc),.lit (.int .i64 bd)]]⟩) ?_ ?_)) fun f=>V' (R' (E:=E8') f))) fun c=>V' (R' (E:=E8') c)
 rcases bv with _ | _
 have q:=bif_f aa
 refine Gate.go (A' q Strs.HasPrefix_ok fun bw l=>?_)
 rcases bw with _ | _
 have j:=bif_f l
 exact B' [0] ⟨_,_,_,_,_,_,j,rfl⟩
 have j:=bif_t l
 refine S' j fun bx=>N' bx fun _ bz=>?_
 exact B' [0] ⟨_,_,_,_,_,_,bz,rfl⟩
 have q:=bif_t aa
 refine S' q fun l=>N' l fun _ j=>?_
 exact B' [0] ⟨_,_,_,_,_,_,j,rfl⟩
 rintro s ⟨k,ba,bb,bc,bd,be,a,rfl⟩
 unfold Dec.parse.j4 at a
 refine CutN.of (fun s=>∃ t u v w ac,Dec.parse.j5 k t u v w ac = some r ∧ s = ⟨116,[(0,.lit (.string k)),(2,.ptr 0 0),(6,.lit (.bool ac))],[.box [.lit (.int .i64 t),.lit (.string u),.lit (.string v),.lit (.int .i64 w)]]⟩) ?_ ?_
 refine CutN.of (fun s=>∃ bf bg bh bi bj ad,Dec.parse.j7 k bf bg bh bi bj ad = some r ∧ s = ⟨116,[(0,.lit (.string k)),(2,.ptr 0 0),(6,.lit (.bool bj)),(100,.lit (.bool ad))],[.box [.lit (.int .i64 bf),.lit (.string bg),.lit (.string bh),.lit (.int .i64 bi)]]⟩) ?_ ?_
 refine C' a (fun c=>N' c fun _ e=>C' e (fun d=>Gate.go (A' d Dec.digitsOf_ok fun _ g=>N' g fun _ f=>?_)) fun d=>?_) fun c=>?_
 exact B' [0] ⟨_,_,_,_,_,_,f,rfl⟩
 exact B' [0] ⟨_,_,_,_,_,_,d,rfl⟩
 exact B' [0] ⟨_,_,_,_,_,_,c,rfl⟩
 rintro s ⟨bf,bg,bh,bi,bj,ad,a,rfl⟩
 unfold Dec.parse.j7 at a
 rcases ad with _ | _
 have b:=bif_f a
 exact B' [0] ⟨_,_,_,_,_,b,rfl⟩
 have b:=bif_t a
 exact V' (R' (E:=E8') b)
 rintro s ⟨t,u,v,w,ac,a,rfl⟩
 unfold Dec.parse.j5 at a
 obtain ⟨⟨_,_⟩,ca,b⟩:=bind_elim a
 refine Gate.go (Z' (Strconv.Atoi_ok ca) (CutN.of (fun s=>∃ n7,Dec.parse.j6 t u v w n7 = some r ∧ s = ⟨116,[(2,.ptr 0 0),(7,.lit (.int .i64 n7))],[.box [.lit (.int .i64 t),.lit (.string u),.lit (.string v),.lit (.int .i64 w)]]⟩) ?_ ?_))
 rcases ac with _ | _
 have c:=bif_f b
 exact B' [0] ⟨_,c,rfl⟩
 have c:=bif_t b
 refine N' c fun _ e=>?_
 exact B' [0] ⟨_,e,rfl⟩
 rintro s ⟨n7,a,rfl⟩
 unfold Dec.parse.j6 at a
 exact N' a fun _ b=>V' (V' (R' (E:=E8') b))
noncomputable def Flt.shape.pack (a:float.shape) (d:Int) (e:Int) (f:Int):Option Int :=
 letk (IntKind.u64.wrap d) fun g =>
 letk (IntKind.i64.wrap (a.p + a.w)) fun h =>
 letk (IntKind.i64.wrap (h - (1:Int))) fun b =>
 chk (0 ≤ b) <|
 letk (IntKind.u64.wrap (g * 2 ^ (min b.toNat (IntKind.u64).bits))) fun i =>
 letk (IntKind.i64.wrap (a.p - (1:Int))) fun c =>
 chk (0 ≤ c) <|
 letk (IntKind.u64.wrap (e * 2 ^ (min c.toNat (IntKind.u64).bits))) fun j =>
 letk (IntKind.u64.wrap (BitVec.ofInt (IntKind.u64).bits i ||| BitVec.ofInt (IntKind.u64).bits j).toNat) fun k =>
 letk (IntKind.u64.wrap (BitVec.ofInt (IntKind.u64).bits k ||| BitVec.ofInt (IntKind.u64).bits f).toNat) fun l =>
 letk (IntKind.i64.wrap l) fun m =>
 some m
theorem Flt.shape.pack_ok {a:float.shape} {b:Int} {d:Int} {f:Int} {r:Int} (g:Flt.shape.pack a b d f = some r):Gives Tryz.prog 152 [float.shape.enc a,.lit (.int .i64 b),.lit (.int .u64 d),.lit (.int .u64 f)] (.lit (.int .i64 r)):=by
 unfold Flt.shape.pack at g
 refine W' [] Tryz.func152 ?_
 refine V' (L' [0] [1,2,3,4] ?_)
 refine DrawB.ofG [none,none,none,none,none,none,none,none,none,none,none,none,none,none,none,none,none,none,none] Tryz_mixed (by kernel_rfl) (by kernel_rfl) ?_
 exact D' rfl (DN' g (fun e=>n' e rfl) fun _ h=>D' rfl (D' rfl (D' rfl (D' rfl (DN' h (fun e=>n' e rfl) fun _ i=>DN' i (fun e=>n' e rfl) fun _ j=>DS' j (fun c e=>Side.mk c (n' e rfl)) fun _ k=>D' rfl (D' rfl (D' rfl (DN' k (fun e=>n' e rfl) fun _ l=>DS' l (fun c e=>Side.mk c (n' e rfl)) fun _ m=>DN' m (fun e=>n' e rfl) fun _ n=>D' rfl (DN' n (fun e=>n' e rfl) fun _ o=>DN' o (fun e=>n' e rfl) fun _ p=>D' rfl (R' (E:=E2') p))))))))))
noncomputable def Flt.shape.zero (a:float.shape) (b:Int):Option Int :=
 Option.bind (Flt.shape.pack (⟨a.p,a.w⟩:float.shape) b 0 0) fun c =>
 some c
theorem Flt.shape.zero_ok {a:float.shape} {b:Int} {r:Int} (c:Flt.shape.zero a b = some r):Gives Tryz.prog 125 [float.shape.enc a,.lit (.int .i64 b)] (.lit (.int .i64 r)):=by
 unfold Flt.shape.zero at c
 refine W' [] Tryz.func125 ?_
 exact V' (Gate.go (A' c Flt.shape.pack_ok fun _ d=>R' (E:=E2') d))
noncomputable def Flt.exact.long (a:float.exact):Option Int :=
 letk (a.hi != (0:Int)) fun b =>
 bif b then
 Option.bind (Bits.Len64 a.hi) fun c =>
 letk (IntKind.i64.wrap ((64:Int) + c)) fun d =>
 some d
 else
 Option.bind (Bits.Len64 a.lo) fun e =>
 some e
theorem Flt.exact.long_ok {c:float.exact} {r:Int} (d:Flt.exact.long c = some r):Gives Tryz.prog 153 [float.exact.enc c] (.lit (.int .i64 r)):=by
 unfold Flt.exact.long at d
 refine W' [] Tryz.func153 ?_
 exact V' (C' d (fun a=>Gate.go (A' a Bits.Len64_ok fun _ b=>R' (E:=E2') b)) fun a=>Gate.go (A' a Bits.Len64_ok fun _ b=>N' b fun _ e=>R' (E:=E2') e))
end Go.Q
