import Derived.Test.YtmfhkipeapdfmaaGreatDoorDG3
import Derived.Test.YtmfhkipeapdfmaaGreatDoorFX
import Derived.Test.YtmfhkipeapdfmaaGreatDoorFY
import Derived.Test.YtmfhkipeapdfmaaGreatDoorProg
namespace Go.Q
open Go Go.Proofs
set_option maxRecDepth 10000
set_option maxHeartbeats 2000000
noncomputable def Flt.Parts.j0 (a:float.number):Option (Int × Int × Int × Int) :=
 Option.bind (Bits.TrailingZeros64 a.m) fun b =>
 chk (0 ≤ b) <|
 letk ((IntKind.u64,a.m.fdiv (2 ^ (min b.toNat (IntKind.u64).bits))).2) fun c =>
 letk (IntKind.i64.wrap c) fun d =>
 letk (IntKind.i64.wrap (a.e + b)) fun f =>
 some (a.sign,d,f,0)
noncomputable def Flt.Parts.j1 (a:float.number) (b:Bool):Option (Int × Int × Int × Int) :=
 bif b then
 some (0,0,0,10)
 else
 letk (a.class_ == (0:Int)) fun c =>
 bif c then
 some (a.sign,0,0,0)
 else
 Flt.Parts.j0 a
noncomputable def Flt.Parts (c:Int) (b:Int):Option (Int × Int × Int × Int) :=
 Option.bind (Flt.two c 0 b b) fun (_,a,_,d) =>
 letk (!d) fun e =>
 bif e then
 some (0,0,0,2)
 else
 letk (a.class_ == (2:Int)) fun f =>
 bif f then
 Flt.Parts.j1 a true
 else
 letk (a.class_ == (3:Int)) fun g =>
 Flt.Parts.j1 a g
abbrev E17':Int × Int × Int × Int → AV:=fun r=>(.tup [.lit (.int .i64 r.1),.lit (.int .i64 r.2.1),.lit (.int .i64 r.2.2.1),.lit (.int .i64 r.2.2.2)])
theorem Flt.Parts_ok {j:Int} {k:Int} {r:Int × Int × Int × Int} (l:Flt.Parts j k = some r):Gives Tryz.prog 71 [.lit (.int .i64 j),.lit (.int .i64 k)] (.tup [.lit (.int .i64 r.1),.lit (.int .i64 r.2.1),.lit (.int .i64 r.2.2.1),.lit (.int .i64 r.2.2.2)]):=by
 unfold Flt.Parts at l
 refine W' [(0,8),(35,11)] Tryz.func71 ?_
 obtain ⟨⟨_,a,_,_⟩,n,o⟩:=bind_elim l
 refine Gate.go (Z' (Flt.two_ok n) (V' (V' (V' (V' (V' (V' (CutN.of (fun s=>Flt.Parts.j0 a = some r ∧ s = ⟨54,[(9,.ptr 0 0)],[.box [.lit (.int .i64 a.class_),.lit (.int .i64 a.sign),.lit (.int .u64 a.m),.lit (.int .i64 a.e)]]⟩) ?_ ?_))))))))
 refine C' o (fun h=>CutN.of (fun s=>∃ g,Flt.Parts.j1 a g = some r ∧ s = ⟨54,[(9,.ptr 0 0),(25,.lit (.bool g))],[.box [.lit (.int .i64 a.class_),.lit (.int .i64 a.sign),.lit (.int .u64 a.m),.lit (.int .i64 a.e)]]⟩) ?_ ?_) fun h=>R' (E:=E17') h
 refine C' h (fun i=>N' i fun _ p=>?_) fun i=>?_
 exact B' [1] ⟨_,p,rfl⟩
 exact B' [1] ⟨_,i,rfl⟩
 rintro s ⟨g,b,rfl⟩
 unfold Flt.Parts.j1 at b
 rcases g with _ | _
 have d:=bif_f b
 refine C' d (fun f=>?_) fun f=>R' (E:=E17') f
 exact B' [0] ⟨f,rfl⟩
 have d:=bif_t b
 exact R' (E:=E17') d
 rintro s ⟨b,rfl⟩
 unfold Flt.Parts.j0 at b
 refine Gate.go (A' b Bits.TrailingZeros64_ok fun _ d=>L' [0] [9,12] ?_)
 refine DrawB.ofG [none,none,none,none,none,none,none,none,none,none,none,none,none,none,none] Tryz_mixed (by kernel_rfl) (by kernel_rfl) ?_
 exact D' rfl (D' rfl (D' rfl (D' rfl (D' rfl (DS' d (fun c e=>Side.mk c (n' e rfl)) fun _ f=>DN' f (fun e=>n' e rfl) fun _ q=>D' rfl (D' rfl (D' rfl (DN' q (fun e=>n' e rfl) fun _ t=>D' rfl (D' rfl (D' rfl (D' rfl (R' (E:=E17') t))))))))))))
noncomputable def Dec.exact.j0 (b:Int) (c:Int) (d:List Int):Option (Int × ByteArray × Int) :=
 Option.bind (Dec.big.digits d) fun a =>
 Option.bind (Strs.TrimRight a ⟨#[48]⟩) fun e =>
 letk ((a.size:Int)) fun f =>
 letk (IntKind.i64.wrap (f + c)) fun g =>
 some (b,e,g)
noncomputable def Dec.exact (d:Int) (e:Int):Option (Int × ByteArray × Int) :=
 Option.bind (Flt.Parts d e) fun (b,f,a,_) =>
 Option.bind (Strconv.Itoa f) fun g =>
 Option.bind (Dec.whole g) fun c =>
 letk (decide (a ≥ (0:Int))) fun h =>
 bif h then
 Option.bind (Dec.big.power c 2 a) fun i =>
 Dec.exact.j0 b 0 i
 else
 letk (IntKind.i64.wrap (0 - a)) fun j =>
 Option.bind (Dec.big.power c 5 j) fun k =>
 Dec.exact.j0 b a k
abbrev E18':Int × ByteArray × Int → AV:=fun r=>(.tup [.lit (.int .i64 r.1),.lit (.string r.2.1),.lit (.int .i64 r.2.2)])
theorem Dec.exact_ok {e:Int} {f:Int} {r:Int × ByteArray × Int} (g:Dec.exact e f = some r):Gives Tryz.prog 31 [.lit (.int .i64 e),.lit (.int .i64 f)] (.tup [.lit (.int .i64 r.1),.lit (.string r.2.1),.lit (.int .i64 r.2.2)]):=by
 unfold Dec.exact at g
 refine W' [(0,7)] Tryz.func31 ?_
 obtain ⟨⟨h,_,_,_⟩,j,k⟩:=bind_elim g
 refine Gate.go (Z' (Flt.Parts_ok j) (Gate.go (A' k Strconv.Itoa_ok fun _ l=>Gate.go (A' l Dec.whole_ok fun _ m=>CutN.of (fun s=>∃ a b,Dec.exact.j0 h a b = some r ∧ s = ⟨40,[(4,.lit (.int .i64 h)),(8,.lit (.int .i64 a)),(10,VI' b)],[]⟩) ?_ ?_))))
 refine C' m (fun c=>N' c fun _ d=>Gate.go (A' d Dec.big.power_ok fun _ n=>?_)) fun c=>Gate.go (A' c Dec.big.power_ok fun _ d=>?_)
 exact B' [] ⟨_,_,n,rfl⟩
 exact B' [] ⟨_,_,d,rfl⟩
 rintro s ⟨a,b,i,rfl⟩
 unfold Dec.exact.j0 at i
 exact Gate.go (A' i Dec.big.digits_ok fun _ o=>Gate.go (A' o Strs.TrimRight_ok fun _ p=>N' p fun _ q=>N' q fun _ t=>R' (E:=E18') t))
noncomputable def Dec.away.j1 (b:ByteArray) (a:Int) (c:Bool):Option Bool :=
 chk (0 ≤ a ∧ a < (b.size:Int)) <|
 letk (bt b a) fun d =>
 letk (decide (d > (53:Int))) fun e =>
 bif e then
 some true
 else
 letk (IntKind.i64.wrap (a + (1:Int))) fun f =>
 letk ((b.size:Int)) fun g =>
 letk (decide (f < g)) fun h =>
 bif h then
 some true
 else
 some c
noncomputable def Dec.away.j0 (a:ByteArray) (b:Int):Option Bool :=
 letk (decide (b > (0:Int))) fun d =>
 bif d then
 letk (IntKind.i64.wrap (b - (1:Int))) fun c =>
 chk (0 ≤ c ∧ c < (a.size:Int)) <|
 letk (bt a c) fun e =>
 letk (IntKind.u8.wrap (e - (48:Int))) fun f =>
 chk ((2:Int) ≠ 0) <|
 letk (f.tmod (2:Int)) fun g =>
 letk (g == (1:Int)) fun h =>
 Dec.away.j1 a b h
 else
 Dec.away.j1 a b false
noncomputable def Dec.away (c:Int) (d:Int) (b:ByteArray) (a:Int):Option Bool :=
 letk ((b.size:Int)) fun e =>
 letk (decide (a ≥ e)) fun f =>
 bif f then
 some false
 else
 letk (c == (0:Int)) fun g =>
 bif g then
 letk (decide (a < (0:Int))) fun h =>
 bif h then
 some false
 else
 chk (0 ≤ a ∧ a < (b.size:Int)) <|
 letk (bt b a) fun i =>
 letk (decide (i < (53:Int))) fun j =>
 bif j then
 some false
 else
 Dec.away.j0 b a
 else
 letk (c == (2:Int)) fun k =>
 bif k then
 letk (d == (1:Int)) fun l =>
 some l
 else
 letk (c == (3:Int)) fun m =>
 bif m then
 letk (d == (0:Int)) fun n =>
 some n
 else
 some false
theorem Dec.away_ok {p:Int} {q:Int} {b:ByteArray} {c:Int} {r:Bool} (t:Dec.away p q b c = some r):Gives Tryz.prog 32 [.lit (.int .i64 p),.lit (.int .i64 q),.lit (.string b),.lit (.int .i64 c)] (.lit (.bool r)):=by
 unfold Dec.away at t
 refine W' [(0,7),(0,8)] Tryz.func32 ?_
 refine N' t fun _ u=>C' u (fun i=>C' i (fun j=>C' j (fun a=>C' a (fun d=>R' (E:=E1') d) fun d=>N' d fun _ v=>R' (E:=E1') v) fun a=>N' a fun _ k=>R' (E:=E1') k) fun j=>CutN.of (fun s=>Dec.away.j0 b c = some r ∧ s = ⟨58,[(2,.lit (.string b)),(3,.lit (.int .i64 c))],[]⟩) ?_ ?_) fun i=>R' (E:=E1') i
 refine C' j (fun a=>S' a fun k=>N' k fun _ d=>C' d (fun l=>?_) fun l=>R' (E:=E1') l) fun a=>R' (E:=E1') a
 exact B' [] ⟨l,rfl⟩
 rintro s ⟨e,rfl⟩
 unfold Dec.away.j0 at e
 refine CutN.of (fun s=>∃ m,Dec.away.j1 b c m = some r ∧ s = ⟨58,[(2,.lit (.string b)),(3,.lit (.int .i64 c)),(9,.lit (.bool m))],[]⟩) ?_ ?_
 refine C' e (fun f=>?_) fun f=>N' f fun _ w=>S' w fun g=>N' g fun _ n=>N' n fun _ o=>S' o fun x=>N' x fun _ h=>N' h fun _ y=>?_
 exact B' [] ⟨_,f,rfl⟩
 exact B' [] ⟨_,y,rfl⟩
 rintro s ⟨m,e,rfl⟩
 unfold Dec.away.j1 at e
 exact S' e fun z=>N' z fun _ f=>C' f (fun g=>N' g fun _ n=>N' n fun _ o=>C' o (fun h=>R' (E:=E1') h) fun h=>R' (E:=E1') h) fun g=>R' (E:=E1') g
noncomputable def Dec.cut.s0 (b:List Int) (a:Int):Option (((List Int) × Int) ⊕ ByteArray) :=
 letk (decide (a ≥ (0:Int))) fun f =>
 bif f then
 chk (0 ≤ a ∧ a < (b.length:Int)) <|
 letk (0 + a.toNat) fun g =>
 Option.bind (b[g]?) fun h =>
 letk (decide (h < (57:Int))) fun i =>
 bif i then
 chk (0 ≤ a ∧ a < (b.length:Int)) <|
 letk (0 + a.toNat) fun j =>
 Option.bind (b[j]?) fun k =>
 letk (IntKind.u8.wrap (k + (1:Int))) fun m =>
 chk (0 ≤ a ∧ a < (b.length:Int)) <|
 letk (0 + a.toNat) fun c =>
 Option.bind (b[c]?) fun _ =>
 letk (b.set c m) fun n =>
 letk (ofInts n) fun o =>
 some (.inr o)
 else
 chk (0 ≤ a ∧ a < (b.length:Int)) <|
 letk (0 + a.toNat) fun d =>
 Option.bind (b[d]?) fun _ =>
 letk (b.set d 48) fun l =>
 letk (IntKind.i64.wrap (a - (1:Int))) fun p =>
 some (.inl (l,p))
 else
 ((
 letk (ofInts b) fun e =>
 chk ((((⟨#[49]⟩:ByteArray).size + e.size:Nat):Int) ≤ 9223372036854775807) <|
 letk ((⟨#[49]⟩:ByteArray) ++ e) fun q =>
 some q)).map .inr
noncomputable def Dec.cut.l0 (a:List Int) (b:Int):Option ByteArray:=loopO (fun v:(List Int) × Int=>Dec.cut.s0 v.1 v.2) (a,b)
noncomputable def Dec.cut.j0 (a:Int) (b:ByteArray) (d:Bool):Option ByteArray :=
 chk (0 ≤ a ∧ a ≤ (b.size:Int)) <|
 letk (b.extract 0 a.toNat) fun c =>
 letk (!d) fun e =>
 bif e then
 some c
 else
 letk (bytesI c) fun f =>
 letk (IntKind.i64.wrap (a - (1:Int))) fun g =>
 Dec.cut.l0 f g
noncomputable def Dec.cut (a:ByteArray) (c:Int) (d:Bool):Option ByteArray :=
 letk (if 0 > c then 0 else c) fun b =>
 letk ((a.size:Int)) fun f =>
 letk (decide (b > f)) fun g =>
 bif g then
 letk ((a.size:Int)) fun h =>
 letk (IntKind.i64.wrap (b - h)) fun i =>
 Option.bind (Strs.Repeat ⟨#[48]⟩ i) fun e =>
 chk (((a.size + e.size:Nat):Int) ≤ 9223372036854775807) <|
 letk (a ++ e) fun j =>
 Dec.cut.j0 b j d
 else
 Dec.cut.j0 b a d
theorem Dec.cut_ok {u:ByteArray} {w:Int} {x:Bool} {r:ByteArray} (y:Dec.cut u w x = some r):Gives Tryz.prog 63 [.lit (.string u),.lit (.int .i64 w),.lit (.bool x)] (.lit (.string r)):=by
 unfold Dec.cut at y
 refine W' [(0,4)] Tryz.func63 ?_
 refine N' y fun z h1=>CutN.of (fun s=>∃ d e,Dec.cut.j0 z d e = some r ∧ s = ⟨55,[(0,.lit (.string d)),(1,.lit (.int .i64 z)),(2,.lit (.bool e))],[]⟩) ?_ ?_
 refine N' h1 fun _ h2=>C' h2 (fun f=>?_) fun f=>N' f fun _ h5=>N' h5 fun _ h6=>Gate.go (A' h6 Strs.Repeat_ok fun _ h7=>S' h7 fun h8=>N' h8 fun _ h9=>?_)
 exact B' [] ⟨_,_,f,rfl⟩
 exact B' [] ⟨_,_,h9,rfl⟩
 rintro s ⟨d,e,aa,rfl⟩
 unfold Dec.cut.j0 at aa
 refine S' aa fun ag=>N' ag fun _ ah=>C' ah (fun g=>?_) fun g=>R' (E:=E4') g
 obtain ⟨ab,ai,aj⟩:=letk_elim g
 refine Nm.mk ⟨ab.map (eI .u8),by rw [ai]; exact bytesI_map _,?_⟩
 refine N' aj fun ak ac=>?_
 unfold Dec.cut.l0 at ac
 refine LoopB.of (σ:=(List Int) × Int) (ρ:=ByteArray) (fun v:(List Int) × Int=>Dec.cut.s0 v.1 v.2) (fun v=>(⟨55,[(7,.ref 0 0 ((v.1.map (eI .u8)).length)),(8,.lit (.int .i64 v.2))],[.arr 1 (v.1.map (eI .u8))]⟩:St)) (ab,ak) ac (B' [0] rfl) ?_
 rintro _ ⟨b,i8⟩ x1 c al ad
 replace c:Dec.cut.s0 b i8 = some x1:=c
 unfold Dec.cut.s0 at c
 refine C' c (fun h=>?_) fun h=>?_
 obtain ⟨_,am,i⟩:=map_elim h
 have i:=(ad _ i.symm).symm
 subst i
 obtain ⟨an,ao,ap⟩:=letk_elim am
 refine Side.mk ⟨full_le _,one_map (fun _ _ a=>by simp only [AV.cells,List.mem_singleton] at a; subst a; rfl)⟩ ?_
 refine BytesN.mk ⟨b,map_takeAll _ _,?_⟩
 refine Nm.mk ⟨an,ao,?_⟩
 exact S' ap fun aq=>N' aq fun _ ar=>R' (E:=E4') ar
 obtain ⟨au,av⟩:=chk_elim h
 obtain ⟨aw,ax,ay⟩:=letk_elim av
 refine Side.mk (by simpa only [List.length_map] using au) ?_
 refine Nm.mk ⟨aw,ax,?_⟩
 obtain ⟨_,az,ba⟩:=bind_elim ay
 refine At.by az ?_
 refine C' ba (fun j=>?_) fun j=>?_
 obtain ⟨k,m⟩:=chk_elim j
 obtain ⟨bb,bc,n⟩:=letk_elim m
 refine Side.mk (by simpa only [List.length_map] using k) ?_
 refine Nm.mk ⟨bb,bc,?_⟩
 obtain ⟨_,bd,o⟩:=bind_elim n
 obtain ⟨l,el,p⟩:=letk_elim o
 refine At.by bd ?_
 refine Side.mk ⟨Nat.le_of_ble_eq_true rfl,rfl⟩ ?_
 refine Nm.mk ⟨l.map (eI .u8),by rw [el,List.map_set]; rfl,?_⟩
 rw [show (b.map (eI .u8)).length = (l.map (eI .u8)).length from by rw [el,List.length_map,List.length_map,List.length_set]]
 refine N' p fun _ q=>?_
 exact B' [0] ⟨_,al _ (Option.some.inj q).symm,rfl⟩
 obtain ⟨k,m⟩:=chk_elim j
 obtain ⟨be,bf,n⟩:=letk_elim m
 refine Side.mk (by simpa only [List.length_map] using k) ?_
 refine Nm.mk ⟨be,bf,?_⟩
 obtain ⟨_,bg,o⟩:=bind_elim n
 refine At.by bg ?_
 refine N' o fun _ p=>?_
 obtain ⟨bh,q⟩:=chk_elim p
 obtain ⟨bi,bj,bk⟩:=letk_elim q
 refine Side.mk (by simpa only [List.length_map] using bh) ?_
 refine Nm.mk ⟨bi,bj,?_⟩
 obtain ⟨_,bl,bm⟩:=bind_elim bk
 obtain ⟨t,ae,bn⟩:=letk_elim bm
 refine At.by bl ?_
 refine Side.mk ⟨Nat.le_of_ble_eq_true rfl,rfl⟩ ?_
 refine Nm.mk ⟨t.map (eI .u8),by rw [ae,List.map_set]; rfl,?_⟩
 rw [show (b.map (eI .u8)).length = (t.map (eI .u8)).length from by rw [ae,List.length_map,List.length_map,List.length_set]]
 obtain ⟨af,bo,bp⟩:=letk_elim bn
 refine Side.mk ⟨full_le _,one_map (fun _ _ a=>by simp only [AV.cells,List.mem_singleton] at a; subst a; rfl)⟩ ?_
 refine BytesN.mk ⟨t,map_takeAll _ _,?_⟩
 refine Nm.mk ⟨af,bo,?_⟩
 have bq:=ad _ (Option.some.inj bp).symm
 subst bq
 exact Returns.pure (r:=.lit (.string af)) rfl rfl rfl rfl ⟨rfl,rfl⟩
noncomputable def Dec.to (d:ByteArray) (c:Int) (a:Int) (e:Bool):Option (ByteArray × Int) :=
 Option.bind (Dec.cut d a e) fun b =>
 letk ((b.size:Int)) fun f =>
 letk (decide (f > a)) fun g =>
 bif g then
 chk (0 ≤ a ∧ a ≤ (b.size:Int)) <|
 letk (b.extract 0 a.toNat) fun h =>
 letk (IntKind.i64.wrap (c + (1:Int))) fun i =>
 some (h,i)
 else
 some (b,c)
abbrev E19':ByteArray × Int → AV:=fun r=>(.tup [.lit (.string r.1),.lit (.int .i64 r.2)])
theorem Dec.to_ok {b:ByteArray} {c:Int} {d:Int} {e:Bool} {r:ByteArray × Int} (f:Dec.to b c d e = some r):Gives Tryz.prog 33 [.lit (.string b),.lit (.int .i64 c),.lit (.int .i64 d),.lit (.bool e)] (.tup [.lit (.string r.1),.lit (.int .i64 r.2)]):=by
 unfold Dec.to at f
 refine W' [] Tryz.func33 ?_
 exact Gate.go (A' f Dec.cut_ok fun _ g=>N' g fun _ h=>C' h (fun a=>R' (E:=E19') a) fun a=>S' a fun i=>N' i fun _ j=>N' j fun _ k=>R' (E:=E19') k)
noncomputable def Dec.Shortest.j0 (d:Int) (e:Int) (f:ByteArray) (g:Int) (h:Int) (_:Int) (a:Int) (i:Int) (j:Bool) (k:List Bool):Option ((Int × (List Bool) × Int) ⊕ ((Int × Int) ⊕ (Int × ByteArray × Int × Int))) :=
 Option.bind (Dec.to f g h j) fun (b,c) =>
 Option.bind (Dec.round d 0 a b c) fun (l,_,_) =>
 letk (l == e) fun m =>
 bif m then
 some (.inr (.inr (a,b,c,0)))
 else
 letk (IntKind.i64.wrap (i + (1:Int))) fun n =>
 some (.inl (a,k,n))
noncomputable def Dec.Shortest.s1 (g:Int) (h:Int) (e:ByteArray) (i:Int) (c:Int) (f:Int) (d:Int) (b:List Bool) (a:Int):Option ((Int × (List Bool) × Int) ⊕ ((Int × Int) ⊕ (Int × ByteArray × Int × Int))) :=
 letk (decide (a < f)) fun j =>
 bif j then
 chk (0 ≤ a ∧ a < (b.length:Int)) <|
 letk (0 + a.toNat) fun k =>
 Option.bind (b[k]?) fun l =>
 bif l then
 letk ((e.size:Int)) fun m =>
 letk (decide (c ≥ m)) fun n =>
 bif n then
 letk (IntKind.i64.wrap (a + (1:Int))) fun o =>
 some (.inl (d,b,o))
 else
 Dec.Shortest.j0 g h e i c f d a true b
 else
 Dec.Shortest.j0 g h e i c f d a false b
 else
 ((
 letk (IntKind.i64.wrap (c + (1:Int))) fun p =>
 some (.inl (d,p)))).map .inr
noncomputable def Dec.Shortest.l1 (a:Int) (b:Int) (c:ByteArray) (d:Int) (e:Int) (f:Int) (g:Int) (h:List Bool) (i:Int):Option ((Int × Int) ⊕ (Int × ByteArray × Int × Int)):=loopO (fun v:Int × (List Bool) × Int=>Dec.Shortest.s1 a b c d e f v.1 v.2.1 v.2.2) (g,h,i)
theorem Dec.Shortest.l1_eq (kind0:Int) (a1:Int) (t24_1:ByteArray) (t24_2:Int) (n10:Int) (t40:Int) (sign4_1:Int) (t39:List Bool) (t41:Int):Dec.Shortest.l1 kind0 a1 t24_1 t24_2 n10 t40 sign4_1 t39 t41 = (Dec.Shortest.s1 kind0 a1 t24_1 t24_2 n10 t40 sign4_1 t39 t41).bind (Sum.elim (fun v=>Dec.Shortest.l1 kind0 a1 t24_1 t24_2 n10 t40 v.1 v.2.1 v.2.2) some):=loopO_eq _ _
noncomputable def Dec.Shortest.s0 (g:Int) (h:Int) (a:ByteArray) (e:Int) (b:Int) (c:Int):Option ((Int × Int) ⊕ (Int × ByteArray × Int × Int)) :=
 letk (decide (c < (17:Int))) fun i =>
 bif i then
 Option.bind (Dec.away 0 b a c) fun d =>
 letk (!d) fun f =>
 letk ((([d,f]).length:Int)) fun j =>
 Dec.Shortest.l1 g h a e c j b ([d,f]) 0
 else
 ((
 Option.bind (Dec.away 0 b a 17) fun k =>
 Option.bind (Dec.to a e 17 k) fun (l,m) =>
 some (b,l,m,0)):Option (Int × ByteArray × Int × Int)).map .inr
noncomputable def Dec.Shortest.l0 (a:Int) (b:Int) (c:ByteArray) (d:Int) (e:Int) (f:Int):Option (Int × ByteArray × Int × Int):=loopO (fun v:Int × Int=>Dec.Shortest.s0 a b c d v.1 v.2) (e,f)
theorem Dec.Shortest.l0_eq (kind0:Int) (a1:Int) (t24_1:ByteArray) (t24_2:Int) (sign4:Int) (n10:Int):Dec.Shortest.l0 kind0 a1 t24_1 t24_2 sign4 n10 = (Dec.Shortest.s0 kind0 a1 t24_1 t24_2 sign4 n10).bind (Sum.elim (fun v=>Dec.Shortest.l0 kind0 a1 t24_1 t24_2 v.1 v.2) some):=loopO_eq _ _
noncomputable def Dec.Shortest (a:Int) (b:Int):Option (Int × ByteArray × Int × Int) :=
 Option.bind (Dec.isFinite a b) fun c =>
 letk (!c) fun d =>
 bif d then
 some (0,⟨#[]⟩,0,2)
 else
 Option.bind (Dec.exact a b) fun (e,f,g) =>
 Dec.Shortest.l0 a b f g e 1
abbrev E20':Int × ByteArray × Int × Int → AV:=fun r=>(.tup [.lit (.int .i64 r.1),.lit (.string r.2.1),.lit (.int .i64 r.2.2.1),.lit (.int .i64 r.2.2.2)])
theorem Dec.Shortest_ok {a:Int} {b:Int} {r:Int × ByteArray × Int × Int} (x:Dec.Shortest a b = some r):Gives Tryz.prog 11 [.lit (.int .i64 a),.lit (.int .i64 b)] (.tup [.lit (.int .i64 r.1),.lit (.string r.2.1),.lit (.int .i64 r.2.2.1),.lit (.int .i64 r.2.2.2)]):=by
 unfold Dec.Shortest at x
 refine W' [(0,12)] Tryz.func11 ?_
 refine Gate.go (A' x Dec.isFinite_ok fun _ h1=>C' h1 (fun k=>?_) fun k=>R' (E:=E20') k)
 obtain ⟨⟨ai,c,d⟩,aj,y⟩:=bind_elim k
 refine Gate.go (Z' (Dec.exact_ok aj) ?_)
 unfold Dec.Shortest.l0 at y
 refine LoopB.of (σ:=Int × Int) (ρ:=Int × ByteArray × Int × Int) (fun v:Int × Int=>Dec.Shortest.s0 a b c d v.1 v.2) (fun v=>(⟨88,[(0,.lit (.int .i64 a)),(1,.lit (.int .i64 b)),(4,.lit (.int .i64 v.1)),(8,.lit (.string c)),(9,.lit (.int .i64 d)),(10,.lit (.int .i64 v.2))],[]⟩:St)) (ai,1) y (B' [] rfl) ?_
 rintro _ ⟨z,e⟩ x1 g ak aa
 replace g:Dec.Shortest.s0 a b c d z e = some x1:=g
 unfold Dec.Shortest.s0 at g
 refine C' g (fun l=>?_) fun l=>Gate.go (A' l Dec.away_ok fun ab al=>N' al fun ac am=>Gate.go (Nm.mk ⟨([ab,ac]).map (eB),rfl,?_⟩))
 obtain ⟨_,an,m⟩:=map_elim l
 have m:=(aa _ m.symm).symm
 subst m
 refine Gate.go (A' an Dec.away_ok fun _ ao=>?_)
 obtain ⟨⟨_,_⟩,ap,aq⟩:=bind_elim ao
 exact Gate.go (Z' (Dec.to_ok ap) (R' (E:=E20') aq))
 obtain ⟨f,ar,ad⟩:=letk_elim am
 refine Nm.mk ⟨f,by rw [ar,List.length_map],?_⟩
 unfold Dec.Shortest.l1 at ad
 refine LoopB.of (σ:=Int × (List Bool) × Int) (ρ:=(Int × Int) ⊕ (Int × ByteArray × Int × Int)) (fun v:Int × (List Bool) × Int=>Dec.Shortest.s1 a b c d e f v.1 v.2.1 v.2.2) (fun v=>(⟨88,[(0,.lit (.int .i64 a)),(1,.lit (.int .i64 b)),(4,.lit (.int .i64 v.1)),(8,.lit (.string c)),(9,.lit (.int .i64 d)),(10,.lit (.int .i64 e)),(39,.ref 0 0 ((v.2.1.map (eB)).length)),(40,.lit (.int .i64 f)),(41,.lit (.int .i64 v.2.2))],[.arr 1 (v.2.1.map (eB))]⟩:St)) (z,[ab,ac],0) ad (B' [0] rfl) ?_
 rintro _ ⟨h,au,n⟩ x2 i ae af
 replace i:Dec.Shortest.s1 a b c d e f h au n = some x2:=i
 unfold Dec.Shortest.s1 at i
 refine C' i (fun o=>?_) fun o=>?_
 obtain ⟨_,av,p⟩:=map_elim o
 have p:=(af _ p.symm).symm
 subst p
 refine N' av fun _ aw=>?_
 exact B' [] ⟨_,ak _ (Option.some.inj aw).symm,rfl⟩
 obtain ⟨ax,ay⟩:=chk_elim o
 obtain ⟨az,ba,bb⟩:=letk_elim ay
 refine Side.mk (by simpa only [List.length_map] using ax) ?_
 refine Nm.mk ⟨az,ba,?_⟩
 obtain ⟨bc,bd,ag⟩:=bind_elim bb
 refine At.by bd ?_
 refine CutN.of (fun s=>∃ q j,Dec.Shortest.j0 a b c d e f h n q j = some x2 ∧ s = ⟨88,[(0,.lit (.int .i64 a)),(1,.lit (.int .i64 b)),(4,.lit (.int .i64 h)),(8,.lit (.string c)),(9,.lit (.int .i64 d)),(10,.lit (.int .i64 e)),(13,.lit (.bool q)),(39,.ref 0 0 ((j.map (eB)).length)),(40,.lit (.int .i64 f)),(41,.lit (.int .i64 n))],[.arr 1 (j.map (eB))]⟩) ?_ ?_
 rcases bc with _ | _
 have t:=bif_f ag
 exact B' [0] ⟨_,_,t,rfl⟩
 have t:=bif_t ag
 refine N' t fun _ be=>C' be (fun u=>?_) fun u=>N' u fun _ bf=>?_
 exact B' [0] ⟨_,_,u,rfl⟩
 exact B' [0] ⟨_,ae _ (Option.some.inj bf).symm,rfl⟩
 rintro s ⟨q,j,ah,rfl⟩
 unfold Dec.Shortest.j0 at ah
 obtain ⟨⟨bg,bh⟩,bi,bj⟩:=bind_elim ah
 refine Gate.go (Z' (Dec.to_ok bi) ?_)
 obtain ⟨⟨_,_,_⟩,bk,bl⟩:=bind_elim bj
 refine Gate.go (Z' (Dec.round_ok bk) (C' bl (fun w=>N' w fun _ bm=>?_) fun w=>?_))
 exact B' [0] ⟨_,ae _ (Option.some.inj bm).symm,rfl⟩
 have bn:=af _ (Option.some.inj w).symm
 have bo:=aa _ bn.symm
 subst bo
 exact Returns.pure (r:=.tup [.lit (.int .i64 h),.lit (.string bg),.lit (.int .i64 bh),.lit (.int .i64 0)]) rfl rfl rfl rfl ⟨rfl,rfl⟩
noncomputable def Dec.parts (a:Int) (b:Int):Option (Int × ByteArray × Int) :=
 Option.bind (Dec.isFinite a b) fun c =>
 bif c then
 Option.bind (Dec.exact a b) fun (d,e,f) =>
 some (d,e,f)
 else
 Option.bind (Flt.Parts a b) fun (g,_,_,_) =>
 some (g,⟨#[]⟩,0)
theorem Dec.parts_ok {c:Int} {d:Int} {r:Int × ByteArray × Int} (e:Dec.parts c d = some r):Gives Tryz.prog 42 [.lit (.int .i64 c),.lit (.int .i64 d)] (.tup [.lit (.int .i64 r.1),.lit (.string r.2.1),.lit (.int .i64 r.2.2)]):=by
 unfold Dec.parts at e
 refine W' [] Tryz.func42 ?_
 refine Gate.go (A' e Dec.isFinite_ok fun g f=>?_)
 rcases g with _ | _
 have a:=bif_f f
 obtain ⟨⟨_,_,_,_⟩,h,b⟩:=bind_elim a
 exact Gate.go (Z' (Flt.Parts_ok h) (R' (E:=E18') b))
 have a:=bif_t f
 obtain ⟨⟨_,_,_⟩,i,b⟩:=bind_elim a
 exact Gate.go (Z' (Dec.exact_ok i) (R' (E:=E18') b))
noncomputable def Dec.minus (a:Int):Option ByteArray :=
 letk (a == (1:Int)) fun b =>
 bif b then
 some ⟨#[45]⟩
 else
 some ⟨#[]⟩
theorem Dec.minus_ok {b:Int} {r:ByteArray} (c:Dec.minus b = some r):Gives Tryz.prog 43 [.lit (.int .i64 b)] (.lit (.string r)):=by
 unfold Dec.minus at c
 refine W' [] Tryz.func43 ?_
 exact C' c (fun a=>R' (E:=E4') a) fun a=>R' (E:=E4') a
noncomputable def Dec.Plain.j0 (k:Int) (a:Int) (c:ByteArray):Option (ByteArray × Int) :=
 letk (IntKind.i64.wrap (a + (1:Int))) fun l =>
 letk ((c.size:Int)) fun m =>
 letk (IntKind.i64.wrap (l - m)) fun d =>
 letk (if d > 0 then d else 0) fun n =>
 Option.bind (Strs.Repeat ⟨#[48]⟩ n) fun e =>
 chk (((c.size + e.size:Nat):Int) ≤ 9223372036854775807) <|
 letk (c ++ e) fun b =>
 Option.bind (Dec.minus k) fun f =>
 chk (0 ≤ a ∧ a ≤ (b.size:Int)) <|
 letk (b.extract 0 a.toNat) fun g =>
 chk (((f.size + g.size:Nat):Int) ≤ 9223372036854775807) <|
 letk (f ++ g) fun h =>
 chk (((h.size + (⟨#[46]⟩:ByteArray).size:Nat):Int) ≤ 9223372036854775807) <|
 letk (h ++ (⟨#[46]⟩:ByteArray)) fun i =>
 chk (0 ≤ a ∧ a ≤ (b.size:Int)) <|
 letk (b.extract a.toNat b.size) fun j =>
 chk (((i.size + j.size:Nat):Int) ≤ 9223372036854775807) <|
 letk (i ++ j) fun o =>
 some (o,0)
noncomputable def Dec.Plain.j1 (c:Int) (b:Int) (a:ByteArray) (s:Bool):Option (ByteArray × Int) :=
 bif s then
 Option.bind (Dec.minus c) fun d =>
 chk (0 ≤ (1:Int) ∧ (1:Int) ≤ (a.size:Int)) <|
 letk (a.extract 0 ((1:Int).toNat)) fun e =>
 chk (((d.size + e.size:Nat):Int) ≤ 9223372036854775807) <|
 letk (d ++ e) fun f =>
 chk (((f.size + (⟨#[46]⟩:ByteArray).size:Nat):Int) ≤ 9223372036854775807) <|
 letk (f ++ (⟨#[46]⟩:ByteArray)) fun g =>
 chk (0 ≤ (1:Int) ∧ (1:Int) ≤ (a.size:Int)) <|
 letk (a.extract (1:Int).toNat a.size) fun h =>
 chk (((g.size + h.size:Nat):Int) ≤ 9223372036854775807) <|
 letk (g ++ h) fun i =>
 letk ((a.size:Int)) fun t =>
 letk (IntKind.i64.wrap (t - (1:Int))) fun j =>
 letk (if j < 1 then j else 1) fun u =>
 letk (IntKind.i64.wrap ((1:Int) - u)) fun v =>
 Option.bind (Strs.Repeat ⟨#[48]⟩ v) fun k =>
 chk (((i.size + k.size:Nat):Int) ≤ 9223372036854775807) <|
 letk (i ++ k) fun l =>
 chk (((l.size + (⟨#[69]⟩:ByteArray).size:Nat):Int) ≤ 9223372036854775807) <|
 letk (l ++ (⟨#[69]⟩:ByteArray)) fun m =>
 letk (IntKind.i64.wrap (b - (1:Int))) fun w =>
 Option.bind (Strconv.Itoa w) fun n =>
 chk (((m.size + n.size:Nat):Int) ≤ 9223372036854775807) <|
 letk (m ++ n) fun x =>
 some (x,0)
 else
 letk (decide (b ≤ (0:Int))) fun y =>
 bif y then
 Option.bind (Dec.minus c) fun o =>
 chk (((o.size + (⟨#[48,46]⟩:ByteArray).size:Nat):Int) ≤ 9223372036854775807) <|
 letk (o ++ (⟨#[48,46]⟩:ByteArray)) fun p =>
 letk (IntKind.i64.wrap (0 - b)) fun z =>
 Option.bind (Strs.Repeat ⟨#[48]⟩ z) fun q =>
 chk (((p.size + q.size:Nat):Int) ≤ 9223372036854775807) <|
 letk (p ++ q) fun r =>
 chk (((r.size + a.size:Nat):Int) ≤ 9223372036854775807) <|
 letk (r ++ a) fun aa =>
 some (aa,0)
 else
 Dec.Plain.j0 c b a
noncomputable def Dec.Plain (a:Int) (b:Int):Option (ByteArray × Int) :=
 Option.bind (Flt.Valid a b) fun g =>
 letk (!g) fun h =>
 bif h then
 some (⟨#[]⟩,2)
 else
 Option.bind (Dec.special a b) fun (i,j) =>
 bif j then
 some (i,0)
 else
 Option.bind (Dec.Shortest a b) fun (d,k,c,l) =>
 letk (l != (0:Int)) fun m =>
 bif m then
 Option.bind (Dec.parts a b) fun (n,_,_) =>
 Option.bind (Dec.minus n) fun e =>
 chk (((e.size + (⟨#[48,46,48]⟩:ByteArray).size:Nat):Int) ≤ 9223372036854775807) <|
 letk (e ++ (⟨#[48,46,48]⟩:ByteArray)) fun o =>
 some (o,0)
 else
 Option.bind (Strs.TrimRight k ⟨#[48]⟩) fun f =>
 letk (decide (c < ((-3):Int))) fun p =>
 bif p then
 Dec.Plain.j1 d c f true
 else
 letk (decide (c > (9:Int))) fun q =>
 Dec.Plain.j1 d c f q
theorem Dec.Plain_ok {af:Int} {a1:Int} {r:ByteArray × Int} (h0:Dec.Plain af a1 = some r):Gives Tryz.prog 13 [.lit (.int .i64 af),.lit (.int .i64 a1)] (.tup [.lit (.string r.1),.lit (.int .i64 r.2)]):=by
 unfold Dec.Plain at h0
 refine W' [(0,15),(56,25)] Tryz.func13 ?_
 refine Gate.go (A' h0 Flt.Valid_ok fun _ h1=>C' h1 (fun p=>?_) fun p=>R' (E:=E19') p)
 obtain ⟨⟨_,ai⟩,aj,h4⟩:=bind_elim p
 refine Gate.go (Z' (Dec.special_ok aj) ?_)
 rcases ai with _ | _
 have q:=bif_f h4
 obtain ⟨⟨l,_,m,_⟩,ak,h6⟩:=bind_elim q
 refine Gate.go (Z' (Dec.Shortest_ok ak) (C' h6 (fun t=>Gate.go (A' t Strs.TrimRight_ok fun n u=>CutN.of (fun s=>Dec.Plain.j0 l m n = some r ∧ s = ⟨106,[(8,.lit (.int .i64 l)),(9,.lit (.string n)),(10,.lit (.int .i64 m))],[]⟩) ?_ ?_)) fun t=>?_))
 refine CutN.of (fun s=>∃ o,Dec.Plain.j1 l m n o = some r ∧ s = ⟨106,[(8,.lit (.int .i64 l)),(9,.lit (.string n)),(10,.lit (.int .i64 m)),(46,.lit (.bool o))],[]⟩) ?_ ?_
 refine C' u (fun b=>N' b fun _ v=>?_) fun b=>?_
 exact B' [] ⟨_,v,rfl⟩
 exact B' [] ⟨_,b,rfl⟩
 rintro s ⟨o,a,rfl⟩
 unfold Dec.Plain.j1 at a
 rcases o with _ | _
 have d:=bif_f a
 refine C' d (fun f=>?_) fun f=>Gate.go (A' f Dec.minus_ok fun _ g=>?_)
 exact B' [] ⟨f,rfl⟩
 obtain ⟨al,w⟩:=chk_elim g
 obtain ⟨am,an,h⟩:=letk_elim w
 refine Side.mk al ?_
 refine Nm.mk ⟨am,an,?_⟩
 refine N' h fun _ x=>Gate.go (A' x Strs.Repeat_ok fun _ i=>?_)
 obtain ⟨y,z⟩:=chk_elim i
 obtain ⟨ao,ap,j⟩:=letk_elim z
 refine Side.mk y ?_
 refine Nm.mk ⟨ao,ap,?_⟩
 obtain ⟨aa,ab⟩:=chk_elim j
 obtain ⟨aq,ar,k⟩:=letk_elim ab
 refine Side.mk aa ?_
 refine Nm.mk ⟨aq,ar,?_⟩
 exact R' (E:=E19') k
 have d:=bif_t a
 refine L' [] [8,9,10] ?_
 refine DrawB.ofG [none,none,none,none,none,none,none,none,none,none,none,none,none,none,none,none,none,none,none,none,none,none,none] Tryz_mixed (by kernel_rfl) (by kernel_rfl) ?_
 refine D' rfl (DC' d (fun e=>Z' (Dec.minus_ok e) rfl) fun _ ac=>D' rfl (DS' ac (fun c e=>Side.mk c (n' e rfl)) fun _ g=>DS' g (fun c e=>Side.mk c (n' e rfl)) fun _ h=>DS' h (fun c e=>Side.mk c (n' e rfl)) fun _ i=>D' rfl ?_))
 obtain ⟨y,z⟩:=chk_elim i
 obtain ⟨ag,au,j⟩:=letk_elim z
 refine DNodeB.of (.lit (.string ag)) ?_ ?_
 refine Side.mk y ?_
 refine Nm.mk ⟨ag,au,?_⟩
 rfl
 obtain ⟨aa,ab⟩:=chk_elim j
 obtain ⟨ah,av,k⟩:=letk_elim ab
 refine DNodeB.of (.lit (.string ah)) ?_ ?_
 refine Side.mk aa ?_
 refine Nm.mk ⟨ah,av,?_⟩
 rfl
 exact D' rfl (DN' k (fun e=>n' e rfl) fun _ aw=>DN' aw (fun e=>n' e rfl) fun _ ad=>DN' ad (fun e=>n' e rfl) fun _ ax=>DN' ax (fun e=>n' e rfl) fun _ ae=>DC' ae (fun e=>Z' (Strs.Repeat_ok e) rfl) fun _ ay=>DS' ay (fun c e=>Side.mk c (n' e rfl)) fun _ az=>DS' az (fun c e=>Side.mk c (n' e rfl)) fun _ ba=>D' rfl (DN' ba (fun e=>n' e rfl) fun _ bb=>DC' bb (fun e=>Z' (Strconv.Itoa_ok e) rfl) fun _ bc=>DS' bc (fun c e=>Side.mk c (n' e rfl)) fun _ bd=>D' rfl (D' rfl (R' (E:=E19') bd))))
 rintro s ⟨a,rfl⟩
 unfold Dec.Plain.j0 at a
 refine N' a fun _ d=>N' d fun _ ac=>N' ac fun _ f=>N' f fun _ g=>Gate.go (A' g Strs.Repeat_ok fun _ w=>S' w fun h=>N' h fun _ x=>L' [] [8,9,10] ?_)
 refine DrawB.ofG [none,none,none,none,none,none,none,none,none,none,none,none,none] Tryz_mixed (by kernel_rfl) (by kernel_rfl) ?_
 exact D' rfl (DC' x (fun e=>Z' (Dec.minus_ok e) rfl) fun _ i=>D' rfl (D' rfl (DS' i (fun c e=>Side.mk c (n' e rfl)) fun _ j=>DS' j (fun c e=>Side.mk c (n' e rfl)) fun _ k=>DS' k (fun c e=>Side.mk c (n' e rfl)) fun _ ad=>D' rfl (D' rfl (DS' ad (fun c e=>Side.mk c (n' e rfl)) fun _ ae=>DS' ae (fun c e=>Side.mk c (n' e rfl)) fun _ be=>D' rfl (D' rfl (R' (E:=E19') be)))))))
 obtain ⟨⟨_,_,_⟩,bf,u⟩:=bind_elim t
 exact Gate.go (Z' (Dec.parts_ok bf) (Gate.go (A' u Dec.minus_ok fun _ bg=>S' bg fun b=>N' b fun _ v=>R' (E:=E19') v)))
 have q:=bif_t h4
 exact R' (E:=E19') q
noncomputable def Law2.Awake :Option Bool :=
 Option.bind (Dec.Read ⟨#[48,46,49]⟩ 8 0) fun (a,_,b) =>
 Option.bind (Dec.Plain 8 a) fun (c,d) =>
 Option.bind (Dec.Read ⟨#[49,101,50,50]⟩ 8 0) fun (e,_,f) =>
 Option.bind (Dec.Plain 8 e) fun (g,h) =>
 letk (b == (0:Int)) fun i =>
 bif i then
 letk (d == (0:Int)) fun j =>
 bif j then
 letk (c.toList == (⟨#[48,46,49]⟩:ByteArray).toList) fun k =>
 bif k then
 letk (f == (0:Int)) fun l =>
 bif l then
 letk (h == (0:Int)) fun m =>
 bif m then
 letk (g.toList == (⟨#[49,46,48,69,50,50]⟩:ByteArray).toList) fun n =>
 some n
 else
 some false
 else
 some false
 else
 some false
 else
 some false
 else
 some false
theorem Law2.Awake_ok {r:Bool} (f:Law2.Awake = some r):Gives Tryz.prog 15 [] (.lit (.bool r)):=by
 unfold Law2.Awake at f
 refine W' [] Tryz.func15 ?_
 obtain ⟨⟨_,_,_⟩,g,h⟩:=bind_elim f
 refine Gate.go (Z' (Dec.Read_ok g) ?_)
 obtain ⟨⟨_,_⟩,i,j⟩:=bind_elim h
 refine Gate.go (Z' (Dec.Plain_ok i) ?_)
 obtain ⟨⟨_,_,_⟩,k,l⟩:=bind_elim j
 refine Gate.go (Z' (Dec.Read_ok k) ?_)
 obtain ⟨⟨_,_⟩,m,n⟩:=bind_elim l
 exact Gate.go (Z' (Dec.Plain_ok m) (C' n (fun a=>R' (E:=E1') a) fun a=>C' a (fun b=>R' (E:=E1') b) fun b=>C' b (fun c=>R' (E:=E1') c) fun c=>C' c (fun d=>R' (E:=E1') d) fun d=>C' d (fun e=>R' (E:=E1') e) fun e=>N' e fun _ o=>R' (E:=E1') o))
noncomputable def Ref1.IsMode (a:Int):Option Bool :=
 letk (decide (a ≥ (0:Int))) fun b =>
 bif b then
 letk (decide (a ≤ (3:Int))) fun c =>
 some c
 else
 some false
noncomputable def Ref1.asked (a:Int) (b:Int) (c:Int) (d:Int):Option Bool :=
 Option.bind (Ref1.IsMode b) fun e =>
 bif e then
 Option.bind (Ref1.Valid a c) fun f =>
 bif f then
 Option.bind (Ref1.Valid a d) fun g =>
 some g
 else
 some false
 else
 some false
end Go.Q
