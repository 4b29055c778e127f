import Derived.Test.YtmfhkipeapdfmaaGreatDoorDG4
import Derived.Test.YtmfhkipeapdfmaaGreatDoorFX
import Derived.Test.YtmfhkipeapdfmaaGreatDoorFY
import Derived.Test.YtmfhkipeapdfmaaGreatDoorProg
namespace Go.Q
open Go Go.Proofs
set_option maxRecDepth 10000
set_option maxHeartbeats 2000000
noncomputable def Ref1.all (a:Int):Option Int :=
 letk (IntKind.i64.wrap ((8:Int) * a)) fun c =>
 Option.bind (Ref1.Digits a) fun d =>
 letk (IntKind.i64.wrap (c - d)) fun b =>
 chk (0 ≤ b) <|
 letk (IntKind.i64.wrap ((1:Int) * 2 ^ (min b.toNat (IntKind.i64).bits))) fun e =>
 letk (IntKind.i64.wrap (e - (1:Int))) fun f =>
 some f
theorem Ref1.all_ok {a:Int} {r:Int} (b:Ref1.all a = some r):Gives Tryz.prog 65 [.lit (.int .i64 a)] (.lit (.int .i64 r)):=by
 unfold Ref1.all at b
 refine W' [] Tryz.func65 ?_
 exact N' b fun i c=>Gate.go (A' c Ref1.Digits_ok fun j d=>N' d fun k e=>S' e fun f=>N' f fun l g=>N' g fun m h=>R' (E:=E2') h)
noncomputable def Ref1.bits (a:Int) (d:Int) (e:Int) (f:Int):Option Int :=
 Option.bind (Ref1.Digits a) fun g =>
 letk (IntKind.u64.wrap d) fun h =>
 letk (IntKind.i64.wrap ((8:Int) * a)) fun i =>
 letk (IntKind.i64.wrap (i - (1:Int))) fun b =>
 chk (0 ≤ b) <|
 letk (IntKind.u64.wrap (h * 2 ^ (min b.toNat (IntKind.u64).bits))) fun j =>
 letk (IntKind.u64.wrap e) fun k =>
 letk (IntKind.i64.wrap (g - (1:Int))) fun c =>
 chk (0 ≤ c) <|
 letk (IntKind.u64.wrap (k * 2 ^ (min c.toNat (IntKind.u64).bits))) fun l =>
 letk (IntKind.u64.wrap (BitVec.ofInt (IntKind.u64).bits j ||| BitVec.ofInt (IntKind.u64).bits l).toNat) fun m =>
 letk (IntKind.u64.wrap f) fun n =>
 letk (IntKind.u64.wrap (BitVec.ofInt (IntKind.u64).bits m ||| BitVec.ofInt (IntKind.u64).bits n).toNat) fun o =>
 letk (IntKind.i64.wrap o) fun p =>
 some p
theorem Ref1.bits_ok {a:Int} {b:Int} {d:Int} {f:Int} {r:Int} (g:Ref1.bits a b d f = some r):Gives Tryz.prog 64 [.lit (.int .i64 a),.lit (.int .i64 b),.lit (.int .i64 d),.lit (.int .i64 f)] (.lit (.int .i64 r)):=by
 unfold Ref1.bits at g
 refine W' [] Tryz.func64 ?_
 refine Gate.go (A' g Ref1.Digits_ok fun u h=>L' [] [0,1,2,3,9] ?_)
 refine DrawB.ofG [none,none,none,none,none,none,none,none,none,none,none,none,none,none,none,none,none] Tryz_mixed (by kernel_rfl) (by kernel_rfl) ?_
 exact D' rfl (DN' h (fun e=>n' e rfl) fun v i=>D' rfl (DN' i (fun e=>n' e rfl) fun w j=>DN' j (fun e=>n' e rfl) fun x k=>DS' k (fun c e=>Side.mk c (n' e rfl)) fun y l=>D' rfl (DN' l (fun e=>n' e rfl) fun z m=>D' rfl (DN' m (fun e=>n' e rfl) fun aa n=>DS' n (fun c e=>Side.mk c (n' e rfl)) fun ab o=>DN' o (fun e=>n' e rfl) fun ac p=>D' rfl (DN' p (fun e=>n' e rfl) fun ad q=>DN' q (fun e=>n' e rfl) fun ae s=>DN' s (fun e=>n' e rfl) fun af t=>D' rfl (R' (E:=E2') t))))))
noncomputable def Ref1.Quiet (a:Int):Option Int :=
 Option.bind (Ref1.all a) fun c =>
 Option.bind (Ref1.Digits a) fun d =>
 letk (IntKind.i64.wrap (d - (2:Int))) fun b =>
 chk (0 ≤ b) <|
 letk (IntKind.i64.wrap ((1:Int) * 2 ^ (min b.toNat (IntKind.i64).bits))) fun e =>
 Option.bind (Ref1.bits a 0 c e) fun f =>
 some f
theorem Ref1.Quiet_ok {a:Int} {r:Int} (b:Ref1.Quiet a = some r):Gives Tryz.prog 26 [.lit (.int .i64 a)] (.lit (.int .i64 r)):=by
 unfold Ref1.Quiet at b
 refine W' [] Tryz.func26 ?_
 exact Gate.go (A' b Ref1.all_ok fun i c=>Gate.go (A' c Ref1.Digits_ok fun j d=>N' d fun k e=>S' e fun f=>N' f fun l g=>Gate.go (A' g Ref1.bits_ok fun m h=>R' (E:=E2') h)))
noncomputable def Dec.Power.j1 (l:Int) (m:Int) (b:ByteArray) (a:ByteArray) (c:ByteArray):Option (ByteArray × Int) :=
 Option.bind (Dec.minus m) fun d =>
 chk (((d.size + (⟨#[48,46]⟩:ByteArray).size:Nat):Int) ≤ 9223372036854775807) <|
 letk (d ++ (⟨#[48,46]⟩:ByteArray)) fun e =>
 chk (((e.size + b.size:Nat):Int) ≤ 9223372036854775807) <|
 letk (e ++ b) fun f =>
 chk (((f.size + (⟨#[69]⟩:ByteArray).size:Nat):Int) ≤ 9223372036854775807) <|
 letk (f ++ (⟨#[69]⟩:ByteArray)) fun g =>
 chk (((g.size + c.size:Nat):Int) ≤ 9223372036854775807) <|
 letk (g ++ c) fun h =>
 letk ((a.size:Int)) fun n =>
 letk (IntKind.i64.wrap (l - n)) fun i =>
 letk (if i > 0 then i else 0) fun o =>
 Option.bind (Strs.Repeat ⟨#[48]⟩ o) fun j =>
 chk (((h.size + j.size:Nat):Int) ≤ 9223372036854775807) <|
 letk (h ++ j) fun k =>
 chk (((k.size + a.size:Nat):Int) ≤ 9223372036854775807) <|
 letk (k ++ a) fun p =>
 some (p,0)
noncomputable def Dec.Power.j0 (c:Int) (k:Int) (d:Int) (e:Int) (f:Int):Option (ByteArray × Int) :=
 Option.bind (Dec.special c d) fun (l,m) =>
 bif m then
 some (l,0)
 else
 Option.bind (Dec.parts c d) fun (b,g,n) =>
 Option.bind (Dec.away k b g e) fun o =>
 Option.bind (Dec.to g n e o) fun (h,a) =>
 letk (IntKind.i64.wrap (0 - a)) fun i =>
 letk (if i > a then i else a) fun p =>
 Option.bind (Strconv.Itoa p) fun j =>
 letk (decide (a < (0:Int))) fun q =>
 bif q then
 Dec.Power.j1 f b h j (⟨#[45]⟩)
 else
 Dec.Power.j1 f b h j (⟨#[43]⟩)
noncomputable def Dec.Power (a:Int) (d:Int) (e:Int) (b:Int) (c:Int):Option (ByteArray × Int) :=
 Option.bind (Dec.isKind a d) fun f =>
 letk (!f) fun g =>
 bif g then
 some (⟨#[]⟩,2)
 else
 Option.bind (Flt.Valid a e) fun h =>
 letk (!h) fun i =>
 bif i then
 some (⟨#[]⟩,2)
 else
 letk (decide (b < (1:Int))) fun j =>
 bif j then
 some (⟨#[]⟩,2)
 else
 letk (decide (b > (40:Int))) fun k =>
 bif k then
 some (⟨#[]⟩,2)
 else
 letk (decide (c < (2:Int))) fun l =>
 bif l then
 some (⟨#[]⟩,2)
 else
 letk (decide (c > (4:Int))) fun m =>
 bif m then
 some (⟨#[]⟩,2)
 else
 Dec.Power.j0 a d e b c
theorem Dec.Power_ok {e:Int} {f:Int} {g:Int} {h:Int} {a:Int} {r:ByteArray × Int} (y:Dec.Power e f g h a = some r):Gives Tryz.prog 27 [.lit (.int .i64 e),.lit (.int .i64 f),.lit (.int .i64 g),.lit (.int .i64 h),.lit (.int .i64 a)] (.tup [.lit (.string r.1),.lit (.int .i64 r.2)]):=by
 unfold Dec.Power at y
 refine W' [(0,3),(0,12)] Tryz.func27 ?_
 refine CutN.of (fun s=>Dec.Power.j0 e f g h a = some r ∧ s = ⟨96,[(0,.lit (.int .i64 e)),(1,.lit (.int .i64 f)),(2,.lit (.int .i64 g)),(3,.lit (.int .i64 h)),(4,.lit (.int .i64 a))],[]⟩) ?_ ?_
 refine Gate.go (A' y Dec.isKind_ok fun ao h1=>C' h1 (fun j=>Gate.go (A' j Flt.Valid_ok fun ap h4=>C' h4 (fun k=>C' k (fun l=>C' l (fun m=>C' m (fun n=>C' n (fun o=>?_) fun o=>R' (E:=E19') o) fun n=>R' (E:=E19') n) fun m=>R' (E:=E19') m) fun l=>R' (E:=E19') l) fun k=>R' (E:=E19') k)) fun j=>R' (E:=E19') j)
 exact B' [] ⟨o,rfl⟩
 rintro s ⟨b,rfl⟩
 unfold Dec.Power.j0 at b
 obtain ⟨⟨aq,ac⟩,ad,i⟩:=bind_elim b
 refine Gate.go (Z' (Dec.special_ok ad) ?_)
 rcases ac with _ | _
 have c:=bif_f i
 obtain ⟨⟨z,ar,au⟩,ae,p⟩:=bind_elim c
 refine Gate.go (Z' (Dec.parts_ok ae) (Gate.go (A' p Dec.away_ok fun av q=>?_)))
 obtain ⟨⟨aa,aw⟩,af,t⟩:=bind_elim q
 refine Gate.go (Z' (Dec.to_ok af) (N' t fun ax u=>N' u fun ay v=>Gate.go (A' v Strconv.Itoa_ok fun ab w=>CutN.of (fun s=>∃ x,Dec.Power.j1 a z aa ab x = some r ∧ s = ⟨96,[(4,.lit (.int .i64 a)),(14,.lit (.int .i64 z)),(15,.lit (.string aa)),(17,.lit (.string ab)),(18,.lit (.string x))],[]⟩) ?_ ?_)))
 refine C' w (fun d=>?_) fun d=>?_
 exact B' [] ⟨_,d,rfl⟩
 exact B' [] ⟨_,d,rfl⟩
 rintro s ⟨x,b,rfl⟩
 unfold Dec.Power.j1 at b
 exact Gate.go (A' b Dec.minus_ok fun az i=>S' i fun c=>N' c fun ba p=>S' p fun q=>N' q fun bb t=>S' t fun u=>N' u fun bc v=>S' v fun w=>N' w fun bd ag=>N' ag fun be d=>N' d fun bf ah=>N' ah fun bg ai=>Gate.go (A' ai Strs.Repeat_ok fun bh aj=>S' aj fun ak=>N' ak fun bi al=>S' al fun am=>N' am fun bj an=>R' (E:=E19') an))
 have c:=bif_t i
 exact R' (E:=E19') c
noncomputable def Law2.DecimalBack.j1 (a:Int) (b:Int):Option Bool :=
 letk (a == (2:Int)) fun f =>
 bif f then
 Option.bind (Dec.Power a 0 b 5 2) fun (g,h) =>
 Option.bind (Dec.Read g a 0) fun (i,ba,j) =>
 Option.bind (Dec.Shortest a b) fun (bb,c,bc,k) =>
 letk (h == (0:Int)) fun l =>
 bif l then
 letk (j == (0:Int)) fun m =>
 bif m then
 letk (i == b) fun n =>
 bif n then
 letk (k == (0:Int)) fun o =>
 bif o then
 letk ((c.size:Int)) fun p =>
 letk (decide (p ≥ (1:Int))) fun q =>
 bif q then
 letk ((c.size:Int)) fun r =>
 letk (decide (r ≤ (5:Int))) fun s =>
 bif s then
 Option.bind (Law2.Awake) fun t =>
 some t
 else
 some false
 else
 some false
 else
 some false
 else
 some false
 else
 some false
 else
 some false
 else
 letk (a == (4:Int)) fun u =>
 bif u then
 Option.bind (Dec.Power a 0 b 9 2) fun (v,w) =>
 Option.bind (Dec.Read v a 0) fun (x,bd,y) =>
 Option.bind (Dec.Shortest a b) fun (be,d,bf,z) =>
 letk (w == (0:Int)) fun aa =>
 bif aa then
 letk (y == (0:Int)) fun ab =>
 bif ab then
 letk (x == b) fun ac =>
 bif ac then
 letk (z == (0:Int)) fun ad =>
 bif ad then
 letk ((d.size:Int)) fun ae =>
 letk (decide (ae ≥ (1:Int))) fun af =>
 bif af then
 letk ((d.size:Int)) fun ag =>
 letk (decide (ag ≤ (9:Int))) fun ah =>
 bif ah then
 Option.bind (Law2.Awake) fun ai =>
 some ai
 else
 some false
 else
 some false
 else
 some false
 else
 some false
 else
 some false
 else
 some false
 else
 letk (a == (8:Int)) fun aj =>
 bif aj then
 Option.bind (Dec.Power a 0 b 17 2) fun (ak,al) =>
 Option.bind (Dec.Read ak a 0) fun (am,bg,an) =>
 Option.bind (Dec.Shortest a b) fun (bh,e,bi,ao) =>
 letk (al == (0:Int)) fun ap =>
 bif ap then
 letk (an == (0:Int)) fun aq =>
 bif aq then
 letk (am == b) fun ar =>
 bif ar then
 letk (ao == (0:Int)) fun au =>
 bif au then
 letk ((e.size:Int)) fun av =>
 letk (decide (av ≥ (1:Int))) fun aw =>
 bif aw then
 letk ((e.size:Int)) fun ax =>
 letk (decide (ax ≤ (17:Int))) fun ay =>
 bif ay then
 Option.bind (Law2.Awake) fun az =>
 some az
 else
 some false
 else
 some false
 else
 some false
 else
 some false
 else
 some false
 else
 some false
 else
 none
noncomputable def Law2.DecimalBack.j2 (a:Int) (b:Int) (c:Int) (d:Bool):Option Bool :=
 bif d then
 letk (c == (0:Int)) fun e =>
 bif e then
 Option.bind (Law2.Awake) fun f =>
 some f
 else
 some false
 else
 Law2.DecimalBack.j1 a b
noncomputable def Law2.DecimalBack.j0 (a:Int) (b:Int) (c:Int) (d:Int):Option Bool :=
 Option.bind (Ref1.Class a b) fun f =>
 letk (f.toList == (⟨#[110,111,110,101]⟩:ByteArray).toList) fun g =>
 bif g then
 Option.bind (Ref1.Quiet a) fun h =>
 letk (c == h) fun i =>
 bif i then
 Option.bind (Law2.Awake) fun j =>
 some j
 else
 some false
 else
 letk (c != b) fun k =>
 bif k then
 some false
 else
 Option.bind (Ref1.Class a b) fun e =>
 letk (e.toList == (⟨#[122,101,114,111]⟩:ByteArray).toList) fun l =>
 bif l then
 Law2.DecimalBack.j2 a b d true
 else
 letk (e.toList == (⟨#[105,110,102,105,110,105,116,101]⟩:ByteArray).toList) fun m =>
 Law2.DecimalBack.j2 a b d m
noncomputable def Law2.DecimalBack (a:Int) (b:Int):Option Bool :=
 Option.bind (Ref1.Valid a b) fun c =>
 letk (!c) fun d =>
 bif d then
 Option.bind (Dec.Plain a b) fun (o,e) =>
 letk (e == (2:Int)) fun f =>
 bif f then
 Option.bind (Law2.Awake) fun g =>
 some g
 else
 some false
 else
 Option.bind (Dec.Plain a b) fun (h,i) =>
 Option.bind (Dec.Read h a 0) fun (j,k,l) =>
 letk (i != (0:Int)) fun m =>
 bif m then
 some false
 else
 letk (l != (0:Int)) fun n =>
 bif n then
 some false
 else
 Law2.DecimalBack.j0 a b j k
theorem Law2.DecimalBack_ok {b:Int} {l:Int} {r:Bool} (h0:Law2.DecimalBack b l = some r):Gives Tryz.prog 9 [.lit (.int .i64 b),.lit (.int .i64 l)] (.lit (.bool r)):=by
 unfold Law2.DecimalBack at h0
 refine W' [(0,8),(0,15),(89,29)] Tryz.func9 ?_
 refine Gate.go (A' h0 Ref1.Valid_ok fun bc h1=>C' h1 (fun h3=>?_) fun h3=>?_)
 obtain ⟨⟨bd,be⟩,ag,h4⟩:=bind_elim h3
 refine Gate.go (Z' (Dec.Plain_ok ag) ?_)
 obtain ⟨⟨ae,z,bf⟩,ah,h5⟩:=bind_elim h4
 refine Gate.go (Z' (Dec.Read_ok ah) (CutN.of (fun s=>Law2.DecimalBack.j0 b l ae z = some r ∧ s = ⟨140,[(0,.lit (.int .i64 b)),(1,.lit (.int .i64 l)),(9,.lit (.int .i64 ae)),(10,.lit (.int .i64 z))],[]⟩) ?_ ?_))
 refine C' h5 (fun o=>C' o (fun h9=>?_) fun h9=>R' (E:=E1') h9) fun o=>R' (E:=E1') o
 exact B' [] ⟨h9,rfl⟩
 rintro s ⟨h,rfl⟩
 unfold Law2.DecimalBack.j0 at h
 refine Gate.go (A' h Ref1.Class_ok fun bg m=>C' m (fun a=>C' a (fun g=>Gate.go (A' g Ref1.Class_ok fun bh c=>CutN.of (fun s=>Law2.DecimalBack.j1 b l = some r ∧ s = ⟨140,[(0,.lit (.int .i64 b)),(1,.lit (.int .i64 l))],[]⟩) ?_ ?_)) fun g=>R' (E:=E1') g) fun a=>Gate.go (A' a Ref1.Quiet_ok fun bi j=>C' j (fun c=>R' (E:=E1') c) fun c=>Gate.go (A' c Law2.Awake_ok fun bj k=>R' (E:=E1') k)))
 refine CutN.of (fun s=>∃ aa,Law2.DecimalBack.j2 b l z aa = some r ∧ s = ⟨140,[(0,.lit (.int .i64 b)),(1,.lit (.int .i64 l)),(10,.lit (.int .i64 z)),(79,.lit (.bool aa))],[]⟩) ?_ ?_
 refine C' c (fun p=>N' p fun bk d=>?_) fun p=>?_
 exact B' [] ⟨_,d,rfl⟩
 exact B' [] ⟨_,p,rfl⟩
 rintro s ⟨aa,h,rfl⟩
 unfold Law2.DecimalBack.j2 at h
 rcases aa with _ | _
 have m:=bif_f h
 exact B' [] ⟨m,rfl⟩
 have m:=bif_t h
 exact C' m (fun a=>R' (E:=E1') a) fun a=>Gate.go (A' a Law2.Awake_ok fun bl j=>R' (E:=E1') j)
 rintro s ⟨h,rfl⟩
 unfold Law2.DecimalBack.j1 at h
 refine MapB.of ?_
 refine ⟨SRM.start rfl rfl rfl (Nat.le_of_ble_eq_true rfl) ?_⟩
 refine SRM.ins (kind:=.int .i64) rfl rfl rfl (by decide) rfl rfl (.inr ⟨_,rfl⟩) (fun _=>rfl) (fun _=>rfl) rfl ?_
 refine SRM.ins (kind:=.int .i64) rfl rfl rfl (by decide) rfl rfl (.inr ⟨_,rfl⟩) (fun _=>rfl) (fun _=>rfl) rfl ?_
 refine SRM.ins (kind:=.int .i64) rfl rfl rfl (by decide) rfl rfl (.inr ⟨_,rfl⟩) (fun _=>rfl) (fun _=>rfl) rfl ?_
 refine SRM.mv (.inl rfl) rfl rfl (Nat.le_of_ble_eq_true rfl) (by decide) ?_
 refine SRM.op rfl (by decide) ?_
 refine ⟨rfl,?_⟩
 obtain ⟨ai,ab,m⟩:=letk_elim h
 rcases ai with _ | _
 have ac:=bif_f m
 obtain ⟨aj,af,a⟩:=letk_elim ac
 rcases aj with _ | _
 have j:=bif_f a
 obtain ⟨ak,al,g⟩:=letk_elim j
 rcases ak with _ | _
 have c:=bif_f g
 cases c
 have c:=bif_t g
 refine SRM.look (i:=2) (kind:=.int .i64) (v:=.int .i64 17) (av:=.lit (.int .i64 17)) rfl rfl (by decide) rfl rfl (.inr ⟨_,rfl⟩) rfl (fun _ _ _=>.lit _ _) ((findE_int .i64 b [(2,.int .i64 5),(4,.int .i64 9),(8,.int .i64 17)] 0).trans (congrArg some (by simp only [findI,← ab,← af,← al,cond]))) ?_
 obtain ⟨⟨bm,bn⟩,am,k⟩:=bind_elim c
 refine Gate.go (Z' (Dec.Power_ok am) ?_)
 obtain ⟨⟨bo,bp,bq⟩,an,p⟩:=bind_elim k
 refine Gate.go (Z' (Dec.Read_ok an) ?_)
 obtain ⟨⟨br,bs,bt,bu⟩,ao,d⟩:=bind_elim p
 exact Gate.go (Z' (Dec.Shortest_ok ao) (C' d (fun e=>R' (E:=E1') e) fun e=>C' e (fun f=>R' (E:=E1') f) fun f=>C' f (fun n=>R' (E:=E1') n) fun n=>C' n (fun q=>R' (E:=E1') q) fun q=>N' q fun bv t=>C' t (fun u=>R' (E:=E1') u) fun u=>N' u fun bw w=>C' w (fun ad=>R' (E:=E1') ad) fun ad=>Gate.go (A' ad Law2.Awake_ok fun bx ap=>R' (E:=E1') ap)))
 have j:=bif_t a
 refine SRM.look (i:=1) (kind:=.int .i64) (v:=.int .i64 9) (av:=.lit (.int .i64 9)) rfl rfl (by decide) rfl rfl (.inr ⟨_,rfl⟩) rfl (fun _ _ _=>.lit _ _) ((findE_int .i64 b [(2,.int .i64 5),(4,.int .i64 9),(8,.int .i64 17)] 0).trans (congrArg some (by simp only [findI,← ab,← af,cond]))) ?_
 obtain ⟨⟨bz,ca⟩,aq,g⟩:=bind_elim j
 refine Gate.go (Z' (Dec.Power_ok aq) ?_)
 obtain ⟨⟨cb,cc,cd⟩,ar,c⟩:=bind_elim g
 refine Gate.go (Z' (Dec.Read_ok ar) ?_)
 obtain ⟨⟨ce,cf,cg,ch⟩,au,k⟩:=bind_elim c
 exact Gate.go (Z' (Dec.Shortest_ok au) (C' k (fun d=>R' (E:=E1') d) fun d=>C' d (fun e=>R' (E:=E1') e) fun e=>C' e (fun f=>R' (E:=E1') f) fun f=>C' f (fun n=>R' (E:=E1') n) fun n=>N' n fun ci x=>C' x (fun t=>R' (E:=E1') t) fun t=>N' t fun cj y=>C' y (fun w=>R' (E:=E1') w) fun w=>Gate.go (A' w Law2.Awake_ok fun ck aw=>R' (E:=E1') aw)))
 have ac:=bif_t m
 refine SRM.look (i:=0) (kind:=.int .i64) (v:=.int .i64 5) (av:=.lit (.int .i64 5)) rfl rfl (by decide) rfl rfl (.inr ⟨_,rfl⟩) rfl (fun _ _ _=>.lit _ _) ((findE_int .i64 b [(2,.int .i64 5),(4,.int .i64 9),(8,.int .i64 17)] 0).trans (congrArg some (by simp only [findI,← ab,cond]))) ?_
 obtain ⟨⟨cl,cm⟩,ax,a⟩:=bind_elim ac
 refine Gate.go (Z' (Dec.Power_ok ax) ?_)
 obtain ⟨⟨cn,co,cp⟩,ay,j⟩:=bind_elim a
 refine Gate.go (Z' (Dec.Read_ok ay) ?_)
 obtain ⟨⟨cq,cr,cs,ct⟩,az,g⟩:=bind_elim j
 exact Gate.go (Z' (Dec.Shortest_ok az) (C' g (fun k=>R' (E:=E1') k) fun k=>C' k (fun d=>R' (E:=E1') d) fun d=>C' d (fun e=>R' (E:=E1') e) fun e=>C' e (fun f=>R' (E:=E1') f) fun f=>N' f fun cu ba=>C' ba (fun x=>R' (E:=E1') x) fun x=>N' x fun cv q=>C' q (fun y=>R' (E:=E1') y) fun y=>Gate.go (A' y Law2.Awake_ok fun cw u=>R' (E:=E1') u)))
 obtain ⟨⟨cx,cy⟩,bb,h4⟩:=bind_elim h3
 exact Gate.go (Z' (Dec.Plain_ok bb) (C' h4 (fun h6=>R' (E:=E1') h6) fun h6=>Gate.go (A' h6 Law2.Awake_ok fun cz o=>R' (E:=E1') o)))
end Go.Q
