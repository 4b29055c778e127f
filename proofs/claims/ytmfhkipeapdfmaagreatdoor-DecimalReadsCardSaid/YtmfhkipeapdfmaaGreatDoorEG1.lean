import Derived.Test.YtmfhkipeapdfmaaGreatDoorEGS
import Derived.Test.YtmfhkipeapdfmaaGreatDoorFX
import Derived.Test.YtmfhkipeapdfmaaGreatDoorFY
import Derived.Test.YtmfhkipeapdfmaaGreatDoorProg
namespace Go.Q
open Go Go.Proofs
set_option maxRecDepth 10000
set_option maxHeartbeats 2000000
noncomputable def Ref2.FormOf (a:Int):Option (quadratref02.Form × Bool) :=
 letk (a == (2:Int)) fun b =>
 bif b then
 some ((⟨11,5⟩:quadratref02.Form),true)
 else
 letk (a == (4:Int)) fun c =>
 bif c then
 some ((⟨24,8⟩:quadratref02.Form),true)
 else
 letk (a == (8:Int)) fun d =>
 bif d then
 some ((⟨53,11⟩:quadratref02.Form),true)
 else
 some ((⟨0,0⟩:quadratref02.Form),false)
abbrev E21':quadratref02.Form × Bool → AV:=fun r=>(.tup [quadratref02.Form.enc r.1,.lit (.bool r.2)])
theorem Ref2.FormOf_ok {d:Int} {r:quadratref02.Form × Bool} (e:Ref2.FormOf d = some r):Gives Tryz.prog 47 [.lit (.int .i64 d)] (.tup [quadratref02.Form.enc r.1,.lit (.bool r.2)]):=by
 unfold Ref2.FormOf at e
 refine W' [] Tryz.func47 ?_
 exact V' (C' e (fun a=>C' a (fun b=>C' b (fun c=>Gate.go (V' (V' (R' (E:=E21') c)))) fun c=>Gate.go (V' (V' (R' (E:=E21') c)))) fun b=>Gate.go (V' (V' (R' (E:=E21') b)))) fun a=>Gate.go (V' (V' (R' (E:=E21') a))))
noncomputable def Ref2.isDigit (a:Int):Option Bool :=
 letk (decide (a ≥ (48:Int))) fun b =>
 bif b then
 letk (decide (a ≤ (57:Int))) fun c =>
 some c
 else
 some false
theorem Ref2.isDigit_ok {b:Int} {r:Bool} (c:Ref2.isDigit b = some r):Gives Tryz.prog 111 [.lit (.int .u8 b)] (.lit (.bool r)):=by
 unfold Ref2.isDigit at c
 refine W' [] Tryz.func111 ?_
 exact C' c (fun a=>R' (E:=E1') a) fun a=>N' a fun e d=>R' (E:=E1') d
noncomputable def Ref2.exponent.j1 (b:ByteArray) (c:Int) (a:Int) (d:Bool):Option ((Bool × Int × Int) ⊕ (Int × Bool)) :=
 letk (IntKind.i64.wrap ((10:Int) * c)) fun e =>
 chk (0 ≤ a ∧ a < (b.size:Int)) <|
 letk (bt b a) fun f =>
 letk (IntKind.u8.wrap (f - (48:Int))) fun g =>
 letk (IntKind.i64.wrap g) fun h =>
 letk (IntKind.i64.wrap (e + h)) fun i =>
 letk (IntKind.i64.wrap (a + (1:Int))) fun j =>
 some (.inl (d,i,j))
noncomputable def Ref2.exponent.s0 (a:ByteArray) (d:Bool) (c:Int) (b:Int):Option ((Bool × Int × Int) ⊕ (Int × Bool)) :=
 letk ((a.size:Int)) fun e =>
 letk (decide (b < e)) fun f =>
 bif f then
 chk (0 ≤ b ∧ b < (a.size:Int)) <|
 letk (bt a b) fun g =>
 Option.bind (Ref2.isDigit g) fun h =>
 letk (!h) fun i =>
 bif i then
 some (.inr (0,false))
 else
 letk (b == (4:Int)) fun j =>
 bif j then
 some (.inr (0,false))
 else
 Ref2.exponent.j1 a c b d
 else
 ((
 bif d then
 letk (IntKind.i64.wrap (0 - c)) fun k =>
 letk (!(a.toList == (⟨#[]⟩:ByteArray).toList)) fun l =>
 some (k,l)
 else
 letk (!(a.toList == (⟨#[]⟩:ByteArray).toList)) fun m =>
 some (c,m))).map .inr
noncomputable def Ref2.exponent.l0 (a:ByteArray) (b:Bool) (c:Int) (d:Int):Option (Int × Bool):=loopO (fun v:Bool × Int × Int=>Ref2.exponent.s0 a v.1 v.2.1 v.2.2) (b,c,d)
noncomputable def Ref2.exponent.j0 (a:ByteArray) (b:Bool):Option (Int × Bool) :=
 Ref2.exponent.l0 a b 0 0
noncomputable def Ref2.exponent.j2 (a:ByteArray) (b:Bool):Option (Int × Bool) :=
 bif b then
 chk (0 ≤ (0:Int) ∧ (0:Int) < (a.size:Int)) <|
 letk (bt a (0:Int)) fun c =>
 letk (c == (45:Int)) fun d =>
 chk (0 ≤ (1:Int) ∧ (1:Int) ≤ (a.size:Int)) <|
 letk (a.extract (1:Int).toNat a.size) fun e =>
 Ref2.exponent.j0 e d
 else
 Ref2.exponent.j0 a false
noncomputable def Ref2.exponent (a:ByteArray):Option (Int × Bool) :=
 letk (!(a.toList == (⟨#[]⟩:ByteArray).toList)) fun b =>
 bif b then
 chk (0 ≤ (0:Int) ∧ (0:Int) < (a.size:Int)) <|
 letk (bt a (0:Int)) fun c =>
 letk (c == (43:Int)) fun d =>
 bif d then
 Ref2.exponent.j2 a true
 else
 chk (0 ≤ (0:Int) ∧ (0:Int) < (a.size:Int)) <|
 letk (bt a (0:Int)) fun e =>
 letk (e == (45:Int)) fun f =>
 Ref2.exponent.j2 a f
 else
 Ref2.exponent.j2 a false
abbrev E22':Int × Bool → AV:=fun r=>(.tup [.lit (.int .i64 r.1),.lit (.bool r.2)])
theorem Ref2.exponent_ok {s0:ByteArray} {r:Int × Bool} (h0:Ref2.exponent s0 = some r):Gives Tryz.prog 112 [.lit (.string s0)] (.tup [.lit (.int .i64 r.1),.lit (.bool r.2)]):=by
 unfold Ref2.exponent at h0
 refine W' [(0,5),(0,11),(28,7)] Tryz.func112 ?_
 refine CutN.of (fun s=>∃ b d,Ref2.exponent.j0 b d = some r ∧ s = ⟨53,[(0,.lit (.string b)),(4,.lit (.bool d))],[]⟩) ?_ ?_
 refine CutN.of (fun s=>∃ e,Ref2.exponent.j2 s0 e = some r ∧ s = ⟨53,[(0,.lit (.string s0)),(4,.lit (.bool false)),(18,.lit (.bool e))],[]⟩) ?_ ?_
 refine C' h0 (fun g=>?_) fun g=>S' g fun h3=>N' h3 fun ao h4=>C' h4 (fun h=>S' h fun h7=>N' h7 fun ap h8=>N' h8 fun aq h9=>?_) fun h=>?_
 exact B' [] ⟨_,g,rfl⟩
 exact B' [] ⟨_,h9,rfl⟩
 exact B' [] ⟨_,h,rfl⟩
 rintro s ⟨e,a,rfl⟩
 unfold Ref2.exponent.j2 at a
 rcases e with _ | _
 have c:=bif_f a
 exact B' [] ⟨_,_,c,rfl⟩
 have c:=bif_t a
 obtain ⟨ac,i⟩:=chk_elim c
 obtain ⟨ad,ae,j⟩:=letk_elim i
 refine Side.mk ac ?_
 refine Nm.mk ⟨ad,ae,?_⟩
 refine N' j fun ar k=>S' k fun l=>N' l fun au m=>?_
 exact B' [] ⟨_,_,m,rfl⟩
 rintro s ⟨b,d,a,rfl⟩
 unfold Ref2.exponent.j0 at a
 unfold Ref2.exponent.l0 at a
 refine LoopB.of (σ:=Bool × Int × Int) (ρ:=Int × Bool) (fun v:Bool × Int × Int=>Ref2.exponent.s0 b v.1 v.2.1 v.2.2) (fun v=>(⟨53,[(0,.lit (.string b)),(4,.lit (.bool v.1)),(5,.lit (.int .i64 v.2.1)),(6,.lit (.int .i64 v.2.2))],[]⟩:St)) (d,0,0) a (B' [] rfl) ?_
 rintro K1 ⟨aa,n,o⟩ x1 f af p
 replace f:Ref2.exponent.s0 b aa n o = some x1:=f
 unfold Ref2.exponent.s0 at f
 refine N' f fun av ag=>C' ag (fun q=>?_) fun q=>CutN.of (fun s=>∃ t,Ref2.exponent.j1 b n o t = some x1 ∧ s = ⟨53,[(0,.lit (.string b)),(4,.lit (.bool t)),(5,.lit (.int .i64 n)),(6,.lit (.int .i64 o))],[]⟩) ?_ ?_
 obtain ⟨aw,ab,u⟩:=map_elim q
 have u:=(p _ u.symm).symm
 subst u
 rcases aa with _ | _
 have w:=bif_f ab
 exact N' w fun ax x=>R' (E:=E22') x
 have w:=bif_t ab
 exact N' w fun ay x=>N' x fun az ah=>R' (E:=E22') ah
 refine S' q fun ai=>N' ai fun ba aj=>Gate.go (A' aj Ref2.isDigit_ok fun bb ak=>C' ak (fun y=>C' y (fun z=>?_) fun z=>?_) fun y=>?_)
 exact B' [] ⟨_,z,rfl⟩
 have al:=p _ (Option.some.inj z).symm
 subst al
 exact Returns.pure (r:=.tup [.lit (.int .i64 0),.lit (.bool false)]) rfl rfl rfl rfl ⟨rfl,rfl⟩
 have am:=p _ (Option.some.inj y).symm
 subst am
 exact Returns.pure (r:=.tup [.lit (.int .i64 0),.lit (.bool false)]) rfl rfl rfl rfl ⟨rfl,rfl⟩
 rintro s ⟨t,a,rfl⟩
 unfold Ref2.exponent.j1 at a
 refine N' a fun bc c=>S' c fun i=>N' i fun bd j=>N' j fun be k=>N' k fun bf l=>N' l fun bg m=>N' m fun bh an=>?_
 exact B' [] ⟨_,af _ (Option.some.inj an).symm,rfl⟩
noncomputable def Ref2.parse.j4 (a:ByteArray) (c:Int) (l:Int) (m:ByteArray) (n:Int) (o:ByteArray) (d:Int) (e:ByteArray) (f:Int) (g:ByteArray):Option (quadratref02.text × Bool) :=
 letk (IntKind.i64.wrap (c + (1:Int))) fun b =>
 chk (0 ≤ b ∧ b ≤ (a.size:Int)) <|
 letk (a.extract b.toNat a.size) fun h =>
 Option.bind (Ref2.exponent h) fun (i,j) =>
 letk (IntKind.i64.wrap (f + i)) fun k =>
 some ((⟨d,e,k,g⟩:quadratref02.text),j)
noncomputable def Ref2.parse.j5 (a:ByteArray) (b:Int) (c:Int) (d:ByteArray) (e:Int) (f:ByteArray) (g:Int) (h:ByteArray) (i:Int) (j:ByteArray) (k:Bool):Option (quadratref02.text × Bool) :=
 bif k then
 some ((⟨0,⟨#[]⟩,0,⟨#[]⟩⟩:quadratref02.text),false)
 else
 Ref2.parse.j4 a b c d e f g h i j
noncomputable def Ref2.parse.j3 (b:ByteArray) (a:Int) (g:Int) (h:ByteArray) (i:Int) (j:ByteArray) (c:Int) (d:ByteArray) (e:Int) (f:ByteArray):Option (quadratref02.text × Bool) :=
 letk ((b.size:Int)) fun l =>
 letk (a == l) fun m =>
 bif m then
 some ((⟨c,d,e,f⟩:quadratref02.text),true)
 else
 chk (0 ≤ a ∧ a < (b.size:Int)) <|
 letk (bt b a) fun k =>
 letk (k != (101:Int)) fun n =>
 bif n then
 letk (k != (69:Int)) fun o =>
 bif o then
 letk (k != (100:Int)) fun p =>
 bif p then
 letk (k != (68:Int)) fun q =>
 Ref2.parse.j5 b a g h i j c d e f q
 else
 Ref2.parse.j5 b a g h i j c d e f false
 else
 Ref2.parse.j5 b a g h i j c d e f false
 else
 Ref2.parse.j5 b a g h i j c d e f false
noncomputable def Ref2.parse.j6 (a:ByteArray) (b:Int) (c:Int) (d:ByteArray) (e:Int) (f:ByteArray) (g:Int) (h:ByteArray) (i:Int) (j:ByteArray) (k:Bool):Option (quadratref02.text × Bool) :=
 bif k then
 some ((⟨0,⟨#[]⟩,0,⟨#[]⟩⟩:quadratref02.text),false)
 else
 Ref2.parse.j3 a b c d e f g h i j
noncomputable def Ref2.parse.j2 (b:ByteArray) (c:Int) (d:ByteArray) (e:Int) (f:ByteArray) (g:Int) (a:ByteArray) (h:Int) (i:ByteArray) (j:Int):Option (quadratref02.text × Bool) :=
 letk ((a.size:Int)) fun k =>
 letk (k == (0:Int)) fun l =>
 bif l then
 Ref2.parse.j6 b j c d e f g a h i true
 else
 letk ((a.size:Int)) fun m =>
 letk (decide (m > (60:Int))) fun n =>
 Ref2.parse.j6 b j c d e f g a h i n
noncomputable def Ref2.parse.j7 (b:ByteArray) (a:Int) (c:Int) (d:ByteArray) (e:Int) (f:ByteArray) (g:Int) (h:ByteArray) (i:Int) (j:ByteArray) (n:Bool):Option ((Int × ByteArray × Int × ByteArray × Int × ByteArray × Int × ByteArray × Bool × Int) ⊕ (quadratref02.text × Bool)) :=
 chk (0 ≤ a ∧ a < (b.size:Int)) <|
 letk (bt b a) fun o =>
 letk (o == (46:Int)) fun p =>
 bif p then
 letk (IntKind.i64.wrap (a + (1:Int))) fun q =>
 some (.inl (c,d,e,f,g,h,i,j,true,q))
 else
 letk (IntKind.i64.wrap (a + (1:Int))) fun k =>
 chk (0 ≤ a ∧ a ≤ k ∧ k ≤ (b.size:Int)) <|
 letk (b.extract a.toNat k.toNat) fun l =>
 chk (((h.size + l.size:Nat):Int) ≤ 9223372036854775807) <|
 letk (h ++ l) fun m =>
 bif n then
 letk (IntKind.i64.wrap (i - (1:Int))) fun r =>
 letk (IntKind.i64.wrap (a + (1:Int))) fun s =>
 some (.inl (c,d,e,f,g,m,r,j,true,s))
 else
 letk (IntKind.i64.wrap (a + (1:Int))) fun t =>
 some (.inl (c,d,e,f,g,m,i,j,false,t))
noncomputable def Ref2.parse.s0 (b:ByteArray) (c:Int) (d:ByteArray) (e:Int) (f:ByteArray) (g:Int) (h:ByteArray) (i:Int) (j:ByteArray) (k:Bool) (a:Int):Option ((Int × ByteArray × Int × ByteArray × Int × ByteArray × Int × ByteArray × Bool × Int) ⊕ (quadratref02.text × Bool)) :=
 letk ((b.size:Int)) fun l =>
 letk (decide (a < l)) fun m =>
 bif m then
 chk (0 ≤ a ∧ a < (b.size:Int)) <|
 letk (bt b a) fun n =>
 Option.bind (Ref2.isDigit n) fun o =>
 bif o then
 Ref2.parse.j7 b a c d e f g h i j k
 else
 chk (0 ≤ a ∧ a < (b.size:Int)) <|
 letk (bt b a) fun p =>
 letk (p == (46:Int)) fun q =>
 bif q then
 letk (!k) fun r =>
 bif r then
 Ref2.parse.j7 b a c d e f g h i j k
 else
 (Ref2.parse.j2 b c d e f g h i j a).map .inr
 else
 (Ref2.parse.j2 b c d e f g h i j a).map .inr
 else
 (Ref2.parse.j2 b c d e f g h i j a).map .inr
noncomputable def Ref2.parse.l0 (a:ByteArray) (b:Int) (c:ByteArray) (d:Int) (e:ByteArray) (f:Int) (g:ByteArray) (h:Int) (i:ByteArray) (j:Bool) (k:Int):Option (quadratref02.text × Bool):=loopO (fun v:Int × ByteArray × Int × ByteArray × Int × ByteArray × Int × ByteArray × Bool × Int=>Ref2.parse.s0 a v.1 v.2.1 v.2.2.1 v.2.2.2.1 v.2.2.2.2.1 v.2.2.2.2.2.1 v.2.2.2.2.2.2.1 v.2.2.2.2.2.2.2.1 v.2.2.2.2.2.2.2.2.1 v.2.2.2.2.2.2.2.2.2) (b,c,d,e,f,g,h,i,j,k)
noncomputable def Ref2.parse.j1 (a:ByteArray) (b:Int) (c:ByteArray) (d:Int) (e:ByteArray) (f:Int) (g:ByteArray) (h:Int) (i:ByteArray):Option (quadratref02.text × Bool) :=
 Ref2.parse.l0 a b c d e f g h i false 0
noncomputable def Ref2.parse.j8 (a:ByteArray) (e:Int) (f:ByteArray) (g:Int) (h:ByteArray) (b:Int) (c:ByteArray) (d:Int) (i:ByteArray) (j:Bool):Option (quadratref02.text × Bool) :=
 bif j then
 some ((⟨b,c,d,a⟩:quadratref02.text),true)
 else
 Ref2.parse.j1 a e f g h b c d i
noncomputable def Ref2.parse.j0 (a:ByteArray) (b:Int) (c:ByteArray) (d:Int) (e:ByteArray) (f:Int) (g:ByteArray) (h:Int) (i:ByteArray):Option (quadratref02.text × Bool) :=
 letk (a.toList == (⟨#[105,110,102]⟩:ByteArray).toList) fun j =>
 bif j then
 Ref2.parse.j8 a b c d e f g h i true
 else
 letk (a.toList == (⟨#[110,97,110]⟩:ByteArray).toList) fun k =>
 Ref2.parse.j8 a b c d e f g h i k
noncomputable def Ref2.parse.j9 (a:ByteArray) (b:Bool):Option (quadratref02.text × Bool) :=
 bif b then
 chk (0 ≤ (0:Int) ∧ (0:Int) < (a.size:Int)) <|
 letk (bt a (0:Int)) fun c =>
 letk (c == (45:Int)) fun d =>
 bif d then
 chk (0 ≤ (1:Int) ∧ (1:Int) ≤ (a.size:Int)) <|
 letk (a.extract (1:Int).toNat a.size) fun e =>
 Ref2.parse.j0 e 0 (⟨#[]⟩) 0 (⟨#[]⟩) 1 (⟨#[]⟩) 0 (⟨#[]⟩)
 else
 chk (0 ≤ (1:Int) ∧ (1:Int) ≤ (a.size:Int)) <|
 letk (a.extract (1:Int).toNat a.size) fun f =>
 Ref2.parse.j0 f 0 (⟨#[]⟩) 0 (⟨#[]⟩) 0 (⟨#[]⟩) 0 (⟨#[]⟩)
 else
 Ref2.parse.j0 a 0 (⟨#[]⟩) 0 (⟨#[]⟩) 0 (⟨#[]⟩) 0 (⟨#[]⟩)
noncomputable def Ref2.parse (a:ByteArray):Option (quadratref02.text × Bool) :=
 letk (!(a.toList == (⟨#[]⟩:ByteArray).toList)) fun b =>
 bif b then
 chk (0 ≤ (0:Int) ∧ (0:Int) < (a.size:Int)) <|
 letk (bt a (0:Int)) fun c =>
 letk (c == (43:Int)) fun d =>
 bif d then
 Ref2.parse.j9 a true
 else
 chk (0 ≤ (0:Int) ∧ (0:Int) < (a.size:Int)) <|
 letk (bt a (0:Int)) fun e =>
 letk (e == (45:Int)) fun f =>
 Ref2.parse.j9 a f
 else
 Ref2.parse.j9 a false
abbrev E23':quadratref02.text × Bool → AV:=fun r=>(.tup [quadratref02.text.enc r.1,.lit (.bool r.2)])
theorem Ref2.parse_ok {s0:ByteArray} {r:quadratref02.text × Bool} (h0:Ref2.parse s0 = some r):Gives Tryz.prog 55 [.lit (.string s0)] (.tup [quadratref02.text.enc r.1,.lit (.bool r.2)]):=by
 unfold Ref2.parse at h0
 refine W' [(0,6),(0,9),(0,18),(0,20),(0,25),(119,49),(96,39),(1,1),(43,15),(31,7)] Tryz.func55 ?_
 refine V' (V' (CutN.of (fun s=>∃ b l m n o p q t u,Ref2.parse.j0 b l m n o p q t u = some r ∧ s = ⟨126,[(0,.lit (.string b)),(2,.ptr 0 0),(4,.ptr 1 0)],[.box [.lit (.int .i64 l),.lit (.string m),.lit (.int .i64 n),.lit (.string o)],.box [.lit (.int .i64 p),.lit (.string q),.lit (.int .i64 t),.lit (.string u)]]⟩) ?_ ?_))
 refine CutN.of (fun s=>∃ ap,Ref2.parse.j9 s0 ap = some r ∧ s = ⟨126,[(0,.lit (.string s0)),(2,.ptr 0 0),(4,.ptr 1 0),(21,.lit (.bool ap))],[.box [.lit (.int .i64 0),.lit (.string (⟨#[]⟩)),.lit (.int .i64 0),.lit (.string (⟨#[]⟩))],.box [.lit (.int .i64 0),.lit (.string (⟨#[]⟩)),.lit (.int .i64 0),.lit (.string (⟨#[]⟩))]]⟩) ?_ ?_
 refine C' h0 (fun h2=>?_) fun h2=>S' h2 fun h3=>N' h3 fun dz h4=>C' h4 (fun h6=>S' h6 fun h7=>N' h7 fun ea h8=>N' h8 fun eb h9=>?_) fun h6=>?_
 exact B' [0,1] ⟨_,h2,rfl⟩
 exact B' [0,1] ⟨_,h9,rfl⟩
 exact B' [0,1] ⟨_,h6,rfl⟩
 rintro s ⟨ap,a,rfl⟩
 unfold Ref2.parse.j9 at a
 rcases ap with _ | _
 have c:=bif_f a
 exact B' [0,1] ⟨_,_,_,_,_,_,_,_,_,c,rfl⟩
 have c:=bif_t a
 obtain ⟨ct,g⟩:=chk_elim c
 obtain ⟨cu,cv,d⟩:=letk_elim g
 refine Side.mk ct ?_
 refine Nm.mk ⟨cu,cv,?_⟩
 refine C' d (fun e=>?_) fun e=>V' ?_
 obtain ⟨w,x⟩:=chk_elim e
 obtain ⟨cw,cx,h⟩:=letk_elim x
 refine Side.mk w ?_
 refine Nm.mk ⟨cw,cx,?_⟩
 exact B' [0,1] ⟨_,_,_,_,_,_,_,_,_,h,rfl⟩
 obtain ⟨w,x⟩:=chk_elim e
 obtain ⟨cy,cz,h⟩:=letk_elim x
 refine Side.mk w ?_
 refine Nm.mk ⟨cy,cz,?_⟩
 exact B' [0,1] ⟨_,_,_,_,_,_,_,_,_,h,rfl⟩
 rintro s ⟨b,l,m,n,o,p,q,t,u,a,rfl⟩
 unfold Ref2.parse.j0 at a
 refine CutN.of (fun s=>∃ aq ar au av aw ax ay az,Ref2.parse.j1 b aq ar au av aw ax ay az = some r ∧ s = ⟨126,[(0,.lit (.string b)),(2,.ptr 0 0),(4,.ptr 1 0)],[.box [.lit (.int .i64 aq),.lit (.string ar),.lit (.int .i64 au),.lit (.string av)],.box [.lit (.int .i64 aw),.lit (.string ax),.lit (.int .i64 ay),.lit (.string az)]]⟩) ?_ ?_
 refine CutN.of (fun s=>∃ ba,Ref2.parse.j8 b l m n o p q t u ba = some r ∧ s = ⟨126,[(0,.lit (.string b)),(2,.ptr 0 0),(4,.ptr 1 0),(33,.lit (.bool ba))],[.box [.lit (.int .i64 l),.lit (.string m),.lit (.int .i64 n),.lit (.string o)],.box [.lit (.int .i64 p),.lit (.string q),.lit (.int .i64 t),.lit (.string u)]]⟩) ?_ ?_
 refine C' a (fun g=>N' g fun ec d=>?_) fun g=>?_
 exact B' [0,1] ⟨_,d,rfl⟩
 exact B' [0,1] ⟨_,g,rfl⟩
 rintro s ⟨ba,a,rfl⟩
 unfold Ref2.parse.j8 at a
 rcases ba with _ | _
 have c:=bif_f a
 exact B' [0,1] ⟨_,_,_,_,_,_,_,_,c,rfl⟩
 have c:=bif_t a
 exact V' (V' (R' (E:=E23') c))
 rintro s ⟨aq,ar,au,av,aw,ax,ay,az,a,rfl⟩
 unfold Ref2.parse.j1 at a
 refine CutN.of (fun s=>∃ bf bg bh bi bj bk bl bm f,Ref2.parse.j2 b bf bg bh bi bj bk bl bm f = some r ∧ s = ⟨126,[(0,.lit (.string b)),(2,.ptr 0 0),(4,.ptr 1 0),(6,.lit (.int .i64 f))],[.box [.lit (.int .i64 bf),.lit (.string bg),.lit (.int .i64 bh),.lit (.string bi)],.box [.lit (.int .i64 bj),.lit (.string bk),.lit (.int .i64 bl),.lit (.string bm)]]⟩) ?_ ?_
 unfold Ref2.parse.l0 at a
 refine LoopB.of (σ:=Int × ByteArray × Int × ByteArray × Int × ByteArray × Int × ByteArray × Bool × Int) (ρ:=quadratref02.text × Bool) (fun v:Int × ByteArray × Int × ByteArray × Int × ByteArray × Int × ByteArray × Bool × Int=>Ref2.parse.s0 b v.1 v.2.1 v.2.2.1 v.2.2.2.1 v.2.2.2.2.1 v.2.2.2.2.2.1 v.2.2.2.2.2.2.1 v.2.2.2.2.2.2.2.1 v.2.2.2.2.2.2.2.2.1 v.2.2.2.2.2.2.2.2.2) (fun v=>(⟨126,[(0,.lit (.string b)),(2,.ptr 0 0),(4,.ptr 1 0),(5,.lit (.bool v.2.2.2.2.2.2.2.2.1)),(6,.lit (.int .i64 v.2.2.2.2.2.2.2.2.2))],[.box [.lit (.int .i64 v.1),.lit (.string v.2.1),.lit (.int .i64 v.2.2.1),.lit (.string v.2.2.2.1)],.box [.lit (.int .i64 v.2.2.2.2.1),.lit (.string v.2.2.2.2.2.1),.lit (.int .i64 v.2.2.2.2.2.2.1),.lit (.string v.2.2.2.2.2.2.2.1)]]⟩:St)) (aq,ar,au,av,aw,ax,ay,az,false,0) a (B' [0,1] rfl) ?_
 rintro K1 ⟨da,db,dc,dd,de,df,dg,dh,di,y⟩ x1 bb bn bo
 replace bb:Ref2.parse.s0 b da db dc dd de df dg dh di y = some x1:=bb
 unfold Ref2.parse.s0 at bb
 refine CutN.of (fun s=>∃ z aa ab ac ad ae af ag bc,Ref2.parse.j7 b y z aa ab ac ad ae af ag bc = some x1 ∧ s = ⟨126,[(0,.lit (.string b)),(2,.ptr 0 0),(4,.ptr 1 0),(5,.lit (.bool bc)),(6,.lit (.int .i64 y))],[.box [.lit (.int .i64 z),.lit (.string aa),.lit (.int .i64 ab),.lit (.string ac)],.box [.lit (.int .i64 ad),.lit (.string ae),.lit (.int .i64 af),.lit (.string ag)]]⟩) ?_ ?_
 refine N' bb fun ed dj=>C' dj (fun bp=>?_) fun bp=>S' bp fun dk=>N' dk fun ee dl=>Gate.go (A' dl Ref2.isDigit_ok fun dm cq=>?_)
 obtain ⟨ef,dn,bq⟩:=map_elim bp
 have bq:=(bo _ bq.symm).symm
 subst bq
 exact B' [0,1] ⟨_,_,_,_,_,_,_,_,_,dn,rfl⟩
 rcases dm with _ | _
 have br:=bif_f cq
 refine S' br fun dp=>N' dp fun eg dq=>C' dq (fun bs=>?_) fun bs=>C' bs (fun bt=>?_) fun bt=>?_
 obtain ⟨eh,dr,bu⟩:=map_elim bs
 have bu:=(bo _ bu.symm).symm
 subst bu
 exact B' [0,1] ⟨_,_,_,_,_,_,_,_,_,dr,rfl⟩
 obtain ⟨ei,ds,bv⟩:=map_elim bt
 have bv:=(bo _ bv.symm).symm
 subst bv
 exact B' [0,1] ⟨_,_,_,_,_,_,_,_,_,ds,rfl⟩
 exact B' [0,1] ⟨_,_,_,_,_,_,_,_,_,bt,rfl⟩
 have br:=bif_t cq
 exact B' [0,1] ⟨_,_,_,_,_,_,_,_,_,br,rfl⟩
 rintro s ⟨z,aa,ab,ac,ad,ae,af,ag,bc,a,rfl⟩
 unfold Ref2.parse.j7 at a
 refine S' a fun c=>N' c fun ej g=>C' g (fun i=>DrawB.ofFN 0 [.box [.lit (.int .i64 z),.lit (.string aa),.lit (.int .i64 ab),.lit (.string ac)],.box [.lit (.int .i64 ad),.lit (.string ae),.lit (.int .i64 af),.lit (.string ag)]] 2 2 [[1],[1],[],[],[],[],[],[],[1],[1]] [[],[],[],[],[],[],[],[],[],[1]] [none,none,none,none,none,none,none,none,none,none] Tryz_mixed (by kernel_rfl) rfl rfl rfl (by kernel_rfl) ?_) fun i=>N' i fun ek e=>?_
 refine FNode.rd (F:=[1]) (W:=[]) (.ptr 1 1) ?_ rfl rfl ?_
 rfl
 refine FNode.rd (F:=[1]) (W:=[]) (.lit (.string ae)) ?_ rfl rfl ?_
 rfl
 refine FNode.no (W:=[]) (.lit (.string b)) ?_ rfl ?_
 rfl
 refine FNode.no (W:=[]) (.lit (.int .i64 y)) ?_ rfl ?_
 rfl
 refine FNode.no (W:=[]) (.lit (.int .i64 y)) ?_ rfl ?_
 rfl
 obtain ⟨cr,dt,e⟩:=letk_elim i
 refine FNode.no (W:=[]) (.lit (.int .i64 cr)) ?_ rfl ?_
 refine Nm.mk ⟨cr,dt,?_⟩
 rfl
 obtain ⟨w,x⟩:=chk_elim e
 obtain ⟨cs,du,h⟩:=letk_elim x
 refine FNode.no (W:=[]) (.lit (.string cs)) ?_ rfl ?_
 refine Side.mk w ?_
 refine Nm.mk ⟨cs,du,?_⟩
 rfl
 obtain ⟨dv,dw⟩:=chk_elim h
 obtain ⟨bw,dx,k⟩:=letk_elim dw
 refine FNode.no (W:=[]) (.lit (.string bw)) ?_ rfl ?_
 refine Side.mk dv ?_
 refine Nm.mk ⟨bw,dx,?_⟩
 rfl
 refine FNode.rd (F:=[1]) (W:=[]) (.ptr 1 1) ?_ rfl rfl ?_
 rfl
 refine FNode.pl (F:=[1]) (W:=[1]) (.undef) [.box [.lit (.int .i64 z),.lit (.string aa),.lit (.int .i64 ab),.lit (.string ac)],.box [.lit (.int .i64 ad),.lit (.string bw),.lit (.int .i64 af),.lit (.string ag)]] ?_ rfl rfl rfl rfl ?_
 refine V' ?_
 rfl
 rcases bc with _ | _
 have bx:=bif_f k
 refine N' bx fun el j=>?_
 exact B' [0,1] ⟨_,bn _ (Option.some.inj j).symm,rfl⟩
 have bx:=bif_t k
 refine N' bx fun em j=>V' (N' j fun en bz=>?_)
 exact B' [0,1] ⟨_,bn _ (Option.some.inj bz).symm,rfl⟩
 exact B' [0,1] ⟨_,bn _ (Option.some.inj e).symm,rfl⟩
 rintro s ⟨bf,bg,bh,bi,bj,bk,bl,bm,f,a,rfl⟩
 unfold Ref2.parse.j2 at a
 refine CutN.of (fun s=>∃ ah ai aj ak al am an ao,Ref2.parse.j3 b f ah ai aj ak al am an ao = some r ∧ s = ⟨126,[(0,.lit (.string b)),(2,.ptr 0 0),(4,.ptr 1 0),(6,.lit (.int .i64 f))],[.box [.lit (.int .i64 ah),.lit (.string ai),.lit (.int .i64 aj),.lit (.string ak)],.box [.lit (.int .i64 al),.lit (.string am),.lit (.int .i64 an),.lit (.string ao)]]⟩) ?_ ?_
 refine CutN.of (fun s=>∃ ca cb cc cd ce cf cg ch bd,Ref2.parse.j6 b f ca cb cc cd ce cf cg ch bd = some r ∧ s = ⟨126,[(0,.lit (.string b)),(2,.ptr 0 0),(4,.ptr 1 0),(6,.lit (.int .i64 f)),(86,.lit (.bool bd))],[.box [.lit (.int .i64 ca),.lit (.string cb),.lit (.int .i64 cc),.lit (.string cd)],.box [.lit (.int .i64 ce),.lit (.string cf),.lit (.int .i64 cg),.lit (.string ch)]]⟩) ?_ ?_
 refine N' a fun eo c=>C' c (fun d=>N' d fun ep i=>N' i fun eq e=>?_) fun d=>?_
 exact B' [0,1] ⟨_,_,_,_,_,_,_,_,_,e,rfl⟩
 exact B' [0,1] ⟨_,_,_,_,_,_,_,_,_,d,rfl⟩
 rintro s ⟨ca,cb,cc,cd,ce,cf,cg,ch,bd,a,rfl⟩
 unfold Ref2.parse.j6 at a
 rcases bd with _ | _
 have c:=bif_f a
 exact B' [0,1] ⟨_,_,_,_,_,_,_,_,c,rfl⟩
 have c:=bif_t a
 exact Gate.go (V' (V' (R' (E:=E23') c)))
 rintro s ⟨ah,ai,aj,ak,al,am,an,ao,a,rfl⟩
 unfold Ref2.parse.j3 at a
 refine N' a fun er c=>C' c (fun d=>CutN.of (fun s=>∃ ci cj ck cl cm cn co cp,Ref2.parse.j4 b f ci cj ck cl cm cn co cp = some r ∧ s = ⟨126,[(0,.lit (.string b)),(2,.ptr 0 0),(4,.ptr 1 0),(6,.lit (.int .i64 f))],[.box [.lit (.int .i64 ci),.lit (.string cj),.lit (.int .i64 ck),.lit (.string cl)],.box [.lit (.int .i64 cm),.lit (.string cn),.lit (.int .i64 co),.lit (.string cp)]]⟩) ?_ ?_) fun d=>V' (R' (E:=E23') d)
 refine S' d fun i=>N' i fun es e=>CutN.of (fun s=>∃ be,Ref2.parse.j5 b f ah ai aj ak al am an ao be = some r ∧ s = ⟨126,[(0,.lit (.string b)),(2,.ptr 0 0),(4,.ptr 1 0),(6,.lit (.int .i64 f)),(109,.lit (.bool be))],[.box [.lit (.int .i64 ah),.lit (.string ai),.lit (.int .i64 aj),.lit (.string ak)],.box [.lit (.int .i64 al),.lit (.string am),.lit (.int .i64 an),.lit (.string ao)]]⟩) ?_ ?_
 refine C' e (fun h=>?_) fun h=>C' h (fun k=>?_) fun k=>C' k (fun j=>?_) fun j=>N' j fun et bz=>?_
 exact B' [0,1] ⟨_,h,rfl⟩
 exact B' [0,1] ⟨_,k,rfl⟩
 exact B' [0,1] ⟨_,j,rfl⟩
 exact B' [0,1] ⟨_,bz,rfl⟩
 rintro s ⟨be,a,rfl⟩
 unfold Ref2.parse.j5 at a
 rcases be with _ | _
 have c:=bif_f a
 exact B' [0,1] ⟨_,_,_,_,_,_,_,_,c,rfl⟩
 have c:=bif_t a
 exact Gate.go (V' (V' (R' (E:=E23') c)))
 rintro s ⟨ci,cj,ck,cl,cm,cn,co,cp,a,rfl⟩
 unfold Ref2.parse.j4 at a
 refine N' a fun eu c=>S' c fun g=>N' g fun ev d=>?_
 obtain ⟨⟨ew,ex⟩,dy,i⟩:=bind_elim d
 exact Gate.go (Z' (Ref2.exponent_ok dy) (N' i fun ey e=>V' (V' (R' (E:=E23') e))))
noncomputable def Ref2.Form.top (a:quadratref02.Form):Option Int :=
 chk (0 ≤ a.W) <|
 letk (IntKind.i64.wrap ((1:Int) * 2 ^ (min a.W.toNat (IntKind.i64).bits))) fun b =>
 letk (IntKind.i64.wrap (b - (1:Int))) fun c =>
 some c
theorem Ref2.Form.top_ok {a:quadratref02.Form} {r:Int} (b:Ref2.Form.top a = some r):Gives Tryz.prog 58 [quadratref02.Form.enc a] (.lit (.int .i64 r)):=by
 unfold Ref2.Form.top at b
 refine W' [] Tryz.func58 ?_
 exact V' (S' b fun c=>N' c fun f d=>N' d fun g e=>R' (E:=E2') e)
noncomputable def Ref2.Form.bits (a:quadratref02.Form) (d:Int) (e:Int) (f:Int):Option Int :=
 letk (IntKind.u64.wrap d) fun g =>
 letk (IntKind.i64.wrap (a.P - (1:Int))) fun h =>
 letk (IntKind.i64.wrap (h + a.W)) fun b =>
 chk (0 ≤ b) <|
 letk (IntKind.u64.wrap (g * 2 ^ (min b.toNat (IntKind.u64).bits))) fun i =>
 letk (IntKind.u64.wrap e) fun j =>
 letk (IntKind.i64.wrap (a.P - (1:Int))) fun c =>
 chk (0 ≤ c) <|
 letk (IntKind.u64.wrap (j * 2 ^ (min c.toNat (IntKind.u64).bits))) fun k =>
 letk (IntKind.u64.wrap (BitVec.ofInt (IntKind.u64).bits i ||| BitVec.ofInt (IntKind.u64).bits k).toNat) fun l =>
 letk (IntKind.u64.wrap (BitVec.ofInt (IntKind.u64).bits l ||| BitVec.ofInt (IntKind.u64).bits f).toNat) fun m =>
 letk (IntKind.i64.wrap m) fun n =>
 some n
theorem Ref2.Form.bits_ok {a:quadratref02.Form} {b:Int} {d:Int} {f:Int} {r:Int} (g:Ref2.Form.bits a b d f = some r):Gives Tryz.prog 57 [quadratref02.Form.enc a,.lit (.int .i64 b),.lit (.int .i64 d),.lit (.int .u64 f)] (.lit (.int .i64 r)):=by
 unfold Ref2.Form.bits at g
 refine W' [] Tryz.func57 ?_
 refine V' (L' [0] [1,2,3,4] ?_)
 refine DrawB.ofG [none,none,none,none,none,none,none,none,none,none,none,none,none,none,none,none,none,none,none,none] Tryz_mixed (by kernel_rfl) (by kernel_rfl) ?_
 exact D' rfl (DN' g (fun e=>n' e rfl) fun s h=>D' rfl (D' rfl (DN' h (fun e=>n' e rfl) fun t i=>D' rfl (D' rfl (DN' i (fun e=>n' e rfl) fun u j=>DS' j (fun c e=>Side.mk c (n' e rfl)) fun v k=>D' rfl (DN' k (fun e=>n' e rfl) fun w l=>D' rfl (D' rfl (DN' l (fun e=>n' e rfl) fun x m=>DS' m (fun c e=>Side.mk c (n' e rfl)) fun y n=>DN' n (fun e=>n' e rfl) fun z o=>D' rfl (DN' o (fun e=>n' e rfl) fun aa p=>DN' p (fun e=>n' e rfl) fun ab q=>D' rfl (R' (E:=E2') q))))))))))
noncomputable def Ref2.Form.quiet (a:quadratref02.Form):Option Int :=
 Option.bind (Ref2.Form.top (⟨a.P,a.W⟩:quadratref02.Form)) fun c =>
 letk (IntKind.i64.wrap (a.P - (2:Int))) fun b =>
 chk (0 ≤ b) <|
 letk (IntKind.u64.wrap ((1:Int) * 2 ^ (min b.toNat (IntKind.u64).bits))) fun d =>
 Option.bind (Ref2.Form.bits (⟨a.P,a.W⟩:quadratref02.Form) 0 c d) fun e =>
 some e
theorem Ref2.Form.quiet_ok {a:quadratref02.Form} {r:Int} (b:Ref2.Form.quiet a = some r):Gives Tryz.prog 56 [quadratref02.Form.enc a] (.lit (.int .i64 r)):=by
 unfold Ref2.Form.quiet at b
 refine W' [] Tryz.func56 ?_
 refine V' (DrawB.ofG [none,none,none,none,none,none,none,none,none] Tryz_mixed (by kernel_rfl) (by kernel_rfl) ?_)
 exact D' rfl (D' rfl (DC' b (fun e=>Z' (Ref2.Form.top_ok e) rfl) fun i d=>D' rfl (D' rfl (DN' d (fun e=>n' e rfl) fun j f=>DS' f (fun c e=>Side.mk c (n' e rfl)) fun k g=>DC' g (fun e=>Z' (Ref2.Form.bits_ok e) rfl) fun l h=>D' rfl (R' (E:=E2') h)))))
noncomputable def Ref2.nat.trim.j0 (a:List Int):Option (((List Int)) ⊕ ((List Int))) :=
 letk ((a.length:Int)) fun c =>
 letk (IntKind.i64.wrap (c - (1:Int))) fun b =>
 chk (0 ≤ b ∧ b ≤ (a.length:Int)) <|
 letk ((a.drop 0).take (b.toNat - 0)) fun d =>
 some (.inl d)
noncomputable def Ref2.nat.trim.s0 (a:List Int):Option (((List Int)) ⊕ ((List Int))) :=
 letk ((a.length:Int)) fun c =>
 letk (decide (c > (0:Int))) fun d =>
 bif d then
 letk ((a.length:Int)) fun e =>
 letk (IntKind.i64.wrap (e - (1:Int))) fun b =>
 chk (0 ≤ b) <|
 Option.bind (a[b.toNat]?) fun f =>
 letk (f == (0:Int)) fun g =>
 bif g then
 Ref2.nat.trim.j0 a
 else
 some (.inr a)
 else
 some (.inr a)
noncomputable def Ref2.nat.trim.l0 (a:List Int):Option ((List Int)):=loopO (fun v:(List Int)=>Ref2.nat.trim.s0 v) a
theorem Ref2.nat.trim.l0_eq (a0_1:List Int):Ref2.nat.trim.l0 a0_1 = (Ref2.nat.trim.s0 a0_1).bind (Sum.elim (fun v=>Ref2.nat.trim.l0 v) some):=loopO_eq _ _
noncomputable def Ref2.nat.trim (a:List Int):Option ((List Int)) :=
 Ref2.nat.trim.l0 a
abbrev E24':(List Int) → AV:=fun r=>(.vs 1 (r.map (eI .u32)))
theorem Ref2.nat.trim_ok {b:List Int} {r:(List Int)} (c:Ref2.nat.trim b = some r):Gives Tryz.prog 82 [.vs 1 (b.map (eI .u32))] (.vs 1 (r.map (eI .u32))):=by
 unfold Ref2.nat.trim at c
 refine W' [(1,1)] Tryz.func82 ?_
 unfold Ref2.nat.trim.l0 at c
 refine LoopB.of (σ:=(List Int)) (ρ:=(List Int)) (fun v:(List Int)=>Ref2.nat.trim.s0 v) (fun v=>(⟨21,[(0,.vs 1 (v.map (eI .u32)))],[]⟩:St)) b c (B' [] rfl) ?_
 rintro K1 d g a j h
 replace a:Ref2.nat.trim.s0 d = some g:=a
 unfold Ref2.nat.trim.s0 at a
 refine CutN.of (fun s=>Ref2.nat.trim.j0 d = some g ∧ s = ⟨21,[(0,.vs 1 (d.map (eI .u32)))],[]⟩) ?_ ?_
 obtain ⟨k,l,m⟩:=letk_elim a
 refine Nm.mk ⟨k,by rw [l,List.length_map],?_⟩
 refine C' m (fun e=>?_) fun e=>?_
 have n:=h _ (Option.some.inj e).symm
 have o:=congrArg some n
 exact R' (E:=E24') o
 obtain ⟨p,q,t⟩:=letk_elim e
 refine Nm.mk ⟨p,by rw [q,List.length_map],?_⟩
 refine N' t fun al u=>?_
 obtain ⟨w,x⟩:=chk_elim u
 obtain ⟨am,y,z⟩:=bind_elim x
 refine Side.mk w ?_
 refine At.by y ?_
 refine C' z (fun f=>?_) fun f=>?_
 have aa:=h _ (Option.some.inj f).symm
 have ab:=congrArg some aa
 exact R' (E:=E24') ab
 exact B' [] ⟨f,rfl⟩
 rintro s ⟨i,rfl⟩
 unfold Ref2.nat.trim.j0 at i
 obtain ⟨ac,ad,ae⟩:=letk_elim i
 refine Nm.mk ⟨ac,by rw [ad,List.length_map],?_⟩
 refine N' ae fun an af=>?_
 obtain ⟨ag,ah⟩:=chk_elim af
 obtain ⟨ai,aj,ak⟩:=letk_elim ah
 refine Side.mk (by simpa only [List.length_map] using ag) ?_
 refine Nm.mk ⟨ai.map (eI .u32),by rw [aj]; simp only [List.map_take,List.map_drop,List.length_map],?_⟩
 exact B' [] ⟨_,j _ (Option.some.inj ak).symm,rfl⟩
noncomputable def Ref2.small (a:Int):Option ((List Int)) :=
 letk (IntKind.u32.wrap a) fun b =>
 chk (0 ≤ (32:Int)) <|
 letk ((IntKind.u64,a.fdiv (2 ^ (min (32:Int).toNat (IntKind.u64).bits))).2) fun c =>
 letk (IntKind.u32.wrap c) fun d =>
 Option.bind (Ref2.nat.trim ([b,d])) fun e =>
 some e
theorem Ref2.small_ok {a:Int} {r:(List Int)} (b:Ref2.small a = some r):Gives Tryz.prog 81 [.lit (.int .u64 a)] (.vs 1 (r.map (eI .u32))):=by
 unfold Ref2.small at b
 refine W' [] Tryz.func81 ?_
 refine N' b fun c e=>S' e fun f=>N' f fun n g=>N' g fun d i=>Gate.go (Nm.mk ⟨([c,d]).map (eI .u32),rfl,?_⟩)
 obtain ⟨o,j,l⟩:=bind_elim i
 refine Gate.weak (Sees.of (Weak.objs (k:=10) (keep:=[]) (frz:=[0]) (m:=0) (ts:=[(8,.vs 1 (([c,d]).map (eI .u32)))]) (hs:=[]) rfl (by decide) rfl rfl ⟨rfl,fun _ h=>by cases h⟩ ⟨(WV.all (k:=0) (by decide) rfl),trivial⟩)) ?_
 exact Z' (Ref2.nat.trim_ok j) (R' (E:=E24') l)
noncomputable def Ref2.times.s1 (m:List Int) (d:List Int) (b:Int) (a:List Int) (h:Int) (c:Int):Option (((List Int) × Int × Int) ⊕ (((List Int) × Int) ⊕ ((List Int)))) :=
 letk ((d.length:Int)) fun n =>
 letk (decide (c < n)) fun o =>
 bif o then
 chk (0 ≤ b) <|
 Option.bind (m[b.toNat]?) fun p =>
 letk (IntKind.u64.wrap p) fun q =>
 chk (0 ≤ c) <|
 Option.bind (d[c.toNat]?) fun r =>
 letk (IntKind.u64.wrap r) fun s =>
 letk (IntKind.u64.wrap (q * s)) fun t =>
 letk (IntKind.i64.wrap (b + c)) fun e =>
 chk (0 ≤ e ∧ e < (a.length:Int)) <|
 letk (0 + e.toNat) fun u =>
 Option.bind (a[u]?) fun v =>
 letk (IntKind.u64.wrap v) fun w =>
 letk (IntKind.u64.wrap (t + w)) fun x =>
 letk (IntKind.u64.wrap (x + h)) fun i =>
 letk (IntKind.i64.wrap (b + c)) fun f =>
 letk (IntKind.u32.wrap i) fun y =>
 chk (0 ≤ (32:Int)) <|
 letk ((IntKind.u64,i.fdiv (2 ^ (min (32:Int).toNat (IntKind.u64).bits))).2) fun z =>
 chk (0 ≤ f ∧ f < (a.length:Int)) <|
 letk (0 + f.toNat) fun j =>
 Option.bind (a[j]?) fun af =>
 letk (a.set j y) fun aa =>
 letk (IntKind.i64.wrap (c + (1:Int))) fun ab =>
 some (.inl (aa,z,ab))
 else
 ((
 letk ((d.length:Int)) fun ac =>
 letk (IntKind.i64.wrap (b + ac)) fun g =>
 letk (IntKind.u32.wrap h) fun ad =>
 chk (0 ≤ g ∧ g < (a.length:Int)) <|
 letk (0 + g.toNat) fun k =>
 Option.bind (a[k]?) fun ag =>
 letk (a.set k ad) fun l =>
 letk (IntKind.i64.wrap (b + (1:Int))) fun ae =>
 some (.inl (l,ae)))).map .inr
noncomputable def Ref2.times.l1 (a:List Int) (b:List Int) (c:Int) (d:List Int) (e:Int) (f:Int):Option (((List Int) × Int) ⊕ ((List Int))):=loopO (fun v:(List Int) × Int × Int=>Ref2.times.s1 a b c v.1 v.2.1 v.2.2) (d,e,f)
noncomputable def Ref2.times.s0 (a:List Int) (d:List Int) (b:List Int) (c:Int):Option (((List Int) × Int) ⊕ ((List Int))) :=
 letk ((a.length:Int)) fun e =>
 letk (decide (c < e)) fun f =>
 bif f then
 Ref2.times.l1 a d c b 0 0
 else
 ((
 Option.bind (Ref2.nat.trim b) fun g =>
 some g)).map .inr
noncomputable def Ref2.times.l0 (a:List Int) (b:List Int) (c:List Int) (d:Int):Option ((List Int)):=loopO (fun v:(List Int) × Int=>Ref2.times.s0 a b v.1 v.2) (c,d)
noncomputable def Ref2.times (b:List Int) (c:List Int):Option ((List Int)) :=
 letk ((b.length:Int)) fun d =>
 letk ((c.length:Int)) fun e =>
 letk (IntKind.i64.wrap (d + e)) fun a =>
 chk (0 ≤ a ∧ a ≤ a ∧ a ≤ 9223372036854775807 ∧ 4 * a ≤ 140737488355328) <|
 letk ((List.replicate a.toNat 0:List Int)) fun f =>
 Ref2.times.l0 b c f 0
theorem Ref2.times_ok {a:List Int} {b:List Int} {r:(List Int)} (q:Ref2.times a b = some r):Gives Tryz.prog 80 [.vs 1 (a.map (eI .u32)),.vs 1 (b.map (eI .u32))] (.vs 1 (r.map (eI .u32))):=by
 unfold Ref2.times at q
 refine W' [] Tryz.func80 ?_
 obtain ⟨z,aa,h1⟩:=letk_elim q
 refine Nm.mk ⟨z,by rw [aa,List.length_map],?_⟩
 obtain ⟨ab,ac,h2⟩:=letk_elim h1
 refine Nm.mk ⟨ab,by rw [ac,List.length_map],?_⟩
 refine N' h2 fun cv h3=>S' h3 fun h4=>?_
 obtain ⟨s,ad,t⟩:=letk_elim h4
 refine Nm.mk ⟨s.map (eI .u32),by rw [ad,List.map_replicate]; rfl,?_⟩
 unfold Ref2.times.l0 at t
 refine LoopB.of (σ:=(List Int) × Int) (ρ:=(List Int)) (fun v:(List Int) × Int=>Ref2.times.s0 a b v.1 v.2) (fun v=>(⟨68,[(0,.vs 1 (a.map (eI .u32))),(1,.vs 1 (b.map (eI .u32))),(5,.ref 0 0 ((v.1.map (eI .u32)).length)),(6,.lit (.int .i64 v.2))],[.arr 1 (v.1.map (eI .u32))]⟩:St)) (s,0) t (B' [0] rfl) ?_
 rintro K1 ⟨i,c⟩ x1 d ae af
 replace d:Ref2.times.s0 a b i c = some x1:=d
 unfold Ref2.times.s0 at d
 obtain ⟨ag,ah,ai⟩:=letk_elim d
 refine Nm.mk ⟨ag,by rw [ah,List.length_map],?_⟩
 refine C' ai (fun f=>?_) fun f=>?_
 obtain ⟨cw,aj,j⟩:=map_elim f
 have j:=(af _ j.symm).symm
 subst j
 obtain ⟨cx,ak,al⟩:=bind_elim aj
 refine Gate.weak (Sees.of (Weak.objs (k:=68) (keep:=[]) (frz:=[0]) (m:=0) (ts:=[(66,.vs 1 (i.map (eI .u32)))]) (hs:=[]) rfl (by decide) rfl rfl ⟨rfl,fun _ h=>by cases h⟩ ⟨(WV.all (k:=0) (by decide) rfl),trivial⟩)) ?_
 exact Z' (Ref2.nat.trim_ok ak) (R' (E:=E24') al)
 unfold Ref2.times.l1 at f
 refine LoopB.of (σ:=(List Int) × Int × Int) (ρ:=((List Int) × Int) ⊕ ((List Int))) (fun v:(List Int) × Int × Int=>Ref2.times.s1 a b c v.1 v.2.1 v.2.2) (fun v=>(⟨68,[(0,.vs 1 (a.map (eI .u32))),(1,.vs 1 (b.map (eI .u32))),(5,.ref 0 0 ((v.1.map (eI .u32)).length)),(6,.lit (.int .i64 c)),(7,.lit (.int .u64 v.2.1)),(8,.lit (.int .i64 v.2.2))],[.arr 1 (v.1.map (eI .u32))]⟩:St)) (i,0,0) f (B' [0] rfl) ?_
 rintro K2 ⟨n,am,k8⟩ x2 g an ao
 replace g:Ref2.times.s1 a b c n am k8 = some x2:=g
 unfold Ref2.times.s1 at g
 obtain ⟨ap,aq,ar⟩:=letk_elim g
 refine Nm.mk ⟨ap,by rw [aq,List.length_map],?_⟩
 refine C' ar (fun o=>?_) fun o=>L' [0] [0,1,5,6,7,8] ?_
 obtain ⟨cy,au,p⟩:=map_elim o
 have p:=(ao _ p.symm).symm
 subst p
 obtain ⟨av,aw,ax⟩:=letk_elim au
 refine Nm.mk ⟨av,by rw [aw,List.length_map],?_⟩
 refine N' ax fun cz ay=>N' ay fun da az=>?_
 obtain ⟨ba,bb⟩:=chk_elim az
 obtain ⟨bc,bd,be⟩:=letk_elim bb
 refine Side.mk (by simpa only [List.length_map] using ba) ?_
 refine Nm.mk ⟨bc,bd,?_⟩
 obtain ⟨db,bf,bg⟩:=bind_elim be
 obtain ⟨l,u,bh⟩:=letk_elim bg
 refine At.by bf ?_
 refine Side.mk ⟨Nat.le_of_ble_eq_true rfl,rfl⟩ ?_
 refine Nm.mk ⟨l.map (eI .u32),by rw [u,List.map_set]; rfl,?_⟩
 rw [show (n.map (eI .u32)).length = (l.map (eI .u32)).length from by rw [u,List.length_map,List.length_map,List.length_set]]
 refine N' bh fun dc bi=>?_
 exact B' [0] ⟨_,ae _ (Option.some.inj bi).symm,rfl⟩
 refine DrawB.ofG [none,none,none,none,none,none,none,none,none,none,none,none,none,none,none,none,none,none,none,none,none,none] Tryz_mixed (by kernel_rfl) (by kernel_rfl) ?_
 refine D' rfl (D' rfl ?_)
 obtain ⟨bj,bk⟩:=chk_elim o
 obtain ⟨bl,bm,bn⟩:=bind_elim bk
 refine DNodeB.of (.iptr (.lit (.int .u32 bl))) ?_ ?_
 refine Side.mk bj ?_
 refine At.by bm ?_
 rfl
 refine D' rfl (DN' bn (fun e=>n' e rfl) fun dd bo=>D' rfl (D' rfl ?_))
 obtain ⟨bp,bq⟩:=chk_elim bo
 obtain ⟨br,bs,bt⟩:=bind_elim bq
 refine DNodeB.of (.iptr (.lit (.int .u32 br))) ?_ ?_
 refine Side.mk bp ?_
 refine At.by bs ?_
 rfl
 refine D' rfl (DN' bt (fun e=>n' e rfl) fun de bu=>DN' bu (fun e=>n' e rfl) fun df bv=>D' rfl (D' rfl (D' rfl (DN' bv (fun e=>n' e rfl) fun dg bw=>?_))))
 obtain ⟨bx,bz⟩:=chk_elim bw
 obtain ⟨w,ca,cb⟩:=letk_elim bz
 refine DNodeB.of (.eptr 0 w 0) ?_ ?_
 refine Side.mk (by simpa only [List.length_map] using bx) ?_
 refine Nm.mk ⟨w,ca,?_⟩
 rfl
 obtain ⟨cc,cd,ce⟩:=bind_elim cb
 refine DNodeB.of (.lit (.int .u32 cc)) ?_ ?_
 refine At.by cd ?_
 rfl
 refine DN' ce (fun e=>n' e rfl) fun dh cf=>DN' cf (fun e=>n' e rfl) fun di cg=>D' rfl (DN' cg (fun e=>n' e rfl) fun dj ch=>D' rfl (N' ch fun dk ci=>N' ci fun dl cj=>S' cj fun ck=>N' ck fun dm cl=>?_))
 obtain ⟨cm,cn⟩:=chk_elim cl
 obtain ⟨co,cp,cq⟩:=letk_elim cn
 refine Side.mk (by simpa only [List.length_map] using cm) ?_
 refine Nm.mk ⟨co,cp,?_⟩
 obtain ⟨dn,cr,cs⟩:=bind_elim cq
 obtain ⟨x,y,ct⟩:=letk_elim cs
 refine At.by cr ?_
 refine Side.mk ⟨Nat.le_of_ble_eq_true rfl,rfl⟩ ?_
 refine Nm.mk ⟨x.map (eI .u32),by rw [y,List.map_set]; rfl,?_⟩
 rw [show (n.map (eI .u32)).length = (x.map (eI .u32)).length from by rw [y,List.length_map,List.length_map,List.length_set]]
 refine N' ct fun dp cu=>?_
 exact B' [0] ⟨_,an _ (Option.some.inj cu).symm,rfl⟩
noncomputable def Ref2.plus.j0 (a:List Int) (b:Int):Option ((List Int)) :=
 letk (decide (b > (0:Int))) fun d =>
 bif d then
 letk (IntKind.u32.wrap b) fun c =>
 chk ((a.length + ([c]).length) * 4 ≤ 140737488355328) <|
 letk (a ++ ([c])) fun e =>
 some e
 else
 some a
noncomputable def Ref2.plus.j1 (e:Int) (a:Int) (b:List Int):Option (((List Int) × Int × Int) ⊕ ((List Int))) :=
 chk (0 ≤ a ∧ a < (b.length:Int)) <|
 letk (0 + a.toNat) fun f =>
 Option.bind (b[f]?) fun g =>
 letk (IntKind.u64.wrap g) fun h =>
 letk (IntKind.u64.wrap (h + e)) fun c =>
 letk (IntKind.u32.wrap c) fun i =>
 chk (0 ≤ (32:Int)) <|
 letk ((IntKind.u64,c.fdiv (2 ^ (min (32:Int).toNat (IntKind.u64).bits))).2) fun j =>
 chk (0 ≤ a ∧ a < (b.length:Int)) <|
 letk (0 + a.toNat) fun d =>
 Option.bind (b[d]?) fun m =>
 letk (b.set d i) fun l =>
 letk (IntKind.i64.wrap (a + (1:Int))) fun k =>
 some (.inl (l,j,k))
noncomputable def Ref2.plus.s0 (a:List Int) (b:Int) (c:Int):Option (((List Int) × Int × Int) ⊕ ((List Int))) :=
 letk ((a.length:Int)) fun d =>
 letk (decide (c < d)) fun e =>
 bif e then
 letk (decide (b > (0:Int))) fun f =>
 bif f then
 Ref2.plus.j1 b c a
 else
 (Ref2.plus.j0 a b).map .inr
 else
 (Ref2.plus.j0 a b).map .inr
noncomputable def Ref2.plus.l0 (a:List Int) (b:Int) (c:Int):Option ((List Int)):=loopO (fun v:(List Int) × Int × Int=>Ref2.plus.s0 v.1 v.2.1 v.2.2) (a,b,c)
noncomputable def Ref2.plus (a:List Int) (b:Int):Option ((List Int)) :=
 chk (((([]:List Int)).length + a.length) * 4 ≤ 140737488355328) <|
 letk ((([]:List Int)) ++ a) fun c =>
 letk (IntKind.u64.wrap b) fun d =>
 Ref2.plus.l0 c d 0
theorem Ref2.plus_ok {w:List Int} {x:Int} {r:(List Int)} (y:Ref2.plus w x = some r):Gives Tryz.prog 79 [.vs 1 (w.map (eI .u32)),.lit (.int .u32 x)] (.vs 1 (r.map (eI .u32))):=by
 unfold Ref2.plus at y
 refine W' [(0,8),(1,1)] Tryz.func79 ?_
 refine Gate.go (Nm.mk ⟨(([]:List Int)).map (eI .u32),rfl,?_⟩)
 obtain ⟨ad,h1⟩:=chk_elim y
 obtain ⟨z,ae,h2⟩:=letk_elim h1
 refine Gate.go (Side.mk (full_le _) ?_)
 refine Side.mk (one_map (fun _ _ a=>by simp only [AV.cells,List.mem_singleton] at a; subst a; rfl)) ?_
 refine Side.mk (side_rv (by decide) ad) ?_
 refine Nm.mk ⟨z.map (eI .u32),by rw [ae]; exact app_rv,?_⟩
 refine N' h2 fun af h3=>CutN.of (fun s=>∃ b g,Ref2.plus.j0 b g = some r ∧ s = ⟨46,[(5,.ref 0 0 ((b.map (eI .u32)).length)),(6,.lit (.int .u64 g))],[.arr 1 (b.map (eI .u32))]⟩) ?_ ?_
 unfold Ref2.plus.l0 at h3
 refine LoopB.of (σ:=(List Int) × Int × Int) (ρ:=(List Int)) (fun v:(List Int) × Int × Int=>Ref2.plus.s0 v.1 v.2.1 v.2.2) (fun v=>(⟨46,[(5,.ref 0 0 ((v.1.map (eI .u32)).length)),(6,.lit (.int .u64 v.2.1)),(7,.lit (.int .i64 v.2.2))],[.arr 1 (v.1.map (eI .u32))]⟩:St)) (z,af,0) h3 (B' [1] rfl) ?_
 rintro K1 ⟨ag,h,i⟩ x1 f ah aa
 replace f:Ref2.plus.s0 ag h i = some x1:=f
 unfold Ref2.plus.s0 at f
 refine CutN.of (fun s=>∃ c,Ref2.plus.j1 h i c = some x1 ∧ s = ⟨46,[(5,.ref 0 0 ((c.map (eI .u32)).length)),(6,.lit (.int .u64 h)),(7,.lit (.int .i64 i))],[.arr 1 (c.map (eI .u32))]⟩) ?_ ?_
 obtain ⟨ai,aj,ak⟩:=letk_elim f
 refine Nm.mk ⟨ai,by rw [aj,List.length_map],?_⟩
 refine C' ak (fun j=>?_) fun j=>C' j (fun n=>?_) fun n=>?_
 obtain ⟨bk,al,o⟩:=map_elim j
 have o:=(aa _ o.symm).symm
 subst o
 exact B' [0] ⟨_,_,al,rfl⟩
 obtain ⟨bl,am,p⟩:=map_elim n
 have p:=(aa _ p.symm).symm
 subst p
 exact B' [0] ⟨_,_,am,rfl⟩
 exact B' [0] ⟨_,n,rfl⟩
 rintro s ⟨c,d,rfl⟩
 unfold Ref2.plus.j1 at d
 obtain ⟨an,ao⟩:=chk_elim d
 obtain ⟨ap,aq,e⟩:=letk_elim ao
 refine Side.mk (by simpa only [List.length_map] using an) ?_
 refine Nm.mk ⟨ap,aq,?_⟩
 obtain ⟨bm,ar,q⟩:=bind_elim e
 refine At.by ar ?_
 refine N' q fun bn t=>N' t fun bo u=>N' u fun bp au=>S' au fun av=>N' av fun bq aw=>?_
 obtain ⟨ax,ay⟩:=chk_elim aw
 obtain ⟨az,ba,bb⟩:=letk_elim ay
 refine Side.mk (by simpa only [List.length_map] using ax) ?_
 refine Nm.mk ⟨az,ba,?_⟩
 obtain ⟨br,bc,bd⟩:=bind_elim bb
 obtain ⟨l,el,be⟩:=letk_elim bd
 refine At.by bc ?_
 refine Side.mk ⟨Nat.le_of_ble_eq_true rfl,rfl⟩ ?_
 refine Nm.mk ⟨l.map (eI .u32),by rw [el,List.map_set]; rfl,?_⟩
 rw [show (c.map (eI .u32)).length = (l.map (eI .u32)).length from by rw [el,List.length_map,List.length_map,List.length_set]]
 refine N' be fun bs bf=>?_
 exact B' [0] ⟨_,ah _ (Option.some.inj bf).symm,rfl⟩
 rintro s ⟨b,g,d,rfl⟩
 unfold Ref2.plus.j0 at d
 refine C' d (fun e=>?_) fun e=>N' e fun ab q=>Gate.go (Nm.mk ⟨([ab]).map (eI .u32),rfl,?_⟩)
 have bg:=Option.some.inj e
 subst bg
 exact Returns.frozen (r:=.vs 1 (b.map (eI .u32))) [0] rfl rfl (WV.all (k:=0) (by decide) rfl) ⟨rfl,rfl⟩
 obtain ⟨bh,t⟩:=chk_elim q
 obtain ⟨ac,bi,u⟩:=letk_elim t
 refine Gate.go (Side.mk (full_le _) ?_)
 refine Side.mk ⟨full_le _,one_map (fun _ _ a=>by simp only [AV.cells,List.mem_singleton] at a; subst a; rfl)⟩ ?_
 refine Side.mk (side_rr (by decide) bh) ?_
 refine Nm.mk ⟨ac.map (eI .u32),by rw [bi]; exact app_rr (m:=[ab]),?_⟩
 have bj:=Option.some.inj u
 subst bj
 exact Returns.frozen (r:=.vs 1 (ac.map (eI .u32))) [2] rfl rfl (WV.all (k:=2) (by decide) rfl) ⟨rfl,rfl⟩
noncomputable def Ref2.power.s1 (a:Int) (b:List Int):Option ((Int × (List Int)) ⊕ ((List Int))) :=
 letk (decide (a > (0:Int))) fun c =>
 bif c then
 Option.bind (Ref2.small 10) fun d =>
 Option.bind (Ref2.times b d) fun e =>
 letk (IntKind.i64.wrap (a - (1:Int))) fun f =>
 some (.inl (f,e))
 else
 some (.inr b)
noncomputable def Ref2.power.l1 (a:Int) (b:List Int):Option ((List Int)):=loopO (fun v:Int × (List Int)=>Ref2.power.s1 v.1 v.2) (a,b)
noncomputable def Ref2.power.s0 (a:Int) (b:List Int):Option ((Int × (List Int)) ⊕ ((List Int))) :=
 letk (decide (a ≥ (9:Int))) fun c =>
 bif c then
 Option.bind (Ref2.small 1000000000) fun d =>
 Option.bind (Ref2.times b d) fun e =>
 letk (IntKind.i64.wrap (a - (9:Int))) fun f =>
 some (.inl (f,e))
 else
 (Ref2.power.l1 a b).map .inr
noncomputable def Ref2.power.l0 (a:Int) (b:List Int):Option ((List Int)):=loopO (fun v:Int × (List Int)=>Ref2.power.s0 v.1 v.2) (a,b)
noncomputable def Ref2.power (a:Int):Option ((List Int)) :=
 Option.bind (Ref2.small 1) fun b =>
 Ref2.power.l0 a b
theorem Ref2.power_ok {c:Int} {r:(List Int)} (j:Ref2.power c = some r):Gives Tryz.prog 83 [.lit (.int .i64 c)] (.vs 1 (r.map (eI .u32))):=by
 unfold Ref2.power at j
 refine W' [] Tryz.func83 ?_
 refine Gate.go (A' j Ref2.small_ok fun o k=>?_)
 unfold Ref2.power.l0 at k
 refine LoopB.of (σ:=Int × (List Int)) (ρ:=(List Int)) (fun v:Int × (List Int)=>Ref2.power.s0 v.1 v.2) (fun v=>(⟨20,[(0,.lit (.int .i64 v.1)),(3,.vs 1 (v.2.map (eI .u32)))],[]⟩:St)) (c,o) k (B' [] rfl) ?_
 rintro p ⟨l,m⟩ d a e f
 replace a:Ref2.power.s0 l m = some d:=a
 unfold Ref2.power.s0 at a
 refine C' a (fun g=>?_) fun g=>Gate.go (A' g Ref2.small_ok fun ac q=>Gate.go (A' q Ref2.times_ok fun ad s=>N' s fun t8 t=>?_))
 obtain ⟨ae,n,h⟩:=map_elim g
 have h:=(f _ h.symm).symm
 subst h
 unfold Ref2.power.l1 at n
 refine LoopB.of (σ:=Int × (List Int)) (ρ:=(List Int)) (fun v:Int × (List Int)=>Ref2.power.s1 v.1 v.2) (fun v=>(⟨20,[(0,.lit (.int .i64 v.1)),(3,.vs 1 (v.2.map (eI .u32)))],[]⟩:St)) (l,m) n (B' [] rfl) ?_
 rintro p ⟨u,w⟩ d b e f
 replace b:Ref2.power.s1 u w = some d:=b
 unfold Ref2.power.s1 at b
 refine C' b (fun i=>?_) fun i=>Gate.go (A' i Ref2.small_ok fun af x=>Gate.go (A' x Ref2.times_ok fun ag y=>N' y fun ah z=>?_))
 have aa:=f _ (Option.some.inj i).symm
 have ab:=congrArg some aa
 exact R' (E:=E24') ab
 exact B' [] ⟨_,e _ (Option.some.inj z).symm,rfl⟩
 exact B' [] ⟨_,e _ (Option.some.inj t).symm,rfl⟩
end Go.Q
