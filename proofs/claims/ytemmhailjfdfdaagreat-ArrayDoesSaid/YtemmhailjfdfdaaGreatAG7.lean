import Derived.Test.YtemmhailjfdfdaaGreatAG6
import Derived.Test.YtemmhailjfdfdaaGreatFX
import Derived.Test.YtemmhailjfdfdaaGreatFY
import Derived.Test.YtemmhailjfdfdaaGreatProg
namespace Go.Q
open Go Go.Proofs
set_option maxRecDepth 10000
set_option maxHeartbeats 2000000
noncomputable def Ref1.Mul.j0 (kind0 mode1 t33:Int) (x11_0:ByteArray) (x11_1:Int) (x11_2:List Int) (x11_3:Int) (y12_0:ByteArray) (y12_1:Int) (y12_2:List Int) (y12_3:Int):Option (Int × Int × Int) :=
 Option.bind (Ref1.Times x11_2 y12_2) fun t98 =>
 letk (IntKind.i64.wrap (x11_3 + y12_3)) fun t103 =>
 Option.bind (Ref1.Rounded kind0 mode1 t33 t98 t103 false) fun (t104_0,t104_1) =>
 some (t104_0,t104_1,0)
noncomputable def Ref1.Mul.j3 (kind0 mode1:Int) (t24 t27:quadratref01.float) (t33:Int) (t66:Bool):Option (Int × Int × Int) :=
 bif t66 then
 Option.bind (Ref1.Infinite kind0 t33) fun t77 =>
 some (t77,0,0)
 else
 letk (t24.what.toList == (⟨#[122,101,114,111]⟩:ByteArray).toList) fun t81 =>
 bif t81 then
 Option.bind (Ref1.Zero kind0 t33) fun t89_1 =>
 some (t89_1,0,0)
 else
 letk (t27.what.toList == (⟨#[122,101,114,111]⟩:ByteArray).toList) fun t85 =>
 bif t85 then
 Option.bind (Ref1.Zero kind0 t33) fun t89 =>
 some (t89,0,0)
 else
 Ref1.Mul.j0 kind0 mode1 t33 t24.what t24.sign t24.m t24.e t27.what t27.sign t27.m t27.e
noncomputable def Ref1.Mul.j2 (kind0 mode1:Int) (t24 t27:quadratref01.float) (t33:Int) (t45:Bool):Option (Int × Int × Int) :=
 bif t45 then
 Option.bind (Ref1.Quiet kind0) fun t65 =>
 some (t65,1,0)
 else
 letk (t24.what.toList == (⟨#[105,110,102,105,110,105,116,101]⟩:ByteArray).toList) fun t69 =>
 bif t69 then
 Ref1.Mul.j3 kind0 mode1 t24 t27 t33 true
 else
 letk (t27.what.toList == (⟨#[105,110,102,105,110,105,116,101]⟩:ByteArray).toList) fun t73 =>
 Ref1.Mul.j3 kind0 mode1 t24 t27 t33 t73
noncomputable def Ref1.Mul.j1 (kind0 mode1:Int) (t24 t27:quadratref01.float) (t33:Int) (t34:Bool):Option (Int × Int × Int) :=
 bif t34 then
 Option.bind (Ref1.Quiet kind0) fun t44 =>
 some (t44,0,0)
 else
 letk (t24.what.toList == (⟨#[105,110,102,105,110,105,116,101]⟩:ByteArray).toList) fun t48 =>
 bif t48 then
 letk (t27.what.toList == (⟨#[122,101,114,111]⟩:ByteArray).toList) fun t52 =>
 bif t52 then
 Ref1.Mul.j2 kind0 mode1 t24 t27 t33 true
 else
 letk (t24.what.toList == (⟨#[122,101,114,111]⟩:ByteArray).toList) fun t57_1 =>
 bif t57_1 then
 letk (t27.what.toList == (⟨#[105,110,102,105,110,105,116,101]⟩:ByteArray).toList) fun t61_1 =>
 Ref1.Mul.j2 kind0 mode1 t24 t27 t33 t61_1
 else
 Ref1.Mul.j2 kind0 mode1 t24 t27 t33 false
 else
 letk (t24.what.toList == (⟨#[122,101,114,111]⟩:ByteArray).toList) fun t57 =>
 bif t57 then
 letk (t27.what.toList == (⟨#[105,110,102,105,110,105,116,101]⟩:ByteArray).toList) fun t61 =>
 Ref1.Mul.j2 kind0 mode1 t24 t27 t33 t61
 else
 Ref1.Mul.j2 kind0 mode1 t24 t27 t33 false
noncomputable def Ref1.Mul (kind0 mode1 a2 b3:Int):Option (Int × Int × Int) :=
 Option.bind (Ref1.asked kind0 mode1 a2 b3) fun t20 =>
 letk (!t20) fun t21 =>
 bif t21 then
 some (0,0,2)
 else
 Option.bind (Ref1.taken kind0 a2) fun t24 =>
 Option.bind (Ref1.taken kind0 b3) fun t27 =>
 letk (IntKind.i64.wrap (t24.sign + t27.sign)) fun t32 =>
 chk ((2:Int) ≠ 0) <|
 letk (t32.tmod (2:Int)) fun t33 =>
 letk (t24.what.toList == (⟨#[110,111,110,101]⟩:ByteArray).toList) fun t37 =>
 bif t37 then
 Ref1.Mul.j1 kind0 mode1 t24 t27 t33 true
 else
 letk (t27.what.toList == (⟨#[110,111,110,101]⟩:ByteArray).toList) fun t41 =>
 Ref1.Mul.j1 kind0 mode1 t24 t27 t33 t41
theorem Ref1.Mul_ok {kind0 mode1 a2 b3:Int} {r:Int × Int × Int} (h0:Ref1.Mul kind0 mode1 a2 b3 = some r):Gives Tryz.prog 115 [J kind0,J mode1,J a2,J b3] (.tup [J r.1,J r.2.1,J r.2.2]):=by
 unfold Ref1.Mul at h0
 refine W' [(0,13),(44,13),(55,17),(76,21)] Tryz.func115 ?_
 refine Gate.go (A' h0 Ref1.asked_ok fun t20 h1=>?_)
 refine C' h1 (fun h3=>?_) fun h3=>?_
 refine Gate.go (A' h3 Ref1.taken_ok fun t24 h4=>?_)
 refine Gate.go (A' h4 Ref1.taken_ok fun t27 h5=>?_)
 refine V' ?_
 refine V' ?_
 refine V' ?_
 refine V' ?_
 refine N' h5 fun t32 h6=>?_
 refine S' h6 fun h7=>?_
 refine N' h7 fun t33 h8=>?_
 refine CutN.of (fun s=>∃ x11_0 x11_1 x11_2 x11_3 y12_0 y12_1 y12_2 y12_3,Ref1.Mul.j0 kind0 mode1 t33 x11_0 x11_1 x11_2 x11_3 y12_0 y12_1 y12_2 y12_3 = some r ∧ s = ⟨109,[(0,J kind0),(1,J mode1),(11,.ptr 0 0),(12,.ptr 1 0),(13,J t33)],[.box [.lit (.string x11_0),J x11_1,.vs 1 (x11_2.map (eI .u8)),J x11_3],.box [.lit (.string y12_0),J y12_1,.vs 1 (y12_2.map (eI .u8)),J y12_3]]⟩) ?_ ?_
 refine CutN.of (fun s=>∃ t34,Ref1.Mul.j1 kind0 mode1 t24 t27 t33 t34 = some r ∧ s = ⟨109,[(0,J kind0),(1,J mode1),(11,.ptr 0 0),(12,.ptr 1 0),(13,J t33),(34,.lit (.bool t34))],[.box [.lit (.string t24.what),J t24.sign,.vs 1 (t24.m.map (eI .u8)),J t24.e],.box [.lit (.string t27.what),J t27.sign,.vs 1 (t27.m.map (eI .u8)),J t27.e]]⟩) ?_ ?_
 refine C' h8 (fun h10=>?_) fun h10=>?_
 refine N' h10 fun t41 h11=>?_
 exact B' [0,1] ⟨_,h11,rfl⟩
 exact B' [0,1] ⟨_,h10,rfl⟩
 rintro s ⟨t34,hj0,rfl⟩
 unfold Ref1.Mul.j1 at hj0
 rcases t34 with _ | _
 have hj1:=bif_f hj0
 refine CutN.of (fun s=>∃ t45,Ref1.Mul.j2 kind0 mode1 t24 t27 t33 t45 = some r ∧ s = ⟨109,[(0,J kind0),(1,J mode1),(11,.ptr 0 0),(12,.ptr 1 0),(13,J t33),(45,.lit (.bool t45))],[.box [.lit (.string t24.what),J t24.sign,.vs 1 (t24.m.map (eI .u8)),J t24.e],.box [.lit (.string t27.what),J t27.sign,.vs 1 (t27.m.map (eI .u8)),J t27.e]]⟩) ?_ ?_
 refine C' hj1 (fun hj3=>?_) fun hj3=>?_
 refine C' hj3 (fun hj5=>?_) fun hj5=>?_
 exact B' [0,1] ⟨_,hj5,rfl⟩
 refine N' hj5 fun t61 hj6=>?_
 exact B' [0,1] ⟨_,hj6,rfl⟩
 refine C' hj3 (fun hj5=>?_) fun hj5=>?_
 refine C' hj5 (fun hj7=>?_) fun hj7=>?_
 exact B' [0,1] ⟨_,hj7,rfl⟩
 refine N' hj7 fun t61_1 hj8=>?_
 exact B' [0,1] ⟨_,hj8,rfl⟩
 exact B' [0,1] ⟨_,hj5,rfl⟩
 rintro s ⟨t45,hj0,rfl⟩
 unfold Ref1.Mul.j2 at hj0
 rcases t45 with _ | _
 have hj1:=bif_f hj0
 refine CutN.of (fun s=>∃ t66,Ref1.Mul.j3 kind0 mode1 t24 t27 t33 t66 = some r ∧ s = ⟨109,[(0,J kind0),(1,J mode1),(11,.ptr 0 0),(12,.ptr 1 0),(13,J t33),(66,.lit (.bool t66))],[.box [.lit (.string t24.what),J t24.sign,.vs 1 (t24.m.map (eI .u8)),J t24.e],.box [.lit (.string t27.what),J t27.sign,.vs 1 (t27.m.map (eI .u8)),J t27.e]]⟩) ?_ ?_
 refine C' hj1 (fun hj3=>?_) fun hj3=>?_
 refine N' hj3 fun t73 hj4=>?_
 exact B' [0,1] ⟨_,hj4,rfl⟩
 exact B' [0,1] ⟨_,hj3,rfl⟩
 rintro s ⟨t66,hj0,rfl⟩
 unfold Ref1.Mul.j3 at hj0
 rcases t66 with _ | _
 have hj1:=bif_f hj0
 refine C' hj1 (fun hj3=>?_) fun hj3=>?_
 refine C' hj3 (fun hj5=>?_) fun hj5=>?_
 exact B' [0,1] ⟨_,_,_,_,_,_,_,_,hj5,rfl⟩
 refine Gate.go (A' hj5 Ref1.Zero_ok fun t89 hj6=>?_)
 exact R' (E:=E8') hj6
 refine Gate.go (A' hj3 Ref1.Zero_ok fun t89_1 hj4=>?_)
 exact R' (E:=E8') hj4
 have hj1:=bif_t hj0
 refine Gate.go (A' hj1 Ref1.Infinite_ok fun t77 hj2=>?_)
 exact R' (E:=E8') hj2
 have hj1:=bif_t hj0
 refine Gate.go (A' hj1 Ref1.Quiet_ok fun t65 hj2=>?_)
 exact R' (E:=E8') hj2
 have hj1:=bif_t hj0
 refine Gate.go (A' hj1 Ref1.Quiet_ok fun t44 hj2=>?_)
 exact R' (E:=E8') hj2
 rintro s ⟨x11_0,x11_1,x11_2,x11_3,y12_0,y12_1,y12_2,y12_3,hj0,rfl⟩
 unfold Ref1.Mul.j0 at hj0
 refine L' [0,1] [0,1,11,12,13] ?_
 refine DrawB.ofG [none,none,none,none,none,none,none,none,none,none,none,none,none,none,none,none,none,none,none] Tryz_mixed (by kernel_rfl) (by kernel_rfl) ?_
 refine D' rfl (D' rfl (D' rfl (D' rfl (D' rfl (D' rfl (D' rfl ?_))))))
 refine DC' hj0 (fun e=>Z' (Ref1.Times_ok e) rfl) fun t98 hj1=>?_
 refine D' rfl (D' rfl (D' rfl (D' rfl ?_)))
 refine DN' hj1 (fun e=>n' e rfl) fun t103 hj2=>?_
 obtain ⟨⟨t104_0,t104_1⟩,et104,hj3⟩:=bind_elim hj2
 refine DNodeB.of (.tup [J t104_0,J t104_1]) ?_ ?_
 refine Z' (Ref1.Rounded_ok et104) ?_
 rfl
 refine D' rfl (D' rfl (D' rfl (D' rfl (D' rfl ?_))))
 exact R' (E:=E8') hj3
 exact R' (E:=E8') h3
noncomputable def Ref1.Divide.s0 (a0 b1 out6 rest7:List Int) (i8:Int):Option (((List Int) × (List Int) × Int) ⊕ ((List Int) × (List Int))) :=
 letk (decide (i8 ≥ (0:Int))) fun t16 =>
 bif t16 then
 chk (0 ≤ i8) <|
 Option.bind (a0[i8.toNat]?) fun t21 =>
 chk ((([t21]).length + rest7.length) * 1 ≤ 140737488355328) <|
 letk (([t21]) ++ rest7) fun t25 =>
 Option.bind (Ref1.trim t25) fun t26 =>
 Option.bind (Ref1.Cmp t26 b1) fun t29 =>
 letk (decide (t29 ≥ (0:Int))) fun t30 =>
 bif t30 then
 Option.bind (Ref1.Minus t26 b1) fun t33 =>
 chk (0 ≤ i8 ∧ i8 < (out6.length:Int)) <|
 letk (0 + i8.toNat) fun t36 =>
 Option.bind (out6[t36]?) fun old =>
 letk (out6.set t36 1) fun l =>
 letk (IntKind.i64.wrap (i8 - (1:Int))) fun t18_1 =>
 some (.inl (l,t33,t18_1))
 else
 letk (IntKind.i64.wrap (i8 - (1:Int))) fun t18 =>
 some (.inl (out6,t26,t18))
 else
 ((
 Option.bind (Ref1.trim out6) fun t38 =>
 some (t38,rest7))).map .inr
noncomputable def Ref1.Divide.l0 (a0 b1 out6 rest7:List Int) (i8:Int):Option ((List Int) × (List Int)):=loopO (fun v:(List Int) × (List Int) × Int=>Ref1.Divide.s0 a0 b1 v.1 v.2.1 v.2.2) (out6,rest7,i8)
noncomputable def Ref1.Divide (a0 b1:List Int):Option ((List Int) × (List Int)) :=
 letk ((a0.length:Int)) fun t10 =>
 chk (0 ≤ t10 ∧ t10 ≤ t10 ∧ t10 ≤ 9223372036854775807 ∧ 1 * t10 ≤ 140737488355328) <|
 letk ((List.replicate t10.toNat 0:List Int)) fun t11 =>
 letk ((a0.length:Int)) fun t13 =>
 letk (IntKind.i64.wrap (t13 - (1:Int))) fun t14 =>
 Ref1.Divide.l0 a0 b1 t11 ([]) t14
abbrev E18':(List Int) × (List Int) → AV:=fun r=>(.tup [.vs 1 (r.1.map (eI .u8)),.vs 1 (r.2.map (eI .u8))])
theorem Ref1.Divide_ok {a0 b1:List Int} {r:(List Int) × (List Int)} (h0:Ref1.Divide a0 b1 = some r):Gives Tryz.prog 159 [.vs 1 (a0.map (eI .u8)),.vs 1 (b1.map (eI .u8))] (.tup [.vs 1 (r.1.map (eI .u8)),.vs 1 (r.2.map (eI .u8))]):=by
 unfold Ref1.Divide at h0
 refine W' [] Tryz.func159 ?_
 obtain ⟨t10,et10,h1⟩:=letk_elim h0
 refine Nm.mk ⟨t10,by rw [et10,List.length_map],?_⟩
 refine S' h1 fun h2=>?_
 obtain ⟨t11,et11,h3⟩:=letk_elim h2
 refine Nm.mk ⟨t11.map (eI .u8),by rw [et11,List.map_replicate]; rfl,?_⟩
 obtain ⟨t13,et13,h4⟩:=letk_elim h3
 refine Nm.mk ⟨t13,by rw [et13,List.length_map],?_⟩
 refine N' h4 fun t14 h5=>?_
 unfold Ref1.Divide.l0 at h5
 refine LoopB.of (σ:=(List Int) × (List Int) × Int) (ρ:=(List Int) × (List Int)) (fun v:(List Int) × (List Int) × Int=>Ref1.Divide.s0 a0 b1 v.1 v.2.1 v.2.2) (fun v=>(⟨40,[(0,.vs 1 (a0.map (eI .u8))),(1,.vs 1 (b1.map (eI .u8))),(6,.ref 0 0 ((v.1.map (eI .u8)).length)),(7,.vs 1 (v.2.1.map (eI .u8))),(8,J v.2.2)],[.arr 1 (v.1.map (eI .u8))]⟩:St)) (t11,[],t14) h5 (B' [0] rfl) ?_
 rintro K1 ⟨out6,rest7,i8⟩ x1 hs0_0 hl1 hr1
 replace hs0_0:Ref1.Divide.s0 a0 b1 out6 rest7 i8 = some x1:=hs0_0
 unfold Ref1.Divide.s0 at hs0_0
 refine C' hs0_0 (fun hs0_2=>?_) fun hs0_2=>?_
 obtain ⟨yhs0_2_0,hs0_2u,ehs0_2_0⟩:=map_elim hs0_2
 have ehs0_2_0:=(hr1 _ ehs0_2_0.symm).symm
 subst ehs0_2_0
 obtain ⟨t38,et38,hs0_2u0⟩:=bind_elim hs0_2u
 refine Gate.weak (Sees.of (Weak.objs (k:=40) (keep:=[]) (frz:=[0]) (m:=0) (ts:=[(7,.vs 1 (rest7.map (eI .u8))),(37,.vs 1 (out6.map (eI .u8)))]) (hs:=[]) rfl (by decide) rfl rfl ⟨rfl,fun _ h=>by cases h⟩ ⟨.s,(WV.all (k:=0) (by decide) rfl),trivial⟩)) ?_
 refine Z' (Ref1.trim_ok et38) ?_
 exact R' (E:=E18') hs0_2u0
 obtain ⟨chs0_3,hs0_3⟩:=chk_elim hs0_2
 obtain ⟨t21,et21,hs0_4⟩:=bind_elim hs0_3
 refine Side.mk chs0_3 ?_
 refine At.by et21 ?_
 refine Gate.go ?_
 refine Nm.mk ⟨([t21]).map (eI .u8),rfl,?_⟩
 obtain ⟨chs0_5,hs0_5⟩:=chk_elim hs0_4
 obtain ⟨t25,et25,hs0_6⟩:=letk_elim hs0_5
 refine Gate.go ?_
 refine Side.mk (full_le _) ?_
 refine Side.mk (one_map (fun _ _ hc=>by simp only [AV.cells,List.mem_singleton] at hc; subst hc; rfl)) ?_
 refine Side.mk (side_rv (by decide) chs0_5) ?_
 refine Nm.mk ⟨t25.map (eI .u8),by rw [et25]; exact app_rv,?_⟩
 obtain ⟨t26,et26,hs0_7⟩:=bind_elim hs0_6
 refine Gate.weak (Sees.of (Weak.objs (k:=40) (keep:=[0]) (frz:=[2]) (m:=0) (ts:=[(0,.vs 1 (a0.map (eI .u8))),(1,.vs 1 (b1.map (eI .u8))),(6,.ref 0 0 ((out6.map (eI .u8)).length)),(8,J i8),(25,.vs 1 (t25.map (eI .u8)))]) (hs:=[.arr 1 (out6.map (eI .u8))]) rfl (by decide) rfl rfl ⟨⟨_,rfl,.arr _ _⟩,⟨rfl,fun _ h=>by cases h⟩⟩ ⟨.s,.s,(.ref _ _ _ 0 rfl),.s,(WV.all (k:=2) (by decide) rfl),trivial⟩)) ?_
 refine Z' (Ref1.trim_ok et26) ?_
 refine Gate.go (A' hs0_7 Ref1.Cmp_ok fun t29 hs0_8=>?_)
 refine C' hs0_8 (fun hs0_10=>?_) fun hs0_10=>?_
 refine N' hs0_10 fun t18 hs0_11=>?_
 exact B' [0] ⟨_,hl1 _ (Option.some.inj hs0_11).symm,rfl⟩
 refine Gate.go (A' hs0_10 Ref1.Minus_ok fun t33 hs0_11=>?_)
 obtain ⟨chs0_12,hs0_12⟩:=chk_elim hs0_11
 obtain ⟨t36,et36,hs0_13⟩:=letk_elim hs0_12
 refine Side.mk (by simpa only [List.length_map] using chs0_12) ?_
 refine Nm.mk ⟨t36,et36,?_⟩
 obtain ⟨old,eold,hs0_14⟩:=bind_elim hs0_13
 obtain ⟨l,el,hs0_15⟩:=letk_elim hs0_14
 refine At.by eold ?_
 refine Side.mk ⟨Nat.le_of_ble_eq_true rfl,rfl⟩ ?_
 refine Nm.mk ⟨l.map (eI .u8),by rw [el,List.map_set]; rfl,?_⟩
 rw [show (out6.map (eI .u8)).length = (l.map (eI .u8)).length from by rw [el,List.length_map,List.length_map,List.length_set]]
 refine N' hs0_15 fun t18_1 hs0_16=>?_
 exact B' [0] ⟨_,hl1 _ (Option.some.inj hs0_16).symm,rfl⟩
noncomputable def Ref1.Div.j0 (kind0 mode1 t35:Int) (x11_0:ByteArray) (x11_1:Int) (x11_2:List Int) (x11_3:Int) (y12_0:ByteArray) (y12_1:Int) (y12_2:List Int) (y12_3:Int):Option (Int × Int × Int) :=
 Option.bind (Ref1.Digits kind0) fun t98 =>
 letk (IntKind.i64.wrap ((2:Int) * t98)) fun t99 =>
 letk (IntKind.i64.wrap (t99 + (4:Int))) fun t100 =>
 Option.bind (Ref1.Up x11_2 t100) fun t101 =>
 Option.bind (Ref1.Divide t101 y12_2) fun (t104_0,t104_1) =>
 letk (IntKind.i64.wrap (x11_3 - y12_3)) fun t116 =>
 Option.bind (Ref1.Digits kind0) fun t118 =>
 letk (IntKind.i64.wrap ((2:Int) * t118)) fun t119 =>
 letk (IntKind.i64.wrap (t116 - t119)) fun t120 =>
 letk (IntKind.i64.wrap (t120 - (4:Int))) fun t121 =>
 letk ((t104_1.length:Int)) fun t123 =>
 letk (decide (t123 > (0:Int))) fun t124 =>
 Option.bind (Ref1.Rounded kind0 mode1 t35 t104_0 t121 t124) fun (t125_0,t125_1) =>
 some (t125_0,t125_1,0)
noncomputable def Ref1.Div.j2 (kind0 mode1:Int) (t26 t29:quadratref01.float) (t35:Int) (t47:Bool):Option (Int × Int × Int) :=
 bif t47 then
 Option.bind (Ref1.Quiet kind0) fun t67 =>
 some (t67,1,0)
 else
 letk (t26.what.toList == (⟨#[105,110,102,105,110,105,116,101]⟩:ByteArray).toList) fun t71 =>
 bif t71 then
 Option.bind (Ref1.Infinite kind0 t35) fun t74 =>
 some (t74,0,0)
 else
 letk (t29.what.toList == (⟨#[122,101,114,111]⟩:ByteArray).toList) fun t78 =>
 bif t78 then
 Option.bind (Ref1.Infinite kind0 t35) fun t81 =>
 some (t81,2,0)
 else
 letk (t29.what.toList == (⟨#[105,110,102,105,110,105,116,101]⟩:ByteArray).toList) fun t85 =>
 bif t85 then
 Option.bind (Ref1.Zero kind0 t35) fun t93_1 =>
 some (t93_1,0,0)
 else
 letk (t26.what.toList == (⟨#[122,101,114,111]⟩:ByteArray).toList) fun t89 =>
 bif t89 then
 Option.bind (Ref1.Zero kind0 t35) fun t93 =>
 some (t93,0,0)
 else
 Ref1.Div.j0 kind0 mode1 t35 t26.what t26.sign t26.m t26.e t29.what t29.sign t29.m t29.e
noncomputable def Ref1.Div.j1 (kind0 mode1:Int) (t26 t29:quadratref01.float) (t35:Int) (t36:Bool):Option (Int × Int × Int) :=
 bif t36 then
 Option.bind (Ref1.Quiet kind0) fun t46 =>
 some (t46,0,0)
 else
 letk (t26.what.toList == (⟨#[105,110,102,105,110,105,116,101]⟩:ByteArray).toList) fun t50 =>
 bif t50 then
 letk (t29.what.toList == (⟨#[105,110,102,105,110,105,116,101]⟩:ByteArray).toList) fun t54 =>
 bif t54 then
 Ref1.Div.j2 kind0 mode1 t26 t29 t35 true
 else
 letk (t26.what.toList == (⟨#[122,101,114,111]⟩:ByteArray).toList) fun t59_1 =>
 bif t59_1 then
 letk (t29.what.toList == (⟨#[122,101,114,111]⟩:ByteArray).toList) fun t63_1 =>
 Ref1.Div.j2 kind0 mode1 t26 t29 t35 t63_1
 else
 Ref1.Div.j2 kind0 mode1 t26 t29 t35 false
 else
 letk (t26.what.toList == (⟨#[122,101,114,111]⟩:ByteArray).toList) fun t59 =>
 bif t59 then
 letk (t29.what.toList == (⟨#[122,101,114,111]⟩:ByteArray).toList) fun t63 =>
 Ref1.Div.j2 kind0 mode1 t26 t29 t35 t63
 else
 Ref1.Div.j2 kind0 mode1 t26 t29 t35 false
noncomputable def Ref1.Div (kind0 mode1 a2 b3:Int):Option (Int × Int × Int) :=
 Option.bind (Ref1.asked kind0 mode1 a2 b3) fun t22 =>
 letk (!t22) fun t23 =>
 bif t23 then
 some (0,0,2)
 else
 Option.bind (Ref1.taken kind0 a2) fun t26 =>
 Option.bind (Ref1.taken kind0 b3) fun t29 =>
 letk (IntKind.i64.wrap (t26.sign + t29.sign)) fun t34 =>
 chk ((2:Int) ≠ 0) <|
 letk (t34.tmod (2:Int)) fun t35 =>
 letk (t26.what.toList == (⟨#[110,111,110,101]⟩:ByteArray).toList) fun t39 =>
 bif t39 then
 Ref1.Div.j1 kind0 mode1 t26 t29 t35 true
 else
 letk (t29.what.toList == (⟨#[110,111,110,101]⟩:ByteArray).toList) fun t43 =>
 Ref1.Div.j1 kind0 mode1 t26 t29 t35 t43
theorem Ref1.Div_ok {kind0 mode1 a2 b3:Int} {r:Int × Int × Int} (h0:Ref1.Div kind0 mode1 a2 b3 = some r):Gives Tryz.prog 116 [J kind0,J mode1,J a2,J b3] (.tup [J r.1,J r.2.1,J r.2.2]):=by
 unfold Ref1.Div at h0
 refine W' [(0,15),(46,13),(57,17)] Tryz.func116 ?_
 refine Gate.go (A' h0 Ref1.asked_ok fun t22 h1=>?_)
 refine C' h1 (fun h3=>?_) fun h3=>?_
 refine Gate.go (A' h3 Ref1.taken_ok fun t26 h4=>?_)
 refine Gate.go (A' h4 Ref1.taken_ok fun t29 h5=>?_)
 refine V' ?_
 refine V' ?_
 refine V' ?_
 refine V' ?_
 refine N' h5 fun t34 h6=>?_
 refine S' h6 fun h7=>?_
 refine N' h7 fun t35 h8=>?_
 refine CutN.of (fun s=>∃ x11_0 x11_1 x11_2 x11_3 y12_0 y12_1 y12_2 y12_3,Ref1.Div.j0 kind0 mode1 t35 x11_0 x11_1 x11_2 x11_3 y12_0 y12_1 y12_2 y12_3 = some r ∧ s = ⟨130,[(0,J kind0),(1,J mode1),(11,.ptr 0 0),(12,.ptr 1 0),(13,J t35)],[.box [.lit (.string x11_0),J x11_1,.vs 1 (x11_2.map (eI .u8)),J x11_3],.box [.lit (.string y12_0),J y12_1,.vs 1 (y12_2.map (eI .u8)),J y12_3]]⟩) ?_ ?_
 refine CutN.of (fun s=>∃ t36,Ref1.Div.j1 kind0 mode1 t26 t29 t35 t36 = some r ∧ s = ⟨130,[(0,J kind0),(1,J mode1),(11,.ptr 0 0),(12,.ptr 1 0),(13,J t35),(36,.lit (.bool t36))],[.box [.lit (.string t26.what),J t26.sign,.vs 1 (t26.m.map (eI .u8)),J t26.e],.box [.lit (.string t29.what),J t29.sign,.vs 1 (t29.m.map (eI .u8)),J t29.e]]⟩) ?_ ?_
 refine C' h8 (fun h10=>?_) fun h10=>?_
 refine N' h10 fun t43 h11=>?_
 exact B' [0,1] ⟨_,h11,rfl⟩
 exact B' [0,1] ⟨_,h10,rfl⟩
 rintro s ⟨t36,hj0,rfl⟩
 unfold Ref1.Div.j1 at hj0
 rcases t36 with _ | _
 have hj1:=bif_f hj0
 refine CutN.of (fun s=>∃ t47,Ref1.Div.j2 kind0 mode1 t26 t29 t35 t47 = some r ∧ s = ⟨130,[(0,J kind0),(1,J mode1),(11,.ptr 0 0),(12,.ptr 1 0),(13,J t35),(47,.lit (.bool t47))],[.box [.lit (.string t26.what),J t26.sign,.vs 1 (t26.m.map (eI .u8)),J t26.e],.box [.lit (.string t29.what),J t29.sign,.vs 1 (t29.m.map (eI .u8)),J t29.e]]⟩) ?_ ?_
 refine C' hj1 (fun hj3=>?_) fun hj3=>?_
 refine C' hj3 (fun hj5=>?_) fun hj5=>?_
 exact B' [0,1] ⟨_,hj5,rfl⟩
 refine N' hj5 fun t63 hj6=>?_
 exact B' [0,1] ⟨_,hj6,rfl⟩
 refine C' hj3 (fun hj5=>?_) fun hj5=>?_
 refine C' hj5 (fun hj7=>?_) fun hj7=>?_
 exact B' [0,1] ⟨_,hj7,rfl⟩
 refine N' hj7 fun t63_1 hj8=>?_
 exact B' [0,1] ⟨_,hj8,rfl⟩
 exact B' [0,1] ⟨_,hj5,rfl⟩
 rintro s ⟨t47,hj0,rfl⟩
 unfold Ref1.Div.j2 at hj0
 rcases t47 with _ | _
 have hj1:=bif_f hj0
 refine C' hj1 (fun hj3=>?_) fun hj3=>?_
 refine C' hj3 (fun hj5=>?_) fun hj5=>?_
 refine C' hj5 (fun hj7=>?_) fun hj7=>?_
 refine C' hj7 (fun hj9=>?_) fun hj9=>?_
 exact B' [0,1] ⟨_,_,_,_,_,_,_,_,hj9,rfl⟩
 refine Gate.go (A' hj9 Ref1.Zero_ok fun t93 hj10=>?_)
 exact R' (E:=E8') hj10
 refine Gate.go (A' hj7 Ref1.Zero_ok fun t93_1 hj8=>?_)
 exact R' (E:=E8') hj8
 refine Gate.go (A' hj5 Ref1.Infinite_ok fun t81 hj6=>?_)
 exact R' (E:=E8') hj6
 refine Gate.go (A' hj3 Ref1.Infinite_ok fun t74 hj4=>?_)
 exact R' (E:=E8') hj4
 have hj1:=bif_t hj0
 refine Gate.go (A' hj1 Ref1.Quiet_ok fun t67 hj2=>?_)
 exact R' (E:=E8') hj2
 have hj1:=bif_t hj0
 refine Gate.go (A' hj1 Ref1.Quiet_ok fun t46 hj2=>?_)
 exact R' (E:=E8') hj2
 rintro s ⟨x11_0,x11_1,x11_2,x11_3,y12_0,y12_1,y12_2,y12_3,hj0,rfl⟩
 unfold Ref1.Div.j0 at hj0
 refine L' [0,1] [0,1,11,12,13] ?_
 refine DrawB.ofG [none,none,none,none,none,none,none,none,none,none,none,none,none,none,none] Tryz_mixed (by kernel_rfl) (by kernel_rfl) ?_
 refine D' rfl (D' rfl (D' rfl ?_))
 refine DC' hj0 (fun e=>Z' (Ref1.Digits_ok e) rfl) fun t98 hj1=>?_
 refine DN' hj1 (fun e=>n' e rfl) fun t99 hj2=>?_
 refine DN' hj2 (fun e=>n' e rfl) fun t100 hj3=>?_
 refine DC' hj3 (fun e=>Z' (Ref1.Up_ok e) rfl) fun t101 hj4=>?_
 refine D' rfl (D' rfl ?_)
 obtain ⟨⟨t104_0,t104_1⟩,et104,hj5⟩:=bind_elim hj4
 refine DNodeB.of (.tup [.vs 1 (t104_0.map (eI .u8)),.vs 1 (t104_1.map (eI .u8))]) ?_ ?_
 refine Z' (Ref1.Divide_ok et104) ?_
 rfl
 refine D' rfl (D' rfl (D' rfl (D' rfl (D' rfl ?_))))
 refine L' [0,1] [0,1,11,12,13,14,15] ?_
 refine DrawB.ofG [none,none,none,none,none,none,none,none,none,none,none,none,none,none,none,none,none,none,none,none,none,none,none] Tryz_mixed (by kernel_rfl) (by kernel_rfl) ?_
 refine D' rfl (D' rfl (D' rfl (D' rfl (D' rfl (D' rfl (D' rfl (D' rfl ?_)))))))
 refine DN' hj5 (fun e=>n' e rfl) fun t116 hj6=>?_
 refine D' rfl ?_
 refine DC' hj6 (fun e=>Z' (Ref1.Digits_ok e) rfl) fun t118 hj7=>?_
 refine DN' hj7 (fun e=>n' e rfl) fun t119 hj8=>?_
 refine DN' hj8 (fun e=>n' e rfl) fun t120 hj9=>?_
 refine DN' hj9 (fun e=>n' e rfl) fun t121 hj10=>?_
 refine D' rfl ?_
 obtain ⟨t123,et123,hj11⟩:=letk_elim hj10
 refine DNodeB.of (J t123) ?_ ?_
 refine Nm.mk ⟨t123,by rw [et123,List.length_map],?_⟩
 rfl
 refine DN' hj11 (fun e=>n' e rfl) fun t124 hj12=>?_
 obtain ⟨⟨t125_0,t125_1⟩,et125,hj13⟩:=bind_elim hj12
 refine DNodeB.of (.tup [J t125_0,J t125_1]) ?_ ?_
 refine Z' (Ref1.Rounded_ok et125) ?_
 rfl
 refine D' rfl (D' rfl (D' rfl (D' rfl (D' rfl ?_))))
 exact R' (E:=E8') hj13
 exact R' (E:=E8') h3
noncomputable def Ref7.one (op0:ByteArray) (a1 b2:api.Value):Option (api.Value × Int) :=
 letk (if b2.Kind > a1.Kind then b2.Kind else a1.Kind) fun t16 =>
 Option.bind (Ref7.brought t16 (⟨a1.Kind,a1.N⟩:api.Value)) fun (t20_0,t20_1) =>
 Option.bind (Ref7.brought t16 (⟨b2.Kind,b2.N⟩:api.Value)) fun (t26_0,t26_1) =>
 Option.bind (Ref7.compared (⟨t20_0.Kind,t20_0.N⟩:api.Value) (⟨t26_0.Kind,t26_0.N⟩:api.Value)) fun t31 =>
 letk (op0.toList == (⟨#[46,97,110,100,46]⟩:ByteArray).toList) fun t34 =>
 bif t34 then
 letk (IntKind.i64.wrap (t20_0.N + t26_0.N)) fun t39 =>
 letk (t39 == (2:Int)) fun t40 =>
 Option.bind (Ref7.truth t40) fun t41 =>
 some ((⟨t41.Kind,t41.N⟩:api.Value),0)
 else
 letk (op0.toList == (⟨#[46,111,114,46]⟩:ByteArray).toList) fun t43 =>
 bif t43 then
 letk (IntKind.i64.wrap (t20_0.N + t26_0.N)) fun t48 =>
 letk (decide (t48 > (0:Int))) fun t49 =>
 Option.bind (Ref7.truth t49) fun t50 =>
 some ((⟨t50.Kind,t50.N⟩:api.Value),0)
 else
 letk (op0.toList == (⟨#[61,61]⟩:ByteArray).toList) fun t52 =>
 bif t52 then
 letk (t31 == (0:Int)) fun t54 =>
 Option.bind (Ref7.truth t54) fun t55 =>
 some ((⟨t55.Kind,t55.N⟩:api.Value),0)
 else
 letk (op0.toList == (⟨#[47,61]⟩:ByteArray).toList) fun t57 =>
 bif t57 then
 letk (t31 != (0:Int)) fun t59 =>
 Option.bind (Ref7.truth t59) fun t60 =>
 some ((⟨t60.Kind,t60.N⟩:api.Value),0)
 else
 letk (op0.toList == (⟨#[60]⟩:ByteArray).toList) fun t62 =>
 bif t62 then
 letk (t31 == ((-1):Int)) fun t64 =>
 Option.bind (Ref7.truth t64) fun t65 =>
 some ((⟨t65.Kind,t65.N⟩:api.Value),0)
 else
 letk (op0.toList == (⟨#[60,61]⟩:ByteArray).toList) fun t67 =>
 bif t67 then
 letk (t31 == ((-1):Int)) fun t69 =>
 bif t69 then
 Option.bind (Ref7.truth true) fun t74_1 =>
 some ((⟨t74_1.Kind,t74_1.N⟩:api.Value),0)
 else
 letk (t31 == (0:Int)) fun t72 =>
 Option.bind (Ref7.truth t72) fun t74 =>
 some ((⟨t74.Kind,t74.N⟩:api.Value),0)
 else
 letk (op0.toList == (⟨#[62]⟩:ByteArray).toList) fun t76 =>
 bif t76 then
 letk (t31 == (1:Int)) fun t78 =>
 Option.bind (Ref7.truth t78) fun t79 =>
 some ((⟨t79.Kind,t79.N⟩:api.Value),0)
 else
 letk (op0.toList == (⟨#[62,61]⟩:ByteArray).toList) fun t81 =>
 bif t81 then
 letk (t31 == (1:Int)) fun t83 =>
 bif t83 then
 Option.bind (Ref7.truth true) fun t88_1 =>
 some ((⟨t88_1.Kind,t88_1.N⟩:api.Value),0)
 else
 letk (t31 == (0:Int)) fun t86 =>
 Option.bind (Ref7.truth t86) fun t88 =>
 some ((⟨t88.Kind,t88.N⟩:api.Value),0)
 else
 Option.bind (Ref7.Bytes t16) fun t90 =>
 letk (decide (t90 > (0:Int))) fun t92 =>
 bif t92 then
 letk (op0.toList == (⟨#[43]⟩:ByteArray).toList) fun t105 =>
 bif t105 then
 Option.bind (Ref1.Add t90 0 t20_0.N t26_0.N) fun (t112_0,t112_1,t112_2) =>
 some ((⟨t16,t112_0⟩:api.Value),0)
 else
 letk (op0.toList == (⟨#[45]⟩:ByteArray).toList) fun t117 =>
 bif t117 then
 Option.bind (Ref1.Sub t90 0 t20_0.N t26_0.N) fun (t124_0,t124_1,t124_2) =>
 some ((⟨t16,t124_0⟩:api.Value),0)
 else
 letk (op0.toList == (⟨#[42]⟩:ByteArray).toList) fun t129 =>
 bif t129 then
 Option.bind (Ref1.Mul t90 0 t20_0.N t26_0.N) fun (t136_0,t136_1,t136_2) =>
 some ((⟨t16,t136_0⟩:api.Value),0)
 else
 Option.bind (Ref1.Div t90 0 t20_0.N t26_0.N) fun (t100_0,t100_1,t100_2) =>
 some ((⟨t16,t100_0⟩:api.Value),0)
 else
 letk (op0.toList == (⟨#[43]⟩:ByteArray).toList) fun t145 =>
 bif t145 then
 letk (IntKind.i64.wrap (t20_0.N + t26_0.N)) fun t150 =>
 Option.bind (Ref7.whole t150) fun (t151_0,t151_1) =>
 some ((⟨t151_0.Kind,t151_0.N⟩:api.Value),t151_1)
 else
 letk (op0.toList == (⟨#[45]⟩:ByteArray).toList) fun t155 =>
 bif t155 then
 letk (IntKind.i64.wrap (t20_0.N - t26_0.N)) fun t160 =>
 Option.bind (Ref7.whole t160) fun (t161_0,t161_1) =>
 some ((⟨t161_0.Kind,t161_0.N⟩:api.Value),t161_1)
 else
 letk (op0.toList == (⟨#[42]⟩:ByteArray).toList) fun t165 =>
 bif t165 then
 letk (IntKind.i64.wrap (t20_0.N * t26_0.N)) fun t170 =>
 Option.bind (Ref7.whole t170) fun (t171_0,t171_1) =>
 some ((⟨t171_0.Kind,t171_0.N⟩:api.Value),t171_1)
 else
 letk (t26_0.N == (0:Int)) fun t176 =>
 bif t176 then
 some ((⟨0,0⟩:api.Value),90)
 else
 chk (t26_0.N ≠ 0) <|
 letk (IntKind.i64.wrap (t20_0.N.tdiv t26_0.N)) fun t182 =>
 Option.bind (Ref7.whole t182) fun (t183_0,t183_1) =>
 some ((⟨t183_0.Kind,t183_0.N⟩:api.Value),t183_1)
theorem Ref7.one_ok {op0:ByteArray} {a1 b2:api.Value} {r:api.Value × Int} (h0:Ref7.one op0 a1 b2 = some r):Gives Tryz.prog 64 [.lit (.string op0),api.Value.enc a1,api.Value.enc b2] (.tup [api.Value.enc r.1,J r.2]):=by
 unfold Ref7.one at h0
 refine W' [] Tryz.func64 ?_
 refine V' ?_
 refine V' ?_
 refine V' ?_
 refine N' h0 fun t16 h1=>?_
 obtain ⟨⟨t20_0,t20_1⟩,et20,h2⟩:=bind_elim h1
 refine Gate.go ?_
 refine Z' (Ref7.brought_ok et20) ?_
 refine V' ?_
 obtain ⟨⟨t26_0,t26_1⟩,et26,h3⟩:=bind_elim h2
 refine Gate.go ?_
 refine Z' (Ref7.brought_ok et26) ?_
 refine V' ?_
 refine Gate.go (A' h3 Ref7.compared_ok fun t31 h4=>?_)
 refine C' h4 (fun h6=>?_) fun h6=>?_
 refine C' h6 (fun h8=>?_) fun h8=>?_
 refine C' h8 (fun h10=>?_) fun h10=>?_
 refine C' h10 (fun h12=>?_) fun h12=>?_
 refine C' h12 (fun h14=>?_) fun h14=>?_
 refine C' h14 (fun h16=>?_) fun h16=>?_
 refine C' h16 (fun h18=>?_) fun h18=>?_
 refine C' h18 (fun h20=>?_) fun h20=>?_
 refine Gate.go (A' h20 Ref7.Bytes_ok fun t90 h21=>?_)
 refine C' h21 (fun h23=>?_) fun h23=>?_
 refine C' h23 (fun h25=>?_) fun h25=>?_
 refine C' h25 (fun h27=>?_) fun h27=>?_
 refine C' h27 (fun h29=>?_) fun h29=>?_
 refine C' h29 (fun h31=>?_) fun h31=>?_
 refine S' h31 fun h32=>?_
 refine N' h32 fun t182 h33=>?_
 obtain ⟨⟨t183_0,t183_1⟩,et183,h34⟩:=bind_elim h33
 refine Gate.go ?_
 refine Z' (Ref7.whole_ok et183) ?_
 refine V' ?_
 exact R' (E:=E10') h34
 refine Gate.go ?_
 refine V' ?_
 refine V' ?_
 exact R' (E:=E10') h31
 refine N' h29 fun t170 h30=>?_
 obtain ⟨⟨t171_0,t171_1⟩,et171,h31⟩:=bind_elim h30
 refine Gate.go ?_
 refine Z' (Ref7.whole_ok et171) ?_
 refine V' ?_
 exact R' (E:=E10') h31
 refine N' h27 fun t160 h28=>?_
 obtain ⟨⟨t161_0,t161_1⟩,et161,h29⟩:=bind_elim h28
 refine Gate.go ?_
 refine Z' (Ref7.whole_ok et161) ?_
 refine V' ?_
 exact R' (E:=E10') h29
 refine N' h25 fun t150 h26=>?_
 obtain ⟨⟨t151_0,t151_1⟩,et151,h27⟩:=bind_elim h26
 refine Gate.go ?_
 refine Z' (Ref7.whole_ok et151) ?_
 refine V' ?_
 exact R' (E:=E10') h27
 refine C' h23 (fun h25=>?_) fun h25=>?_
 refine C' h25 (fun h27=>?_) fun h27=>?_
 refine C' h27 (fun h29=>?_) fun h29=>?_
 obtain ⟨⟨t100_0,t100_1,t100_2⟩,et100,h30⟩:=bind_elim h29
 refine Gate.go ?_
 refine Z' (Ref1.Div_ok et100) ?_
 refine Gate.go ?_
 refine V' ?_
 refine V' ?_
 exact R' (E:=E10') h30
 obtain ⟨⟨t136_0,t136_1,t136_2⟩,et136,h30⟩:=bind_elim h29
 refine Gate.go ?_
 refine Z' (Ref1.Mul_ok et136) ?_
 refine Gate.go ?_
 refine V' ?_
 refine V' ?_
 exact R' (E:=E10') h30
 obtain ⟨⟨t124_0,t124_1,t124_2⟩,et124,h28⟩:=bind_elim h27
 refine Gate.go ?_
 refine Z' (Ref1.Sub_ok et124) ?_
 refine Gate.go ?_
 refine V' ?_
 refine V' ?_
 exact R' (E:=E10') h28
 obtain ⟨⟨t112_0,t112_1,t112_2⟩,et112,h26⟩:=bind_elim h25
 refine Gate.go ?_
 refine Z' (Ref1.Add_ok et112) ?_
 refine Gate.go ?_
 refine V' ?_
 refine V' ?_
 exact R' (E:=E10') h26
 refine C' h20 (fun h22=>?_) fun h22=>?_
 refine N' h22 fun t86 h23=>?_
 refine Gate.go (A' h23 Ref7.truth_ok fun t88 h24=>?_)
 refine V' ?_
 exact R' (E:=E10') h24
 refine Gate.go (A' h22 Ref7.truth_ok fun t88_1 h23=>?_)
 refine V' ?_
 exact R' (E:=E10') h23
 refine N' h18 fun t78 h19=>?_
 refine Gate.go (A' h19 Ref7.truth_ok fun t79 h20=>?_)
 refine V' ?_
 exact R' (E:=E10') h20
 refine C' h16 (fun h18=>?_) fun h18=>?_
 refine N' h18 fun t72 h19=>?_
 refine Gate.go (A' h19 Ref7.truth_ok fun t74 h20=>?_)
 refine V' ?_
 exact R' (E:=E10') h20
 refine Gate.go (A' h18 Ref7.truth_ok fun t74_1 h19=>?_)
 refine V' ?_
 exact R' (E:=E10') h19
 refine N' h14 fun t64 h15=>?_
 refine Gate.go (A' h15 Ref7.truth_ok fun t65 h16=>?_)
 refine V' ?_
 exact R' (E:=E10') h16
 refine N' h12 fun t59 h13=>?_
 refine Gate.go (A' h13 Ref7.truth_ok fun t60 h14=>?_)
 refine V' ?_
 exact R' (E:=E10') h14
 refine N' h10 fun t54 h11=>?_
 refine Gate.go (A' h11 Ref7.truth_ok fun t55 h12=>?_)
 refine V' ?_
 exact R' (E:=E10') h12
 refine N' h8 fun t48 h9=>?_
 refine N' h9 fun t49 h10=>?_
 refine Gate.go (A' h10 Ref7.truth_ok fun t50 h11=>?_)
 refine V' ?_
 exact R' (E:=E10') h11
 refine N' h6 fun t39 h7=>?_
 refine N' h7 fun t40 h8=>?_
 refine Gate.go (A' h8 Ref7.truth_ok fun t41 h9=>?_)
 refine V' ?_
 exact R' (E:=E10') h9
noncomputable def Ref7.Do.s0 (op0:ByteArray) (t37_0:List Int) (a4_0_1:Int) (a4_1_1 a4_2_1:List Int) (b5_0_1:Int) (b5_1_1 b5_2_1:List Int) (t6_0_1:Int) (t6_1_1 t6_2_1:List Int) (out11_0:Int) (out11_1 out11_2:List Int) (i12:Int):Option ((Int × (List Int) × (List Int) × Int × (List Int) × (List Int) × Int × (List Int) × (List Int) × Int × (List Int) × (List Int) × Int) ⊕ (api.Array × Int)) :=
 Option.bind (Ref7.Count t37_0) fun t48 =>
 letk (decide (i12 < t48)) fun t49 =>
 bif t49 then
 Option.bind (Ref7.At (⟨a4_0_1,a4_1_1,a4_2_1⟩:api.Array) i12) fun t56 =>
 Option.bind (Ref7.At (⟨b5_0_1,b5_1_1,b5_2_1⟩:api.Array) i12) fun t59 =>
 Option.bind (Ref7.one op0 t56 t59) fun (t60_0,t60_1) =>
 letk (t60_1 != (0:Int)) fun t64 =>
 bif t64 then
 some (.inr ((⟨0,[],[]⟩:api.Array),t60_1))
 else
 chk ((out11_2.length + ([t60_0.N]).length) * 8 ≤ 140737488355328) <|
 letk (out11_2 ++ ([t60_0.N])) fun t72 =>
 letk (IntKind.i64.wrap (i12 + (1:Int))) fun t51 =>
 some (.inl (a4_0_1,a4_1_1,a4_2_1,b5_0_1,b5_1_1,b5_2_1,t6_0_1,t6_1_1,t6_2_1,out11_0,out11_1,t72,t51))
 else
 some (.inr ((⟨out11_0,out11_1,out11_2⟩:api.Array),0))
noncomputable def Ref7.Do.l0 (op0:ByteArray) (t37_0:List Int) (a4_0_1:Int) (a4_1_1 a4_2_1:List Int) (b5_0_1:Int) (b5_1_1 b5_2_1:List Int) (t6_0_1:Int) (t6_1_1 t6_2_1:List Int) (out11_0:Int) (out11_1 out11_2:List Int) (i12:Int):Option (api.Array × Int):=loopO (fun v:Int × (List Int) × (List Int) × Int × (List Int) × (List Int) × Int × (List Int) × (List Int) × Int × (List Int) × (List Int) × Int=>Ref7.Do.s0 op0 t37_0 v.1 v.2.1 v.2.2.1 v.2.2.2.1 v.2.2.2.2.1 v.2.2.2.2.2.1 v.2.2.2.2.2.2.1 v.2.2.2.2.2.2.2.1 v.2.2.2.2.2.2.2.2.1 v.2.2.2.2.2.2.2.2.2.1 v.2.2.2.2.2.2.2.2.2.2.1 v.2.2.2.2.2.2.2.2.2.2.2.1 v.2.2.2.2.2.2.2.2.2.2.2.2) (a4_0_1,a4_1_1,a4_2_1,b5_0_1,b5_1_1,b5_2_1,t6_0_1,t6_1_1,t6_2_1,out11_0,out11_1,out11_2,i12)
noncomputable def Ref7.Do.j0 (op0:ByteArray) (a4_0:Int) (a4_1 a4_2:List Int) (b5_0:Int) (b5_1 b5_2:List Int) (t6_0:Int) (t6_1 t6_2:List Int):Option (api.Array × Int) :=
 Option.bind (Ref7.Kind op0 a4_0 b5_0) fun t29 =>
 letk (t29 == (0:Int)) fun t31 =>
 bif t31 then
 some ((⟨0,[],[]⟩:api.Array),70)
 else
 Option.bind (Ref7.Common ([(⟨a4_0,a4_1,a4_2⟩:api.Array),(⟨b5_0,b5_1,b5_2⟩:api.Array)])) fun (t37_0,t37_1) =>
 letk (!t37_1) fun t41 =>
 bif t41 then
 some ((⟨0,[],[]⟩:api.Array),30)
 else
 Ref7.Do.l0 op0 t37_0 a4_0 a4_1 a4_2 b5_0 b5_1 b5_2 t6_0 t6_1 t6_2 t29 t37_0 ([]) 0
noncomputable def Ref7.Do.j1 (op0:ByteArray) (a4_0_2:Int) (a4_1_2 a4_2_2:List Int) (b5_0_2:Int) (b5_1_2 b5_2_2:List Int) (t6_0_2:Int) (t6_1_2 t6_2_2:List Int) (t22:Bool):Option (api.Array × Int) :=
 bif t22 then
 some ((⟨0,[],[]⟩:api.Array),2)
 else
 Ref7.Do.j0 op0 a4_0_2 a4_1_2 a4_2_2 b5_0_2 b5_1_2 b5_2_2 t6_0_2 t6_1_2 t6_2_2
noncomputable def Ref7.Do (op0:ByteArray) (a1 b2:api.Array):Option (api.Array × Int) :=
 Option.bind (Ref7.Valid (⟨a1.Kind,a1.Shape,a1.Elems⟩:api.Array)) fun t16 =>
 letk (!t16) fun t17 =>
 bif t17 then
 Ref7.Do.j1 op0 a1.Kind a1.Shape a1.Elems b2.Kind b2.Shape b2.Elems 0 ([]) ([]) true
 else
 Option.bind (Ref7.Valid (⟨b2.Kind,b2.Shape,b2.Elems⟩:api.Array)) fun t20 =>
 letk (!t20) fun t21 =>
 Ref7.Do.j1 op0 a1.Kind a1.Shape a1.Elems b2.Kind b2.Shape b2.Elems 0 ([]) ([]) t21
theorem Ref7.Do_ok {op0:ByteArray} {a1 b2:api.Array} {r:api.Array × Int} (h0:Ref7.Do op0 a1 b2 = some r):Gives Tryz.prog 25 [.lit (.string op0),api.Array.enc a1,api.Array.enc b2] (.tup [api.Array.enc r.1,J r.2]):=by
 unfold Ref7.Do at h0
 refine W' [(0,3),(32,5)] Tryz.func25 ?_
 refine V' ?_
 refine V' ?_
 refine V' ?_
 refine CutN.of (fun s=>∃ a4_0 a4_1 a4_2 b5_0 b5_1 b5_2 t6_0 t6_1 t6_2,Ref7.Do.j0 op0 a4_0 a4_1 a4_2 b5_0 b5_1 b5_2 t6_0 t6_1 t6_2 = some r ∧ s = ⟨75,[(0,.lit (.string op0)),(4,.ptr 0 0),(5,.ptr 1 0),(6,.ptr 2 0)],[.box [J a4_0,VI' a4_1,VI' a4_2],.box [J b5_0,VI' b5_1,VI' b5_2],.box [J t6_0,VI' t6_1,VI' t6_2]]⟩) ?_ ?_
 refine CutN.of (fun s=>∃ a4_0_2 a4_1_2 a4_2_2 b5_0_2 b5_1_2 b5_2_2 t6_0_2 t6_1_2 t6_2_2 t22,Ref7.Do.j1 op0 a4_0_2 a4_1_2 a4_2_2 b5_0_2 b5_1_2 b5_2_2 t6_0_2 t6_1_2 t6_2_2 t22 = some r ∧ s = ⟨75,[(0,.lit (.string op0)),(4,.ptr 0 0),(5,.ptr 1 0),(6,.ptr 2 0),(22,.lit (.bool t22))],[.box [J a4_0_2,VI' a4_1_2,VI' a4_2_2],.box [J b5_0_2,VI' b5_1_2,VI' b5_2_2],.box [J t6_0_2,VI' t6_1_2,VI' t6_2_2]]⟩) ?_ ?_
 refine Gate.go (A' h0 Ref7.Valid_ok fun t16 h1=>?_)
 refine C' h1 (fun h3=>?_) fun h3=>?_
 refine Gate.go (A' h3 Ref7.Valid_ok fun t20 h4=>?_)
 refine N' h4 fun t21 h5=>?_
 exact B' [0,1,2] ⟨_,_,_,_,_,_,_,_,_,_,h5,rfl⟩
 exact B' [0,1,2] ⟨_,_,_,_,_,_,_,_,_,_,h3,rfl⟩
 rintro s ⟨a4_0_2,a4_1_2,a4_2_2,b5_0_2,b5_1_2,b5_2_2,t6_0_2,t6_1_2,t6_2_2,t22,hj0,rfl⟩
 unfold Ref7.Do.j1 at hj0
 rcases t22 with _ | _
 have hj1:=bif_f hj0
 exact B' [0,1,2] ⟨_,_,_,_,_,_,_,_,_,hj1,rfl⟩
 have hj1:=bif_t hj0
 refine Gate.go ?_
 refine V' ?_
 refine V' ?_
 have ehj1_0:=Option.some.inj hj1
 subst ehj1_0
 exact Returns.frozen (r:=.tup [api.Array.enc ((⟨0,[],[]⟩:api.Array)),J 2]) [] rfl rfl (WV.tups ⟨(WV.aggs ⟨.s,(.nilsVs _),(.nilsVs _),trivial⟩),.s,trivial⟩) ⟨rfl,rfl⟩
 rintro s ⟨a4_0,a4_1,a4_2,b5_0,b5_1,b5_2,t6_0,t6_1,t6_2,hj0,rfl⟩
 unfold Ref7.Do.j0 at hj0
 refine Gate.go (A' hj0 Ref7.Kind_ok fun t29 hj1=>?_)
 refine C' hj1 (fun hj3=>?_) fun hj3=>?_
 refine Gate.go ?_
 refine Nm.mk ⟨([(⟨a4_0,a4_1,a4_2⟩:api.Array),(⟨b5_0,b5_1,b5_2⟩:api.Array)]).map (api.Array.enc),rfl,?_⟩
 obtain ⟨⟨t37_0,t37_1⟩,et37,hj4⟩:=bind_elim hj3
 refine Gate.weak (Sees.of (Weak.objs (k:=75) (keep:=[0,1,2]) (frz:=[3]) (m:=0) (ts:=[(0,.lit (.string op0)),(4,.ptr 0 0),(5,.ptr 1 0),(6,.ptr 2 0),(8,J t29),(36,.vs 3 (([(⟨a4_0,a4_1,a4_2⟩:api.Array),(⟨b5_0,b5_1,b5_2⟩:api.Array)]).map (api.Array.enc)))]) (hs:=[.box [J a4_0,VI' a4_1,VI' a4_2],.box [J b5_0,VI' b5_1,VI' b5_2],.box [J t6_0,VI' t6_1,VI' t6_2]]) rfl (by decide) rfl rfl ⟨⟨_,rfl,WO.refl rfl⟩,⟨⟨_,rfl,WO.refl rfl⟩,⟨⟨_,rfl,WO.refl rfl⟩,⟨rfl,fun _ h=>by cases h⟩⟩⟩⟩ ⟨.s,(.ptr _ _ 0 rfl),(.ptr _ _ 1 rfl),(.ptr _ _ 2 rfl),.s,(WV.all (k:=3) (by decide) rfl),trivial⟩)) ?_
 refine Z' (Ref7.Common_ok et37) ?_
 refine C' hj4 (fun hj6=>?_) fun hj6=>?_
 refine Gate.go ?_
 refine V' ?_
 refine V' ?_
 refine V' ?_
 unfold Ref7.Do.l0 at hj6
 refine LoopB.of (σ:=Int × (List Int) × (List Int) × Int × (List Int) × (List Int) × Int × (List Int) × (List Int) × Int × (List Int) × (List Int) × Int) (ρ:=api.Array × Int) (fun v:Int × (List Int) × (List Int) × Int × (List Int) × (List Int) × Int × (List Int) × (List Int) × Int × (List Int) × (List Int) × Int=>Ref7.Do.s0 op0 t37_0 v.1 v.2.1 v.2.2.1 v.2.2.2.1 v.2.2.2.2.1 v.2.2.2.2.2.1 v.2.2.2.2.2.2.1 v.2.2.2.2.2.2.2.1 v.2.2.2.2.2.2.2.2.1 v.2.2.2.2.2.2.2.2.2.1 v.2.2.2.2.2.2.2.2.2.2.1 v.2.2.2.2.2.2.2.2.2.2.2.1 v.2.2.2.2.2.2.2.2.2.2.2.2) (fun v=>(⟨75,[(0,.lit (.string op0)),(4,.ptr 0 0),(5,.ptr 1 0),(6,.ptr 2 0),(9,VI' t37_0),(11,.ptr 3 0),(12,J v.2.2.2.2.2.2.2.2.2.2.2.2)],[.box [J v.1,VI' v.2.1,VI' v.2.2.1],.box [J v.2.2.2.1,VI' v.2.2.2.2.1,VI' v.2.2.2.2.2.1],.box [J v.2.2.2.2.2.2.1,VI' v.2.2.2.2.2.2.2.1,VI' v.2.2.2.2.2.2.2.2.1],.box [J v.2.2.2.2.2.2.2.2.2.1,VI' v.2.2.2.2.2.2.2.2.2.2.1,.ref 4 0 ((v.2.2.2.2.2.2.2.2.2.2.2.1.map (eI .i64)).length)],.arr 1 (v.2.2.2.2.2.2.2.2.2.2.2.1.map (eI .i64))]⟩:St)) (a4_0,a4_1,a4_2,b5_0,b5_1,b5_2,t6_0,t6_1,t6_2,t29,t37_0,[],0) hj6 (BackS.by rfl (Sees.of (Weak.objs (keep:=[0,1,2,3]) (frz:=[]) (m:=1) rfl (by decide) rfl rfl ⟨⟨_,rfl,WO.boxs ⟨.s,.s,.s,trivial⟩⟩,⟨⟨_,rfl,WO.boxs ⟨.s,.s,.s,trivial⟩⟩,⟨⟨_,rfl,WO.boxs ⟨.s,.s,.s,trivial⟩⟩,⟨⟨_,rfl,WO.boxs ⟨.s,.s,(.nilsRef 4 (by decide) (by decide)),trivial⟩⟩,⟨rfl,fun ob ho=>by simp only [List.mem_cons,List.not_mem_nil,or_false] at ho; exact ⟨_,ho⟩⟩⟩⟩⟩⟩ ⟨.s,(.ptr _ _ 0 rfl),(.ptr _ _ 1 rfl),(.ptr _ _ 2 rfl),.s,(.ptr _ _ 3 rfl),.s,trivial⟩))) ?_
 rintro K1 ⟨a4_0_1,a4_1_1,a4_2_1,b5_0_1,b5_1_1,b5_2_1,t6_0_1,t6_1_1,t6_2_1,out11_0,out11_1,out11_2,i12⟩ x1 hs0_0 hl1 hr1
 replace hs0_0:Ref7.Do.s0 op0 t37_0 a4_0_1 a4_1_1 a4_2_1 b5_0_1 b5_1_1 b5_2_1 t6_0_1 t6_1_1 t6_2_1 out11_0 out11_1 out11_2 i12 = some x1:=hs0_0
 unfold Ref7.Do.s0 at hs0_0
 refine Gate.go (A' hs0_0 Ref7.Count_ok fun t48 hs0_1=>?_)
 refine C' hs0_1 (fun hs0_3=>?_) fun hs0_3=>?_
 have ehs0_3u_0:=hr1 _ (Option.some.inj hs0_3).symm
 have hs0_3u:=congrArg some ehs0_3u_0
 refine V' ?_
 have ehs0_3u_0:=Option.some.inj hs0_3u
 subst ehs0_3u_0
 exact Returns.frozen (r:=.tup [api.Array.enc ((⟨out11_0,out11_1,out11_2⟩:api.Array)),J 0]) [4] rfl rfl (WV.tups ⟨(WV.aggs ⟨.s,.s,(WV.all (k:=4) (by decide) rfl),trivial⟩),.s,trivial⟩) ⟨rfl,rfl⟩
 refine L' [0,1,2,3,4] [0,4,5,6,9,11,12] ?_
 refine DrawB.ofFN 1 [.box [J a4_0_1,VI' a4_1_1,VI' a4_2_1],.box [J b5_0_1,VI' b5_1_1,VI' b5_2_1],.box [J t6_0_1,VI' t6_1_1,VI' t6_2_1],.box [J out11_0,VI' out11_1,.ref 4 0 ((out11_2.map (eI .i64)).length)],.arr 1 (out11_2.map (eI .i64)),.arr 1 []] 5 6 [[],[0],[],[],[1],[],[],[],[],[],[],[5],[5],[]] [[],[],[],[],[],[],[],[],[],[],[],[5],[5],[]] [none,none,none,none,none,none,none,none,none,none,none,some 5,none,none] Tryz_mixed (by kernel_rfl) rfl rfl rfl (by kernel_rfl) ?_
 refine FNode.no (W:=[]) (.lit (.string op0)) ?_ rfl ?_
 rfl
 refine FNode.rd (F:=[0]) (W:=[]) (.agg [J a4_0_1,VI' a4_1_1,VI' a4_2_1]) ?_ rfl rfl ?_
 rfl
 refine FNode.no (W:=[]) (J i12) ?_ rfl ?_
 rfl
 obtain ⟨t56,et56,hs0_4⟩:=bind_elim hs0_3
 refine FNode.no (W:=[]) (api.Value.enc t56) ?_ rfl ?_
 refine Z' (Ref7.At_ok et56) ?_
 rfl
 refine FNode.rd (F:=[1]) (W:=[]) (.agg [J b5_0_1,VI' b5_1_1,VI' b5_2_1]) ?_ rfl rfl ?_
 rfl
 refine FNode.no (W:=[]) (J i12) ?_ rfl ?_
 rfl
 obtain ⟨t59,et59,hs0_5⟩:=bind_elim hs0_4
 refine FNode.no (W:=[]) (api.Value.enc t59) ?_ rfl ?_
 refine Z' (Ref7.At_ok et59) ?_
 rfl
 obtain ⟨⟨t60_0,t60_1⟩,et60,hs0_6⟩:=bind_elim hs0_5
 refine FNode.no (W:=[]) (.tup [api.Value.enc t60_0,J t60_1]) ?_ rfl ?_
 refine Z' (Ref7.one_ok et60) ?_
 rfl
 refine FNode.no (W:=[]) (.tup [api.Value.enc t60_0,J t60_1]) ?_ rfl ?_
 rfl
 refine FNode.no (W:=[]) (api.Value.enc t60_0) ?_ rfl ?_
 rfl
 refine FNode.no (W:=[]) (J t60_1) ?_ rfl ?_
 rfl
 refine FNode.nw (F:=[5]) (W:=[5]) (.ptr 6 0) (.ptr 5 0) [.box [J a4_0_1,VI' a4_1_1,VI' a4_2_1],.box [J b5_0_1,VI' b5_1_1,VI' b5_2_1],.box [J t6_0_1,VI' t6_1_1,VI' t6_2_1],.box [J out11_0,VI' out11_1,.ref 4 0 ((out11_2.map (eI .i64)).length)],.arr 1 (out11_2.map (eI .i64)),.box [J 0,J 0]] [.dead,.dead,.dead,.dead,.dead,.arr 1 []] (.box [J 0,J 0]) ?_ rfl rfl rfl rfl ⟨_,rfl⟩ (.inl ⟨0,rfl,rfl⟩) rfl rfl ?_
 refine V' ?_
 rfl
 refine FNode.pl (F:=[5]) (W:=[5]) (.undef) [.box [J a4_0_1,VI' a4_1_1,VI' a4_2_1],.box [J b5_0_1,VI' b5_1_1,VI' b5_2_1],.box [J t6_0_1,VI' t6_1_1,VI' t6_2_1],.box [J out11_0,VI' out11_1,.ref 4 0 ((out11_2.map (eI .i64)).length)],.arr 1 (out11_2.map (eI .i64)),.box [J t60_0.Kind,J t60_0.N]] ?_ rfl rfl rfl rfl ?_
 refine V' ?_
 rfl
 refine FNode.no (W:=[]) (J t60_1) ?_ rfl ?_
 rfl
 refine C' hs0_6 (fun hs0_8=>?_) fun hs0_8=>?_
 refine Gate.go ?_
 refine Nm.mk ⟨([t60_0.N]).map (eI .i64),rfl,?_⟩
 obtain ⟨chs0_9,hs0_9⟩:=chk_elim hs0_8
 obtain ⟨t72,et72,hs0_10⟩:=letk_elim hs0_9
 refine Gate.go ?_
 refine Side.mk (full_le _) ?_
 refine Side.mk ⟨full_le _,one_map (fun _ _ hc=>by simp only [AV.cells,List.mem_singleton] at hc; subst hc; rfl)⟩ ?_
 refine Side.mk (side_rr (by decide) chs0_9) ?_
 refine Nm.mk ⟨t72.map (eI .i64),by rw [et72]; exact app_rr (m:=[t60_0.N]),?_⟩
 refine V' ?_
 refine N' hs0_10 fun t51 hs0_11=>?_
 exact B' [0,1,2,3,7] ⟨_,hl1 _ (Option.some.inj hs0_11).symm,rfl⟩
 refine Gate.go ?_
 refine V' ?_
 refine V' ?_
 have ehs0_8_0:=hr1 _ (Option.some.inj hs0_8).symm
 subst ehs0_8_0
 exact Returns.frozen (r:=.tup [api.Array.enc ((⟨0,[],[]⟩:api.Array)),J t60_1]) [] rfl rfl (WV.tups ⟨(WV.aggs ⟨.s,(.nilsVs _),(.nilsVs _),trivial⟩),.s,trivial⟩) ⟨rfl,rfl⟩
 refine Gate.go ?_
 refine V' ?_
 refine V' ?_
 have ehj6_0:=Option.some.inj hj6
 subst ehj6_0
 exact Returns.frozen (r:=.tup [api.Array.enc ((⟨0,[],[]⟩:api.Array)),J 30]) [] rfl rfl (WV.tups ⟨(WV.aggs ⟨.s,(.nilsVs _),(.nilsVs _),trivial⟩),.s,trivial⟩) ⟨rfl,rfl⟩
 refine Gate.go ?_
 refine V' ?_
 refine V' ?_
 have ehj3_0:=Option.some.inj hj3
 subst ehj3_0
 exact Returns.frozen (r:=.tup [api.Array.enc ((⟨0,[],[]⟩:api.Array)),J 70]) [] rfl rfl (WV.tups ⟨(WV.aggs ⟨.s,(.nilsVs _),(.nilsVs _),trivial⟩),.s,trivial⟩) ⟨rfl,rfl⟩
noncomputable def Ref7.Same (a0 b1:api.Array):Option Bool :=
 letk (a0.Kind == b1.Kind) fun t9 =>
 bif t9 then
 Option.bind (Ref7.SameShape a0.Shape b1.Shape) fun t15 =>
 bif t15 then
 Option.bind (Ref7.SameShape a0.Elems b1.Elems) fun t22 =>
 some t22
 else
 some false
 else
 some false
theorem Ref7.Same_ok {a0 b1:api.Array} {r:Bool} (h0:Ref7.Same a0 b1 = some r):Gives Tryz.prog 15 [api.Array.enc a0,api.Array.enc b1] (.lit (.bool r)):=by
 unfold Ref7.Same at h0
 refine W' [] Tryz.func15 ?_
 refine V' ?_
 refine V' ?_
 refine C' h0 (fun h2=>?_) fun h2=>?_
 exact R' (E:=E1') h2
 refine Gate.go (A' h2 Ref7.SameShape_ok fun t15 h3=>?_)
 rcases t15 with _ | _
 have h4:=bif_f h3
 exact R' (E:=E1') h4
 have h4:=bif_t h3
 refine Gate.go (A' h4 Ref7.SameShape_ok fun t22 h5=>?_)
 exact R' (E:=E1') h5
noncomputable def Arr.Same (a0 b1:api.Array):Option Bool :=
 letk (a0.Kind == b1.Kind) fun t9 =>
 bif t9 then
 Option.bind (Slcs.Equal___int_int_ a0.Shape b1.Shape) fun t15 =>
 bif t15 then
 Option.bind (Slcs.Equal___int_int_ a0.Elems b1.Elems) fun t22 =>
 some t22
 else
 some false
 else
 some false
theorem Arr.Same_ok {a0 b1:api.Array} {r:Bool} (h0:Arr.Same a0 b1 = some r):Gives Tryz.prog 21 [api.Array.enc a0,api.Array.enc b1] (.lit (.bool r)):=by
 unfold Arr.Same at h0
 refine W' [] Tryz.func21 ?_
 refine V' ?_
 refine V' ?_
 refine C' h0 (fun h2=>?_) fun h2=>?_
 exact R' (E:=E1') h2
 refine Gate.go (A' h2 Slcs.Equal___int_int__ok fun t15 h3=>?_)
 rcases t15 with _ | _
 have h4:=bif_f h3
 exact R' (E:=E1') h4
 have h4:=bif_t h3
 refine Gate.go (A' h4 Slcs.Equal___int_int__ok fun t22 h5=>?_)
 exact R' (E:=E1') h5
noncomputable def Law7.ArrayDoes (op0:ByteArray) (a1 b2:api.Array):Option Bool :=
 Option.bind (Law7.isLarge ([(⟨a1.Kind,a1.Shape,a1.Elems⟩:api.Array),(⟨b2.Kind,b2.Shape,b2.Elems⟩:api.Array)])) fun t14 =>
 bif t14 then
 Option.bind (Law7.Awake) fun t15 =>
 some t15
 else
 Option.bind (Arr.Do op0 (⟨a1.Kind,a1.Shape,a1.Elems⟩:api.Array) (⟨b2.Kind,b2.Shape,b2.Elems⟩:api.Array)) fun (t20_0,t20_1) =>
 Option.bind (Ref7.Do op0 (⟨a1.Kind,a1.Shape,a1.Elems⟩:api.Array) (⟨b2.Kind,b2.Shape,b2.Elems⟩:api.Array)) fun (t27_0,t27_1) =>
 letk (t20_1 == t27_1) fun t32 =>
 bif t32 then
 Option.bind (Ref7.Same (⟨t20_0.Kind,t20_0.Shape,t20_0.Elems⟩:api.Array) (⟨t27_0.Kind,t27_0.Shape,t27_0.Elems⟩:api.Array)) fun t36 =>
 bif t36 then
 Option.bind (Arr.Valid (⟨a1.Kind,a1.Shape,a1.Elems⟩:api.Array)) fun t40 =>
 Option.bind (Ref7.Valid (⟨a1.Kind,a1.Shape,a1.Elems⟩:api.Array)) fun t42 =>
 letk (t40 == t42) fun t43 =>
 bif t43 then
 Option.bind (Arr.Same (⟨a1.Kind,a1.Shape,a1.Elems⟩:api.Array) (⟨b2.Kind,b2.Shape,b2.Elems⟩:api.Array)) fun t48 =>
 Option.bind (Ref7.Same (⟨a1.Kind,a1.Shape,a1.Elems⟩:api.Array) (⟨b2.Kind,b2.Shape,b2.Elems⟩:api.Array)) fun t51 =>
 letk (t48 == t51) fun t52 =>
 bif t52 then
 Option.bind (Law7.Awake) fun t55 =>
 some t55
 else
 some false
 else
 some false
 else
 some false
 else
 some false
theorem Law7.ArrayDoes_ok {op0:ByteArray} {a1 b2:api.Array} {r:Bool} (h0:Law7.ArrayDoes op0 a1 b2 = some r):Gives Tryz.prog 6 [.lit (.string op0),api.Array.enc a1,api.Array.enc b2] (.lit (.bool r)):=by
 unfold Law7.ArrayDoes at h0
 refine W' [] Tryz.func6 ?_
 refine V' ?_
 refine V' ?_
 refine Gate.go ?_
 refine Nm.mk ⟨([(⟨a1.Kind,a1.Shape,a1.Elems⟩:api.Array),(⟨b2.Kind,b2.Shape,b2.Elems⟩:api.Array)]).map (api.Array.enc),rfl,?_⟩
 obtain ⟨t14,et14,h1⟩:=bind_elim h0
 refine Gate.weak (Sees.of (Weak.objs (k:=57) (keep:=[0,1]) (frz:=[2]) (m:=0) (ts:=[(0,.lit (.string op0)),(4,.ptr 0 0),(5,.ptr 1 0),(13,.vs 3 (([(⟨a1.Kind,a1.Shape,a1.Elems⟩:api.Array),(⟨b2.Kind,b2.Shape,b2.Elems⟩:api.Array)]).map (api.Array.enc)))]) (hs:=[.box [J a1.Kind,VI' a1.Shape,VI' a1.Elems],.box [J b2.Kind,VI' b2.Shape,VI' b2.Elems]]) rfl (by decide) rfl rfl ⟨⟨_,rfl,WO.refl rfl⟩,⟨⟨_,rfl,WO.refl rfl⟩,⟨rfl,fun _ h=>by cases h⟩⟩⟩ ⟨.s,(.ptr _ _ 0 rfl),(.ptr _ _ 1 rfl),(WV.all (k:=2) (by decide) rfl),trivial⟩)) ?_
 refine Z' (Law7.isLarge_ok et14) ?_
 rcases t14 with _ | _
 have h2:=bif_f h1
 obtain ⟨⟨t20_0,t20_1⟩,et20,h3⟩:=bind_elim h2
 refine Gate.go ?_
 refine Z' (Arr.Do_ok et20) ?_
 refine V' ?_
 refine V' ?_
 obtain ⟨⟨t27_0,t27_1⟩,et27,h4⟩:=bind_elim h3
 refine Gate.go ?_
 refine Z' (Ref7.Do_ok et27) ?_
 refine V' ?_
 refine V' ?_
 refine L' [0,1,2,3] [4,5,7,8,9,10] ?_
 refine DrawB.ofG [none,none,none,none,some 33,some 33,some 33,none,none,some 38,some 38,some 38,some 38,some 38,none,none,some 45,some 45,some 45,some 45,some 45,some 45,some 45,none,none,some 54,none,none] Tryz_mixed (by kernel_rfl) (by kernel_rfl) ?_
 refine D' rfl (D' rfl ?_)
 refine DN' h4 (fun e=>n' e rfl) fun t32 h5=>?_
 refine D' rfl ?_
 rcases t32 with _ | _
 have h6:=bif_f h5
 refine D' rfl (D' rfl (D' rfl (D' rfl (D' rfl (D' rfl (D' rfl (D' rfl ?_)))))))
 exact R' (E:=E1') h6
 have h6:=bif_t h5
 refine D' rfl (D' rfl ?_)
 refine DC' h6 (fun e=>Z' (Ref7.Same_ok e) rfl) fun t36 h7=>?_
 refine D' rfl (D' rfl ?_)
 rcases t36 with _ | _
 have h8:=bif_f h7
 refine D' rfl (D' rfl (D' rfl (D' rfl (D' rfl (D' rfl ?_)))))
 exact R' (E:=E1') h8
 have h8:=bif_t h7
 refine D' rfl ?_
 refine DC' h8 (fun e=>Z' (Arr.Valid_ok e) rfl) fun t40 h9=>?_
 refine D' rfl ?_
 refine DC' h9 (fun e=>Z' (Ref7.Valid_ok e) rfl) fun t42 h10=>?_
 refine DN' h10 (fun e=>n' e rfl) fun t43 h11=>?_
 refine D' rfl (D' rfl ?_)
 rcases t43 with _ | _
 have h12:=bif_f h11
 refine D' rfl (D' rfl (D' rfl (D' rfl ?_)))
 exact R' (E:=E1') h12
 have h12:=bif_t h11
 refine D' rfl (D' rfl ?_)
 refine DC' h12 (fun e=>Z' (Arr.Same_ok e) rfl) fun t48 h13=>?_
 refine D' rfl (D' rfl ?_)
 refine DC' h13 (fun e=>Z' (Ref7.Same_ok e) rfl) fun t51 h14=>?_
 refine DN' h14 (fun e=>n' e rfl) fun t52 h15=>?_
 refine D' rfl (D' rfl ?_)
 rcases t52 with _ | _
 have h16:=bif_f h15
 refine D' rfl (D' rfl ?_)
 exact R' (E:=E1') h16
 have h16:=bif_t h15
 refine DC' h16 (fun e=>Z' (Law7.Awake_ok e) rfl) fun t55 h17=>?_
 refine D' rfl (D' rfl ?_)
 exact R' (E:=E1') h17
 have h2:=bif_t h1
 refine Gate.go (A' h2 Law7.Awake_ok fun t15 h3=>?_)
 exact R' (E:=E1') h3
end Go.Q
