import Derived.Test.YtoecgpemlfoogaaGreatDoorGN4
import Derived.Test.YtoecgpemlfoogaaGreatDoorFX
import Derived.Test.YtoecgpemlfoogaaGreatDoorProg
namespace Go.Q
open Go Go.Proofs
set_option maxRecDepth 10000
set_option maxHeartbeats 2000000

noncomputable def Ref3.Old.j2 (text0 : ByteArray) (t16 : (List ByteArray)) (i7 : Int) (r6_0_4 : List api.Line) (r6_1_4 : Int) (r6_2_4 : ByteArray) (r6_3_4 : Int) (r6_4_4 : Bool) (r6_5_4 : Int) (part12 : ByteArray) : Option (((List api.Line) × Int × ByteArray × Int × Bool × Int × Int) ⊕ ((List api.Line) × Int × Int)) :=
  chk (((r6_2_4.size + part12.size : Nat) : Int) ≤ 9223372036854775807) <|
  letk (r6_2_4 ++ part12) fun t128 =>
  letk (IntKind.i64.wrap (i7 + (1 : Int))) fun t24 =>
  some (.inl (r6_0_4, r6_1_4, t128, r6_3_4, r6_4_4, r6_5_4, t24))

noncomputable def Ref3.Old.s2 (text0 : ByteArray) (t16 : (List ByteArray)) (i7 : Int) (r6_0_5 : List api.Line) (r6_1_5 : Int) (r6_2_5 : ByteArray) (r6_3_5 : Int) (r6_4_5 : Bool) (r6_5_5 : Int) (part12_1 : ByteArray) : Option (((List api.Line) × Int × ByteArray × Int × Bool × Int × ByteArray) ⊕ (((List api.Line) × Int × ByteArray × Int × Bool × Int × Int) ⊕ ((List api.Line) × Int × Int))) :=
  letk ((part12_1.size : Int)) fun t118 =>
  letk (decide (t118 < (66 : Int))) fun t119 =>
  bif t119 then
    chk (((part12_1.size + (⟨#[32]⟩ : ByteArray).size : Nat) : Int) ≤ 9223372036854775807) <|
    letk (part12_1 ++ (⟨#[32]⟩ : ByteArray)) fun t121 =>
    some (.inl (r6_0_5, r6_1_5, r6_2_5, r6_3_5, r6_4_5, r6_5_5, t121))
  else
    (Ref3.Old.j2 text0 t16 i7 r6_0_5 r6_1_5 r6_2_5 r6_3_5 r6_4_5 r6_5_5 part12_1).map .inr

noncomputable def Ref3.Old.l2 (text0 : ByteArray) (t16 : (List ByteArray)) (i7 : Int) (r6_0_5 : List api.Line) (r6_1_5 : Int) (r6_2_5 : ByteArray) (r6_3_5 : Int) (r6_4_5 : Bool) (r6_5_5 : Int) (part12_1 : ByteArray) : Option (((List api.Line) × Int × ByteArray × Int × Bool × Int × Int) ⊕ ((List api.Line) × Int × Int)) := loopO (fun v : (List api.Line) × Int × ByteArray × Int × Bool × Int × ByteArray => Ref3.Old.s2 text0 t16 i7 v.1 v.2.1 v.2.2.1 v.2.2.2.1 v.2.2.2.2.1 v.2.2.2.2.2.1 v.2.2.2.2.2.2) (r6_0_5, r6_1_5, r6_2_5, r6_3_5, r6_4_5, r6_5_5, part12_1)
noncomputable def Ref3.Old.j1 (text0 : ByteArray) (t16 : (List ByteArray)) (i7 : Int) (s8 : ByteArray) (r6_0_3 : List api.Line) (r6_1_3 : Int) (r6_2_3 : ByteArray) (r6_3_3 : Int) (r6_4_3 : Bool) (r6_5_3 : Int) : Option (((List api.Line) × Int × ByteArray × Int × Bool × Int × Int) ⊕ ((List api.Line) × Int × Int)) :=
  chk (0 ≤ (6 : Int) ∧ (6 : Int) ≤ (s8.size : Int)) <|
  letk (s8.extract (6 : Int).toNat s8.size) fun t97 =>
  Option.bind (Ref3.marks r6_2_3 0) fun t103 =>
  letk ((t103.length : Int)) fun t107 =>
  letk (IntKind.i64.wrap (t107 - (1 : Int))) fun t108 =>
  chk (0 ≤ t108) <|
  Option.bind (t103[t108.toNat]?) fun t109 =>
  Option.bind (Ref3.outside t97 t109 33) fun t111 =>
  letk (decide (t111 ≥ (0 : Int))) fun t113 =>
  bif t113 then
    chk (0 ≤ t111 ∧ t111 ≤ (t97.size : Int)) <|
    letk (t97.extract 0 t111.toNat) fun t116 =>
    Ref3.Old.j2 text0 t16 i7 r6_0_3 r6_1_3 r6_2_3 r6_3_3 r6_4_3 r6_5_3 t116
  else
    Ref3.Old.l2 text0 t16 i7 r6_0_3 r6_1_3 r6_2_3 r6_3_3 r6_4_3 r6_5_3 t97

noncomputable def Ref3.Old.j4 (text0 : ByteArray) (t16 : (List ByteArray)) (i7 : Int) (s8 : ByteArray) (t82_0 : Int) (r6_0_6 : List api.Line) (r6_1_6 : Int) (r6_2_6 : ByteArray) (r6_3_6 : Int) (r6_4_7 : Bool) (r6_5_6 : Int) : Option (((List api.Line) × Int × ByteArray × Int × Bool × Int × Int) ⊕ ((List api.Line) × Int × Int)) :=
  Ref3.Old.j1 text0 t16 i7 s8 r6_0_6 t82_0 r6_2_6 r6_3_6 r6_4_7 r6_5_6

noncomputable def Ref3.Old.j5 (text0 : ByteArray) (t16 : (List ByteArray)) (i7 : Int) (r6_0_2 : List api.Line) (r6_1_2 : Int) (r6_2_2 : ByteArray) (r6_3_2 : Int) (r6_5_2 : Int) (s8 : ByteArray) (r6_4_8 : Bool) (t62 : Bool) : Option (((List api.Line) × Int × ByteArray × Int × Bool × Int × Int) ⊕ ((List api.Line) × Int × Int)) :=
  bif t62 then
    letk (IntKind.i64.wrap (i7 + (1 : Int))) fun t65 =>
    Option.bind (Ref3.reader.wrong r6_0_2 r6_1_2 r6_2_2 r6_3_2 r6_4_8 r6_5_2 t65) fun (o_0_3, o_1_3, o_2_3, o_3_3, o_4_3, o_5_3) =>
    letk (IntKind.i64.wrap (i7 + (1 : Int))) fun t24_1 =>
    some (.inl (o_0_3, o_1_3, o_2_3, o_3_3, o_4_3, o_5_3, t24_1))
  else
    Ref3.Old.j1 text0 t16 i7 s8 r6_0_2 r6_1_2 r6_2_2 r6_3_2 r6_4_8 r6_5_2

noncomputable def Ref3.Old.j3 (text0 : ByteArray) (t16 : (List ByteArray)) (i7 : Int) (r6_0_2 : List api.Line) (r6_1_2 : Int) (r6_2_2 : ByteArray) (r6_3_2 : Int) (r6_5_2 : Int) (s8 : ByteArray) (t45 : ByteArray) (r6_4_6 : Bool) (t53 : Bool) : Option (((List api.Line) × Int × ByteArray × Int × Bool × Int × Int) ⊕ ((List api.Line) × Int × Int)) :=
  bif t53 then
    letk (!r6_4_6) fun t58 =>
    bif t58 then
      Ref3.Old.j5 text0 t16 i7 r6_0_2 r6_1_2 r6_2_2 r6_3_2 r6_5_2 s8 r6_4_6 true
    else
      letk (!(t45.toList == (⟨#[]⟩ : ByteArray).toList)) fun t61 =>
      Ref3.Old.j5 text0 t16 i7 r6_0_2 r6_1_2 r6_2_2 r6_3_2 r6_5_2 s8 r6_4_6 t61
  else
    Option.bind (Ref3.reader.ends r6_0_2 r6_1_2 r6_2_2 r6_3_2 r6_4_6 r6_5_2) fun (o_0_1, o_1_1, o_2_1, o_3_1, o_4_1, o_5_1) =>
    letk (IntKind.i64.wrap (i7 + (1 : Int))) fun t72 =>
    letk (!(t45.toList == (⟨#[]⟩ : ByteArray).toList)) fun t79 =>
    bif t79 then
      Option.bind (Ref3.number t45) fun (t82_0, t82_1) =>
      letk (!t82_1) fun t86 =>
      bif t86 then
        letk (IntKind.i64.wrap (i7 + (1 : Int))) fun t89 =>
        Option.bind (Ref3.reader.wrong o_0_1 0 ⟨#[]⟩ t72 true o_5_1 t89) fun (o_0_2, o_1_2, o_2_2, o_3_2, o_4_2, o_5_2) =>
        Ref3.Old.j4 text0 t16 i7 s8 t82_0 o_0_2 o_1_2 o_2_2 o_3_2 o_4_2 o_5_2
      else
        Ref3.Old.j4 text0 t16 i7 s8 t82_0 o_0_1 0 (⟨#[]⟩) t72 true o_5_1
    else
      Ref3.Old.j1 text0 t16 i7 s8 o_0_1 0 (⟨#[]⟩) t72 true o_5_1

noncomputable def Ref3.Old.s1 (text0 : ByteArray) (t16 : (List ByteArray)) (i7 : Int) (r6_0_2 : List api.Line) (r6_1_2 : Int) (r6_2_2 : ByteArray) (r6_3_2 : Int) (r6_4_2 : Bool) (r6_5_2 : Int) (s8 : ByteArray) : Option (((List api.Line) × Int × ByteArray × Int × Bool × Int × ByteArray) ⊕ (((List api.Line) × Int × ByteArray × Int × Bool × Int × Int) ⊕ ((List api.Line) × Int × Int))) :=
  letk ((s8.size : Int)) fun t39 =>
  letk (decide (t39 < (6 : Int))) fun t40 =>
  bif t40 then
    chk (((s8.size + (⟨#[32]⟩ : ByteArray).size : Nat) : Int) ≤ 9223372036854775807) <|
    letk (s8 ++ (⟨#[32]⟩ : ByteArray)) fun t42 =>
    some (.inl (r6_0_2, r6_1_2, r6_2_2, r6_3_2, r6_4_2, r6_5_2, t42))
  else
    ((
    chk (0 ≤ (5 : Int) ∧ (5 : Int) ≤ (s8.size : Int)) <|
    letk (s8.extract 0 ((5 : Int).toNat)) fun t44 =>
    Option.bind (Ref3.trim t44) fun t45 =>
    chk (0 ≤ (5 : Int) ∧ (5 : Int) < (s8.size : Int)) <|
    letk (bt s8 (5 : Int)) fun t47 =>
    letk (t47 != (32 : Int)) fun t48 =>
    bif t48 then
      chk (0 ≤ (5 : Int) ∧ (5 : Int) < (s8.size : Int)) <|
      letk (bt s8 (5 : Int)) fun t51 =>
      letk (t51 != (48 : Int)) fun t52 =>
      Ref3.Old.j3 text0 t16 i7 r6_0_2 r6_1_2 r6_2_2 r6_3_2 r6_5_2 s8 t45 r6_4_2 t52
    else
      Ref3.Old.j3 text0 t16 i7 r6_0_2 r6_1_2 r6_2_2 r6_3_2 r6_5_2 s8 t45 r6_4_2 false)).map .inr

noncomputable def Ref3.Old.l1 (text0 : ByteArray) (t16 : (List ByteArray)) (i7 : Int) (r6_0_2 : List api.Line) (r6_1_2 : Int) (r6_2_2 : ByteArray) (r6_3_2 : Int) (r6_4_2 : Bool) (r6_5_2 : Int) (s8 : ByteArray) : Option (((List api.Line) × Int × ByteArray × Int × Bool × Int × Int) ⊕ ((List api.Line) × Int × Int)) := loopO (fun v : (List api.Line) × Int × ByteArray × Int × Bool × Int × ByteArray => Ref3.Old.s1 text0 t16 i7 v.1 v.2.1 v.2.2.1 v.2.2.2.1 v.2.2.2.2.1 v.2.2.2.2.2.1 v.2.2.2.2.2.2) (r6_0_2, r6_1_2, r6_2_2, r6_3_2, r6_4_2, r6_5_2, s8)
theorem Ref3.Old.l1_eq (text0 : ByteArray) (t16 : (List ByteArray)) (i7 : Int) (r6_0_2 : List api.Line) (r6_1_2 : Int) (r6_2_2 : ByteArray) (r6_3_2 : Int) (r6_4_2 : Bool) (r6_5_2 : Int) (s8 : ByteArray) : Ref3.Old.l1 text0 t16 i7 r6_0_2 r6_1_2 r6_2_2 r6_3_2 r6_4_2 r6_5_2 s8 = (Ref3.Old.s1 text0 t16 i7 r6_0_2 r6_1_2 r6_2_2 r6_3_2 r6_4_2 r6_5_2 s8).bind (Sum.elim (fun v => Ref3.Old.l1 text0 t16 i7 v.1 v.2.1 v.2.2.1 v.2.2.2.1 v.2.2.2.2.1 v.2.2.2.2.2.1 v.2.2.2.2.2.2) some) := loopO_eq _ _

noncomputable def Ref3.Old.j0 (text0 : ByteArray) (t16 : (List ByteArray)) (i7 : Int) (t27 : ByteArray) (r6_0_1 : List api.Line) (r6_1_1 : Int) (r6_2_1 : ByteArray) (r6_3_1 : Int) (r6_4_1 : Bool) (r6_5_1 : Int) : Option (((List api.Line) × Int × ByteArray × Int × Bool × Int × Int) ⊕ ((List api.Line) × Int × Int)) :=
  Option.bind (Ref3.Comment t27 true) fun t37 =>
  bif t37 then
    letk (IntKind.i64.wrap (i7 + (1 : Int))) fun t24_2 =>
    some (.inl (r6_0_1, r6_1_1, r6_2_1, r6_3_1, r6_4_1, r6_5_1, t24_2))
  else
    Ref3.Old.l1 text0 t16 i7 r6_0_1 r6_1_1 r6_2_1 r6_3_1 r6_4_1 r6_5_1 t27

noncomputable def Ref3.Old.s0 (text0 : ByteArray) (t16 : (List ByteArray)) (r6_0 : List api.Line) (r6_1 : Int) (r6_2 : ByteArray) (r6_3 : Int) (r6_4 : Bool) (r6_5 : Int) (i7 : Int) : Option (((List api.Line) × Int × ByteArray × Int × Bool × Int × Int) ⊕ ((List api.Line) × Int × Int)) :=
  letk ((t16.length : Int)) fun t21 =>
  letk (decide (i7 < t21)) fun t22 =>
  bif t22 then
    chk (0 ≤ i7) <|
    Option.bind (t16[i7.toNat]?) fun t27 =>
    Option.bind (Ref3.isLine t27 72) fun t30 =>
    letk (!t30) fun t31 =>
    bif t31 then
      letk (IntKind.i64.wrap (i7 + (1 : Int))) fun t34 =>
      Option.bind (Ref3.reader.wrong r6_0 r6_1 r6_2 r6_3 r6_4 r6_5 t34) fun (o_0_4, o_1_4, o_2_4, o_3_4, o_4_4, o_5_4) =>
      Ref3.Old.j0 text0 t16 i7 t27 o_0_4 o_1_4 o_2_4 o_3_4 o_4_4 o_5_4
    else
      Ref3.Old.j0 text0 t16 i7 t27 r6_0 r6_1 r6_2 r6_3 r6_4 r6_5
  else
    ((
    Option.bind (Ref3.reader.ends r6_0 r6_1 r6_2 r6_3 r6_4 r6_5) fun (o_0, o_1, o_2, o_3, o_4, o_5) =>
    Option.bind (Ref3.reader.told o_0 o_1 o_2 o_3 o_4 o_5 text0) fun (t136_0, t136_1, t136_2) =>
    some (t136_0, t136_1, t136_2))).map .inr

noncomputable def Ref3.Old.l0 (text0 : ByteArray) (t16 : (List ByteArray)) (r6_0 : List api.Line) (r6_1 : Int) (r6_2 : ByteArray) (r6_3 : Int) (r6_4 : Bool) (r6_5 : Int) (i7 : Int) : Option ((List api.Line) × Int × Int) := loopO (fun v : (List api.Line) × Int × ByteArray × Int × Bool × Int × Int => Ref3.Old.s0 text0 t16 v.1 v.2.1 v.2.2.1 v.2.2.2.1 v.2.2.2.2.1 v.2.2.2.2.2.1 v.2.2.2.2.2.2) (r6_0, r6_1, r6_2, r6_3, r6_4, r6_5, i7)
theorem Ref3.Old.l0_eq (text0 : ByteArray) (t16 : (List ByteArray)) (r6_0 : List api.Line) (r6_1 : Int) (r6_2 : ByteArray) (r6_3 : Int) (r6_4 : Bool) (r6_5 : Int) (i7 : Int) : Ref3.Old.l0 text0 t16 r6_0 r6_1 r6_2 r6_3 r6_4 r6_5 i7 = (Ref3.Old.s0 text0 t16 r6_0 r6_1 r6_2 r6_3 r6_4 r6_5 i7).bind (Sum.elim (fun v => Ref3.Old.l0 text0 t16 v.1 v.2.1 v.2.2.1 v.2.2.2.1 v.2.2.2.2.1 v.2.2.2.2.2.1 v.2.2.2.2.2.2) some) := loopO_eq _ _

noncomputable def Ref3.Old (text0 : ByteArray) : Option ((List api.Line) × Int × Int) :=
  Option.bind (Ref3.split text0) fun t16 =>
  Ref3.Old.l0 text0 t16 ([]) 0 (⟨#[]⟩) 0 false 0 0

theorem Ref3.Old_ok {text0 : ByteArray} {r : (List api.Line) × Int × Int} (h0 : Ref3.Old text0 = some r) : Gives Tryz.prog 10 [.lit (.string text0)] (.tup [.vs 3 (r.1.map (api.Line.enc)), .lit (.int .i64 r.2.1), .lit (.int .i64 r.2.2)]) := by
  unfold Ref3.Old at h0
  refine ACalls.of_swp Tryz.func10 rfl (by decide) rfl (st0 := ⟨140, [(0, .lit (.string text0))], []⟩) rfl (bwp_ok (C := [(0, 9), (0, 23), (0, 30), (63, 29), (0, 22), (72, 31)]) ?_)
  obtain ⟨t16, et16, h1⟩ := bind_elim h0; clear h0
  conv => whnf
  refine Gate.go ?_
  conv => whnf
  refine CallN.by (v := .vs 1 (t16.map (eS))) (Ref3.split_ok et16) rfl rfl ?_
  conv => whnf
  refine Gate.go ?_
  conv => whnf
  refine Nm.mk ⟨[.nils, .lit (.int .i64 0), .lit (.string (⟨#[]⟩)), .lit (.int .i64 0), .lit (.bool false), .lit (.int .i64 0)], rfl, ?_⟩
  conv => whnf
  refine Nm.mk ⟨[.nils, .lit (.int .i64 0), .lit (.string (⟨#[]⟩)), .lit (.int .i64 0), .lit (.bool false), .lit (.int .i64 0)], rfl, ?_⟩
  conv => whnf
  unfold Ref3.Old.l0 at h1
  refine LoopB.of (σ := (List api.Line) × Int × ByteArray × Int × Bool × Int × Int) (ρ := (List api.Line) × Int × Int) (fun v : (List api.Line) × Int × ByteArray × Int × Bool × Int × Int => Ref3.Old.s0 text0 t16 v.1 v.2.1 v.2.2.1 v.2.2.2.1 v.2.2.2.2.1 v.2.2.2.2.2.1 v.2.2.2.2.2.2) (fun v => (⟨140, [(0, .lit (.string text0)), (5, .vs 1 (t16.map (eS))), (6, .ptr 0 0), (7, .lit (.int .i64 v.2.2.2.2.2.2))], [.box [.ref 1 0 ((v.1.map (api.Line.enc)).length), .lit (.int .i64 v.2.1), .lit (.string v.2.2.1), .lit (.int .i64 v.2.2.2.1), .lit (.bool v.2.2.2.2.1), .lit (.int .i64 v.2.2.2.2.2.1)], .arr 3 (v.1.map (api.Line.enc))]⟩ : St)) ([], 0, ⟨#[]⟩, 0, false, 0, 0) h1 (BackS.of (Sees.of (Weak.objs (keep := [0]) (frz := []) (m := 1) (ts := [(0, .lit (.string text0)), (5, .vs 1 (t16.map (eS))), (6, .ptr 0 0), (7, .lit (.int .i64 0))]) (hs := [.box [.ref 1 0 ((([]).map (api.Line.enc)).length), .lit (.int .i64 0), .lit (.string ((⟨#[]⟩))), .lit (.int .i64 0), .lit (.bool false), .lit (.int .i64 0)], .arr 3 ((([])).map (api.Line.enc))]) rfl (by decide) rfl rfl ⟨⟨_, rfl, WO.boxs ⟨(.nilsRef 1 (by decide) (by decide)), (.same (.lit (.int .i64 0)) rfl), (.same (.lit (.string (⟨#[]⟩))) rfl), (.same (.lit (.int .i64 0)) rfl), (.same (.lit (.bool false)) rfl), (.same (.lit (.int .i64 0)) rfl), trivial⟩⟩, ⟨rfl, fun ob ho => by simp only [List.mem_cons, List.not_mem_nil, or_false] at ho; exact ⟨_, ho⟩⟩⟩ ⟨(.same (.lit (.string text0)) rfl), (.same (.vs 1 (t16.map (eS))) rfl), (.ptr _ _ 0 rfl), (.same (.lit (.int .i64 0)) rfl), trivial⟩)) rfl) ?_
  clear h1
  rintro K1 ⟨r6_0, r6_1, r6_2, r6_3, r6_4, r6_5, i7⟩ x1 hs0_0 hl1 hr1
  replace hs0_0 : Ref3.Old.s0 text0 t16 r6_0 r6_1 r6_2 r6_3 r6_4 r6_5 i7 = some x1 := hs0_0
  unfold Ref3.Old.s0 at hs0_0
  change bwp _ _ _ _ _ (⟨140, [(0, .lit (.string text0)), (5, .vs 1 (t16.map (eS))), (6, .ptr 0 0), (7, .lit (.int .i64 i7))], [.box [.ref 1 0 ((r6_0.map (api.Line.enc)).length), .lit (.int .i64 r6_1), .lit (.string r6_2), .lit (.int .i64 r6_3), .lit (.bool r6_4), .lit (.int .i64 r6_5)], .arr 3 (r6_0.map (api.Line.enc))]⟩ : St)
  obtain ⟨t21, et21, hs0_1⟩ := letk_elim hs0_0; clear hs0_0
  conv => whnf
  refine Nm.mk ⟨t21, by rw [et21, List.length_map], ?_⟩
  obtain ⟨t22, et22, hs0_2⟩ := letk_elim hs0_1; clear hs0_1
  conv => whnf
  refine Nm.mk ⟨t22, et22, ?_⟩
  rcases t22 with _ | _
  · have hs0_3 := bif_f hs0_2
    clear hs0_2
    obtain ⟨yhs0_3_0, hs0_3u, ehs0_3_0⟩ := map_elim hs0_3
    have ehs0_3_0 := (hr1 _ ehs0_3_0.symm).symm
    subst ehs0_3_0
    obtain ⟨⟨o_0, o_1, o_2, o_3, o_4, o_5⟩, ee_t133, hs0_3u0⟩ := bind_elim hs0_3u; clear hs0_3u
    conv => whnf
    refine Gate.weak (Sees.of (Weak.objs (keep := [0, 1]) (frz := []) (m := 0) (ts := [(0, .lit (.string text0)), (6, .ptr 0 0), (132, .ptr 0 0)]) (hs := [.box [.ref 1 0 ((r6_0.map (api.Line.enc)).length), .lit (.int .i64 r6_1), .lit (.string r6_2), .lit (.int .i64 r6_3), .lit (.bool r6_4), .lit (.int .i64 r6_5)], .arr 3 (r6_0.map (api.Line.enc))]) rfl (by decide) rfl rfl ⟨⟨_, rfl, WO.boxs ⟨(.ref _ _ _ 1 rfl), (.same (.lit (.int .i64 r6_1)) rfl), (.same (.lit (.string r6_2)) rfl), (.same (.lit (.int .i64 r6_3)) rfl), (.same (.lit (.bool r6_4)) rfl), (.same (.lit (.int .i64 r6_5)) rfl), trivial⟩⟩, ⟨⟨_, rfl, .arr _ _⟩, ⟨rfl, fun _ h => by cases h⟩⟩⟩ ⟨(.same (.lit (.string text0)) rfl), (.ptr _ _ 0 rfl), (.ptr _ _ 0 rfl), trivial⟩)) ?_
    conv => whnf
    refine CallN.hand (k := 1) (v := .tup []) (hs' := [.box [.ref 1 0 ((o_0.map (api.Line.enc)).length), .lit (.int .i64 o_1), .lit (.string o_2), .lit (.int .i64 o_3), .lit (.bool o_4), .lit (.int .i64 o_5)], .arr 3 (o_0.map (api.Line.enc))]) (ts' := [(0, .lit (.string text0)), (6, .ptr 0 0), (132, .ptr 0 0)]) (Ref3.reader.ends_ok ee_t133) rfl rfl ?_
    obtain ⟨⟨t136_0, t136_1, t136_2⟩, ee_t136, hs0_3u1⟩ := bind_elim hs0_3u0; clear hs0_3u0
    conv => whnf
    refine Gate.weak (Sees.of (Weak.objs (keep := [0, 1]) (frz := []) (m := 0) (ts := [(134, .ptr 0 0), (135, .lit (.string text0))]) (hs := [.box [.ref 1 0 ((o_0.map (api.Line.enc)).length), .lit (.int .i64 o_1), .lit (.string o_2), .lit (.int .i64 o_3), .lit (.bool o_4), .lit (.int .i64 o_5)], .arr 3 (o_0.map (api.Line.enc))]) rfl (by decide) rfl rfl ⟨⟨_, rfl, WO.boxs ⟨(.ref _ _ _ 1 rfl), (.same (.lit (.int .i64 o_1)) rfl), (.same (.lit (.string o_2)) rfl), (.same (.lit (.int .i64 o_3)) rfl), (.same (.lit (.bool o_4)) rfl), (.same (.lit (.int .i64 o_5)) rfl), trivial⟩⟩, ⟨⟨_, rfl, .arr _ _⟩, ⟨rfl, fun _ h => by cases h⟩⟩⟩ ⟨(.ptr _ _ 0 rfl), (.same (.lit (.string text0)) rfl), trivial⟩)) ?_
    conv => whnf
    refine CallN.hand (k := 1) (v := .tup [.vs 3 (t136_0.map (api.Line.enc)), .lit (.int .i64 t136_1), .lit (.int .i64 t136_2)]) (hs' := [.box [.undef, .undef, .undef, .undef, .undef, .undef]]) (ts' := [(134, .ptr 0 0), (135, .lit (.string text0))]) (Ref3.reader.told_ok ee_t136) rfl rfl ?_
    have ehs0_3u1_0 := Option.some.inj hs0_3u1
    subst ehs0_3u1_0
    conv => whnf
    exact Returns.pure (r := .tup [.vs 3 (t136_0.map (api.Line.enc)), .lit (.int .i64 t136_1), .lit (.int .i64 t136_2)]) rfl rfl rfl rfl ⟨rfl, rfl⟩
  · have hs0_3 := bif_t hs0_2
    clear hs0_2
    obtain ⟨chs0_4, hs0_4⟩ := chk_elim hs0_3; clear hs0_3
    obtain ⟨t27, et27, hs0_5⟩ := bind_elim hs0_4; clear hs0_4
    conv => whnf
    refine Side.mk chs0_4 ?_
    conv => whnf
    refine At.by et27 ?_
    conv => whnf
    refine CutN.of (fun s => ∃ (r6_0_1 : List api.Line) (r6_1_1 : Int) (r6_2_1 : ByteArray) (r6_3_1 : Int) (r6_4_1 : Bool) (r6_5_1 : Int), Ref3.Old.j0 text0 t16 i7 t27 r6_0_1 r6_1_1 r6_2_1 r6_3_1 r6_4_1 r6_5_1 = some x1 ∧ s = (⟨140, [(0, .lit (.string text0)), (5, .vs 1 (t16.map (eS))), (6, .ptr 0 0), (7, .lit (.int .i64 i7)), (8, .lit (.string t27))], [.box [.ref 1 0 ((r6_0_1.map (api.Line.enc)).length), .lit (.int .i64 r6_1_1), .lit (.string r6_2_1), .lit (.int .i64 r6_3_1), .lit (.bool r6_4_1), .lit (.int .i64 r6_5_1)], .arr 3 (r6_0_1.map (api.Line.enc))]⟩ : St)) ?_ ?_
    · obtain ⟨t30, et30, hs0_6⟩ := bind_elim hs0_5; clear hs0_5
      conv => whnf
      refine Gate.go ?_
      conv => whnf
      refine CallN.by (v := .lit (.bool t30)) (Ref3.isLine_ok et30) rfl rfl ?_
      obtain ⟨t31, et31, hs0_7⟩ := letk_elim hs0_6; clear hs0_6
      conv => whnf
      refine Nm.mk ⟨t31, et31, ?_⟩
      rcases t31 with _ | _
      · have hs0_8 := bif_f hs0_7
        clear hs0_7
        exact BackS.of (Sees.of (Weak.objs (keep := [0, 1]) (frz := []) (m := 0) (ts := [(0, .lit (.string text0)), (5, .vs 1 (t16.map (eS))), (6, .ptr 0 0), (7, .lit (.int .i64 i7)), (8, .lit (.string t27))]) (hs := [.box [.ref 1 0 ((r6_0.map (api.Line.enc)).length), .lit (.int .i64 r6_1), .lit (.string r6_2), .lit (.int .i64 r6_3), .lit (.bool r6_4), .lit (.int .i64 r6_5)], .arr 3 (r6_0.map (api.Line.enc))]) rfl (by decide) rfl rfl ⟨⟨_, rfl, WO.boxs ⟨(.ref _ _ _ 1 rfl), (.same (.lit (.int .i64 r6_1)) rfl), (.same (.lit (.string r6_2)) rfl), (.same (.lit (.int .i64 r6_3)) rfl), (.same (.lit (.bool r6_4)) rfl), (.same (.lit (.int .i64 r6_5)) rfl), trivial⟩⟩, ⟨⟨_, rfl, .arr _ _⟩, ⟨rfl, fun _ h => by cases h⟩⟩⟩ ⟨(.same (.lit (.string text0)) rfl), (.same (.vs 1 (t16.map (eS))) rfl), (.ptr _ _ 0 rfl), (.same (.lit (.int .i64 i7)) rfl), (.same (.lit (.string t27)) rfl), trivial⟩)) ⟨_, _, _, _, _, _, hs0_8, rfl⟩
      · have hs0_8 := bif_t hs0_7
        clear hs0_7
        obtain ⟨t34, et34, hs0_9⟩ := letk_elim hs0_8; clear hs0_8
        conv => whnf
        refine Nm.mk ⟨t34, et34, ?_⟩
        obtain ⟨⟨o_0_4, o_1_4, o_2_4, o_3_4, o_4_4, o_5_4⟩, ee_t35, hs0_10⟩ := bind_elim hs0_9; clear hs0_9
        conv => whnf
        refine Gate.weak (Sees.of (Weak.objs (keep := [0, 1]) (frz := []) (m := 0) (ts := [(0, .lit (.string text0)), (5, .vs 1 (t16.map (eS))), (6, .ptr 0 0), (7, .lit (.int .i64 i7)), (8, .lit (.string t27)), (32, .ptr 0 0), (34, .lit (.int .i64 t34))]) (hs := [.box [.ref 1 0 ((r6_0.map (api.Line.enc)).length), .lit (.int .i64 r6_1), .lit (.string r6_2), .lit (.int .i64 r6_3), .lit (.bool r6_4), .lit (.int .i64 r6_5)], .arr 3 (r6_0.map (api.Line.enc))]) rfl (by decide) rfl rfl ⟨⟨_, rfl, WO.boxs ⟨(.ref _ _ _ 1 rfl), (.same (.lit (.int .i64 r6_1)) rfl), (.same (.lit (.string r6_2)) rfl), (.same (.lit (.int .i64 r6_3)) rfl), (.same (.lit (.bool r6_4)) rfl), (.same (.lit (.int .i64 r6_5)) rfl), trivial⟩⟩, ⟨⟨_, rfl, .arr _ _⟩, ⟨rfl, fun _ h => by cases h⟩⟩⟩ ⟨(.same (.lit (.string text0)) rfl), (.same (.vs 1 (t16.map (eS))) rfl), (.ptr _ _ 0 rfl), (.same (.lit (.int .i64 i7)) rfl), (.same (.lit (.string t27)) rfl), (.ptr _ _ 0 rfl), (.same (.lit (.int .i64 t34)) rfl), trivial⟩)) ?_
        conv => whnf
        refine CallN.hand (k := 1) (v := .tup []) (hs' := [.box [.ref 1 0 ((o_0_4.map (api.Line.enc)).length), .lit (.int .i64 o_1_4), .lit (.string o_2_4), .lit (.int .i64 o_3_4), .lit (.bool o_4_4), .lit (.int .i64 o_5_4)], .arr 3 (o_0_4.map (api.Line.enc))]) (ts' := [(0, .lit (.string text0)), (5, .vs 1 (t16.map (eS))), (6, .ptr 0 0), (7, .lit (.int .i64 i7)), (8, .lit (.string t27)), (32, .ptr 0 0), (34, .lit (.int .i64 t34))]) (Ref3.reader.wrong_ok ee_t35) rfl rfl ?_
        exact BackS.of (Sees.of (Weak.objs (keep := [0, 1]) (frz := []) (m := 0) (ts := [(0, .lit (.string text0)), (5, .vs 1 (t16.map (eS))), (6, .ptr 0 0), (7, .lit (.int .i64 i7)), (8, .lit (.string t27))]) (hs := [.box [.ref 1 0 ((o_0_4.map (api.Line.enc)).length), .lit (.int .i64 o_1_4), .lit (.string o_2_4), .lit (.int .i64 o_3_4), .lit (.bool o_4_4), .lit (.int .i64 o_5_4)], .arr 3 (o_0_4.map (api.Line.enc))]) rfl (by decide) rfl rfl ⟨⟨_, rfl, WO.boxs ⟨(.ref _ _ _ 1 rfl), (.same (.lit (.int .i64 o_1_4)) rfl), (.same (.lit (.string o_2_4)) rfl), (.same (.lit (.int .i64 o_3_4)) rfl), (.same (.lit (.bool o_4_4)) rfl), (.same (.lit (.int .i64 o_5_4)) rfl), trivial⟩⟩, ⟨⟨_, rfl, .arr _ _⟩, ⟨rfl, fun _ h => by cases h⟩⟩⟩ ⟨(.same (.lit (.string text0)) rfl), (.same (.vs 1 (t16.map (eS))) rfl), (.ptr _ _ 0 rfl), (.same (.lit (.int .i64 i7)) rfl), (.same (.lit (.string t27)) rfl), trivial⟩)) ⟨_, _, _, _, _, _, hs0_10, rfl⟩
    · clear hs0_5
      rintro s ⟨r6_0_1, r6_1_1, r6_2_1, r6_3_1, r6_4_1, r6_5_1, hj0, rfl⟩
      unfold Ref3.Old.j0 at hj0
      obtain ⟨t37, et37, hj1⟩ := bind_elim hj0; clear hj0
      conv => whnf
      refine Gate.go ?_
      conv => whnf
      refine CallN.by (v := .lit (.bool t37)) (Ref3.Comment_ok et37) rfl rfl ?_
      rcases t37 with _ | _
      · have hj2 := bif_f hj1
        clear hj1
        conv => whnf
        unfold Ref3.Old.l1 at hj2
        refine LoopB.of (σ := (List api.Line) × Int × ByteArray × Int × Bool × Int × ByteArray) (ρ := ((List api.Line) × Int × ByteArray × Int × Bool × Int × Int) ⊕ ((List api.Line) × Int × Int)) (fun v : (List api.Line) × Int × ByteArray × Int × Bool × Int × ByteArray => Ref3.Old.s1 text0 t16 i7 v.1 v.2.1 v.2.2.1 v.2.2.2.1 v.2.2.2.2.1 v.2.2.2.2.2.1 v.2.2.2.2.2.2) (fun v => (⟨140, [(0, .lit (.string text0)), (5, .vs 1 (t16.map (eS))), (6, .ptr 0 0), (7, .lit (.int .i64 i7)), (8, .lit (.string v.2.2.2.2.2.2))], [.box [.ref 1 0 ((v.1.map (api.Line.enc)).length), .lit (.int .i64 v.2.1), .lit (.string v.2.2.1), .lit (.int .i64 v.2.2.2.1), .lit (.bool v.2.2.2.2.1), .lit (.int .i64 v.2.2.2.2.2.1)], .arr 3 (v.1.map (api.Line.enc))]⟩ : St)) (r6_0_1, r6_1_1, r6_2_1, r6_3_1, r6_4_1, r6_5_1, t27) hj2 (BackS.of (Sees.of (Weak.objs (keep := [0, 1]) (frz := []) (m := 0) (ts := [(0, .lit (.string text0)), (5, .vs 1 (t16.map (eS))), (6, .ptr 0 0), (7, .lit (.int .i64 i7)), (8, .lit (.string t27))]) (hs := [.box [.ref 1 0 ((r6_0_1.map (api.Line.enc)).length), .lit (.int .i64 r6_1_1), .lit (.string r6_2_1), .lit (.int .i64 r6_3_1), .lit (.bool r6_4_1), .lit (.int .i64 r6_5_1)], .arr 3 (r6_0_1.map (api.Line.enc))]) rfl (by decide) rfl rfl ⟨⟨_, rfl, WO.boxs ⟨(.ref _ _ _ 1 rfl), (.same (.lit (.int .i64 r6_1_1)) rfl), (.same (.lit (.string r6_2_1)) rfl), (.same (.lit (.int .i64 r6_3_1)) rfl), (.same (.lit (.bool r6_4_1)) rfl), (.same (.lit (.int .i64 r6_5_1)) rfl), trivial⟩⟩, ⟨⟨_, rfl, .arr _ _⟩, ⟨rfl, fun _ h => by cases h⟩⟩⟩ ⟨(.same (.lit (.string text0)) rfl), (.same (.vs 1 (t16.map (eS))) rfl), (.ptr _ _ 0 rfl), (.same (.lit (.int .i64 i7)) rfl), (.same (.lit (.string t27)) rfl), trivial⟩)) rfl) ?_
        clear hj2
        rintro K2 ⟨r6_0_2, r6_1_2, r6_2_2, r6_3_2, r6_4_2, r6_5_2, s8⟩ x2 hs1_0 hl2 hr2
        replace hs1_0 : Ref3.Old.s1 text0 t16 i7 r6_0_2 r6_1_2 r6_2_2 r6_3_2 r6_4_2 r6_5_2 s8 = some x2 := hs1_0
        unfold Ref3.Old.s1 at hs1_0
        change bwp _ _ _ _ _ (⟨140, [(0, .lit (.string text0)), (5, .vs 1 (t16.map (eS))), (6, .ptr 0 0), (7, .lit (.int .i64 i7)), (8, .lit (.string s8))], [.box [.ref 1 0 ((r6_0_2.map (api.Line.enc)).length), .lit (.int .i64 r6_1_2), .lit (.string r6_2_2), .lit (.int .i64 r6_3_2), .lit (.bool r6_4_2), .lit (.int .i64 r6_5_2)], .arr 3 (r6_0_2.map (api.Line.enc))]⟩ : St)
        obtain ⟨t39, et39, hs1_1⟩ := letk_elim hs1_0; clear hs1_0
        conv => whnf
        refine Nm.mk ⟨t39, et39, ?_⟩
        obtain ⟨t40, et40, hs1_2⟩ := letk_elim hs1_1; clear hs1_1
        conv => whnf
        refine Nm.mk ⟨t40, et40, ?_⟩
        rcases t40 with _ | _
        · have hs1_3 := bif_f hs1_2
          clear hs1_2
          obtain ⟨yhs1_3_0, hs1_3u, ehs1_3_0⟩ := map_elim hs1_3
          have ehs1_3_0 := (hr2 _ ehs1_3_0.symm).symm
          subst ehs1_3_0
          obtain ⟨chs1_3u0, hs1_3u0⟩ := chk_elim hs1_3u; clear hs1_3u
          obtain ⟨t44, et44, hs1_3u1⟩ := letk_elim hs1_3u0; clear hs1_3u0
          conv => whnf
          refine Side.mk chs1_3u0 ?_
          conv => whnf
          refine Nm.mk ⟨t44, et44, ?_⟩
          obtain ⟨t45, et45, hs1_3u2⟩ := bind_elim hs1_3u1; clear hs1_3u1
          conv => whnf
          refine Gate.go ?_
          conv => whnf
          refine CallN.by (v := .lit (.string t45)) (Ref3.trim_ok et45) rfl rfl ?_
          conv => whnf
          refine CutN.of (fun s => ∃ (r6_0_3 : List api.Line) (r6_1_3 : Int) (r6_2_3 : ByteArray) (r6_3_3 : Int) (r6_4_3 : Bool) (r6_5_3 : Int), Ref3.Old.j1 text0 t16 i7 s8 r6_0_3 r6_1_3 r6_2_3 r6_3_3 r6_4_3 r6_5_3 = some x1 ∧ s = (⟨140, [(0, .lit (.string text0)), (5, .vs 1 (t16.map (eS))), (6, .ptr 0 0), (7, .lit (.int .i64 i7)), (8, .lit (.string s8))], [.box [.ref 1 0 ((r6_0_3.map (api.Line.enc)).length), .lit (.int .i64 r6_1_3), .lit (.string r6_2_3), .lit (.int .i64 r6_3_3), .lit (.bool r6_4_3), .lit (.int .i64 r6_5_3)], .arr 3 (r6_0_3.map (api.Line.enc))]⟩ : St)) ?_ ?_
          · conv => whnf
            refine CutN.of (fun s => ∃ (r6_4_6 : Bool) (t53 : Bool), Ref3.Old.j3 text0 t16 i7 r6_0_2 r6_1_2 r6_2_2 r6_3_2 r6_5_2 s8 t45 r6_4_6 t53 = some x1 ∧ s = (⟨140, [(0, .lit (.string text0)), (5, .vs 1 (t16.map (eS))), (6, .ptr 0 0), (7, .lit (.int .i64 i7)), (8, .lit (.string s8)), (9, .lit (.string t45)), (53, .lit (.bool t53))], [.box [.ref 1 0 ((r6_0_2.map (api.Line.enc)).length), .lit (.int .i64 r6_1_2), .lit (.string r6_2_2), .lit (.int .i64 r6_3_2), .lit (.bool r6_4_6), .lit (.int .i64 r6_5_2)], .arr 3 (r6_0_2.map (api.Line.enc))]⟩ : St)) ?_ ?_
            · obtain ⟨chs1_3u3, hs1_3u3⟩ := chk_elim hs1_3u2; clear hs1_3u2
              obtain ⟨t47, et47, hs1_3u4⟩ := letk_elim hs1_3u3; clear hs1_3u3
              conv => whnf
              refine Side.mk chs1_3u3 ?_
              conv => whnf
              refine Nm.mk ⟨t47, et47, ?_⟩
              obtain ⟨t48, et48, hs1_3u5⟩ := letk_elim hs1_3u4; clear hs1_3u4
              conv => whnf
              refine Nm.mk ⟨t48, et48, ?_⟩
              rcases t48 with _ | _
              · have hs1_3u6 := bif_f hs1_3u5
                clear hs1_3u5
                exact BackS.of (Sees.of (Weak.objs (keep := [0, 1]) (frz := []) (m := 0) (ts := [(0, .lit (.string text0)), (5, .vs 1 (t16.map (eS))), (6, .ptr 0 0), (7, .lit (.int .i64 i7)), (8, .lit (.string s8)), (9, .lit (.string t45)), (53, .lit (.bool false))]) (hs := [.box [.ref 1 0 ((r6_0_2.map (api.Line.enc)).length), .lit (.int .i64 r6_1_2), .lit (.string r6_2_2), .lit (.int .i64 r6_3_2), .lit (.bool r6_4_2), .lit (.int .i64 r6_5_2)], .arr 3 (r6_0_2.map (api.Line.enc))]) rfl (by decide) rfl rfl ⟨⟨_, rfl, WO.boxs ⟨(.ref _ _ _ 1 rfl), (.same (.lit (.int .i64 r6_1_2)) rfl), (.same (.lit (.string r6_2_2)) rfl), (.same (.lit (.int .i64 r6_3_2)) rfl), (.same (.lit (.bool r6_4_2)) rfl), (.same (.lit (.int .i64 r6_5_2)) rfl), trivial⟩⟩, ⟨⟨_, rfl, .arr _ _⟩, ⟨rfl, fun _ h => by cases h⟩⟩⟩ ⟨(.same (.lit (.string text0)) rfl), (.same (.vs 1 (t16.map (eS))) rfl), (.ptr _ _ 0 rfl), (.same (.lit (.int .i64 i7)) rfl), (.same (.lit (.string s8)) rfl), (.same (.lit (.string t45)) rfl), (.same (.lit (.bool false)) rfl), trivial⟩)) ⟨_, _, hs1_3u6, rfl⟩
              · have hs1_3u6 := bif_t hs1_3u5
                clear hs1_3u5
                obtain ⟨chs1_3u7, hs1_3u7⟩ := chk_elim hs1_3u6; clear hs1_3u6
                obtain ⟨t51, et51, hs1_3u8⟩ := letk_elim hs1_3u7; clear hs1_3u7
                conv => whnf
                refine Side.mk chs1_3u7 ?_
                conv => whnf
                refine Nm.mk ⟨t51, et51, ?_⟩
                obtain ⟨t52, et52, hs1_3u9⟩ := letk_elim hs1_3u8; clear hs1_3u8
                conv => whnf
                refine Nm.mk ⟨t52, et52, ?_⟩
                exact BackS.of (Sees.of (Weak.objs (keep := [0, 1]) (frz := []) (m := 0) (ts := [(0, .lit (.string text0)), (5, .vs 1 (t16.map (eS))), (6, .ptr 0 0), (7, .lit (.int .i64 i7)), (8, .lit (.string s8)), (9, .lit (.string t45)), (53, .lit (.bool t52))]) (hs := [.box [.ref 1 0 ((r6_0_2.map (api.Line.enc)).length), .lit (.int .i64 r6_1_2), .lit (.string r6_2_2), .lit (.int .i64 r6_3_2), .lit (.bool r6_4_2), .lit (.int .i64 r6_5_2)], .arr 3 (r6_0_2.map (api.Line.enc))]) rfl (by decide) rfl rfl ⟨⟨_, rfl, WO.boxs ⟨(.ref _ _ _ 1 rfl), (.same (.lit (.int .i64 r6_1_2)) rfl), (.same (.lit (.string r6_2_2)) rfl), (.same (.lit (.int .i64 r6_3_2)) rfl), (.same (.lit (.bool r6_4_2)) rfl), (.same (.lit (.int .i64 r6_5_2)) rfl), trivial⟩⟩, ⟨⟨_, rfl, .arr _ _⟩, ⟨rfl, fun _ h => by cases h⟩⟩⟩ ⟨(.same (.lit (.string text0)) rfl), (.same (.vs 1 (t16.map (eS))) rfl), (.ptr _ _ 0 rfl), (.same (.lit (.int .i64 i7)) rfl), (.same (.lit (.string s8)) rfl), (.same (.lit (.string t45)) rfl), (.same (.lit (.bool t52)) rfl), trivial⟩)) ⟨_, _, hs1_3u9, rfl⟩
            · clear hs1_3u2
              rintro s ⟨r6_4_6, t53, hj0, rfl⟩
              unfold Ref3.Old.j3 at hj0
              rcases t53 with _ | _
              · have hj1 := bif_f hj0
                clear hj0
                obtain ⟨⟨o_0_1, o_1_1, o_2_1, o_3_1, o_4_1, o_5_1⟩, ee_t68, hj2⟩ := bind_elim hj1; clear hj1
                conv => whnf
                refine Gate.weak (Sees.of (Weak.objs (keep := [0, 1]) (frz := []) (m := 0) (ts := [(0, .lit (.string text0)), (5, .vs 1 (t16.map (eS))), (6, .ptr 0 0), (7, .lit (.int .i64 i7)), (8, .lit (.string s8)), (9, .lit (.string t45)), (67, .ptr 0 0)]) (hs := [.box [.ref 1 0 ((r6_0_2.map (api.Line.enc)).length), .lit (.int .i64 r6_1_2), .lit (.string r6_2_2), .lit (.int .i64 r6_3_2), .lit (.bool r6_4_6), .lit (.int .i64 r6_5_2)], .arr 3 (r6_0_2.map (api.Line.enc))]) rfl (by decide) rfl rfl ⟨⟨_, rfl, WO.boxs ⟨(.ref _ _ _ 1 rfl), (.same (.lit (.int .i64 r6_1_2)) rfl), (.same (.lit (.string r6_2_2)) rfl), (.same (.lit (.int .i64 r6_3_2)) rfl), (.same (.lit (.bool r6_4_6)) rfl), (.same (.lit (.int .i64 r6_5_2)) rfl), trivial⟩⟩, ⟨⟨_, rfl, .arr _ _⟩, ⟨rfl, fun _ h => by cases h⟩⟩⟩ ⟨(.same (.lit (.string text0)) rfl), (.same (.vs 1 (t16.map (eS))) rfl), (.ptr _ _ 0 rfl), (.same (.lit (.int .i64 i7)) rfl), (.same (.lit (.string s8)) rfl), (.same (.lit (.string t45)) rfl), (.ptr _ _ 0 rfl), trivial⟩)) ?_
                conv => whnf
                refine CallN.hand (k := 1) (v := .tup []) (hs' := [.box [.ref 1 0 ((o_0_1.map (api.Line.enc)).length), .lit (.int .i64 o_1_1), .lit (.string o_2_1), .lit (.int .i64 o_3_1), .lit (.bool o_4_1), .lit (.int .i64 o_5_1)], .arr 3 (o_0_1.map (api.Line.enc))]) (ts' := [(0, .lit (.string text0)), (5, .vs 1 (t16.map (eS))), (6, .ptr 0 0), (7, .lit (.int .i64 i7)), (8, .lit (.string s8)), (9, .lit (.string t45)), (67, .ptr 0 0)]) (Ref3.reader.ends_ok ee_t68) rfl rfl ?_
                obtain ⟨t72, et72, hj3⟩ := letk_elim hj2; clear hj2
                conv => whnf
                refine Nm.mk ⟨t72, et72, ?_⟩
                conv => whnf
                refine Gate.go ?_
                conv => whnf
                refine Nm.mk ⟨[.lit (.int .i64 0), .lit (.string (⟨#[]⟩)), .lit (.int .i64 t72)], rfl, ?_⟩
                conv => whnf
                refine Nm.mk ⟨[.ref 1 0 ((o_0_1.map (api.Line.enc)).length), .lit (.int .i64 0), .lit (.string (⟨#[]⟩)), .lit (.int .i64 t72), .lit (.bool o_4_1), .lit (.int .i64 o_5_1)], rfl, ?_⟩
                conv => whnf
                refine Nm.mk ⟨[.ref 1 0 ((o_0_1.map (api.Line.enc)).length), .lit (.int .i64 0), .lit (.string (⟨#[]⟩)), .lit (.int .i64 t72), .lit (.bool true), .lit (.int .i64 o_5_1)], rfl, ?_⟩
                obtain ⟨t79, et79, hj4⟩ := letk_elim hj3; clear hj3
                conv => whnf
                refine Nm.mk ⟨t79, et79, ?_⟩
                rcases t79 with _ | _
                · have hj5 := bif_f hj4
                  clear hj4
                  exact BackS.of (Sees.of (Weak.objs (keep := [0, 1]) (frz := []) (m := 0) (ts := [(0, .lit (.string text0)), (5, .vs 1 (t16.map (eS))), (6, .ptr 0 0), (7, .lit (.int .i64 i7)), (8, .lit (.string s8))]) (hs := [.box [.ref 1 0 ((o_0_1.map (api.Line.enc)).length), .lit (.int .i64 0), .lit (.string ((⟨#[]⟩))), .lit (.int .i64 t72), .lit (.bool true), .lit (.int .i64 o_5_1)], .arr 3 (o_0_1.map (api.Line.enc))]) rfl (by decide) rfl rfl ⟨⟨_, rfl, WO.boxs ⟨(.ref _ _ _ 1 rfl), (.same (.lit (.int .i64 0)) rfl), (.same (.lit (.string (⟨#[]⟩))) rfl), (.same (.lit (.int .i64 t72)) rfl), (.same (.lit (.bool true)) rfl), (.same (.lit (.int .i64 o_5_1)) rfl), trivial⟩⟩, ⟨⟨_, rfl, .arr _ _⟩, ⟨rfl, fun _ h => by cases h⟩⟩⟩ ⟨(.same (.lit (.string text0)) rfl), (.same (.vs 1 (t16.map (eS))) rfl), (.ptr _ _ 0 rfl), (.same (.lit (.int .i64 i7)) rfl), (.same (.lit (.string s8)) rfl), trivial⟩)) ⟨_, _, _, _, _, _, hj5, rfl⟩
                · have hj5 := bif_t hj4
                  clear hj4
                  obtain ⟨⟨t82_0, t82_1⟩, et82, hj6⟩ := bind_elim hj5; clear hj5
                  conv => whnf
                  refine Gate.go ?_
                  conv => whnf
                  refine CallN.by (v := .tup [.lit (.int .i64 t82_0), .lit (.bool t82_1)]) (Ref3.number_ok et82) rfl rfl ?_
                  conv => whnf
                  refine CutN.of (fun s => ∃ (r6_0_6 : List api.Line) (r6_1_6 : Int) (r6_2_6 : ByteArray) (r6_3_6 : Int) (r6_4_7 : Bool) (r6_5_6 : Int), Ref3.Old.j4 text0 t16 i7 s8 t82_0 r6_0_6 r6_1_6 r6_2_6 r6_3_6 r6_4_7 r6_5_6 = some x1 ∧ s = (⟨140, [(0, .lit (.string text0)), (5, .vs 1 (t16.map (eS))), (6, .ptr 0 0), (7, .lit (.int .i64 i7)), (8, .lit (.string s8)), (10, .lit (.int .i64 t82_0))], [.box [.ref 1 0 ((r6_0_6.map (api.Line.enc)).length), .lit (.int .i64 r6_1_6), .lit (.string r6_2_6), .lit (.int .i64 r6_3_6), .lit (.bool r6_4_7), .lit (.int .i64 r6_5_6)], .arr 3 (r6_0_6.map (api.Line.enc))]⟩ : St)) ?_ ?_
                  · obtain ⟨t86, et86, hj7⟩ := letk_elim hj6; clear hj6
                    conv => whnf
                    refine Nm.mk ⟨t86, et86, ?_⟩
                    rcases t86 with _ | _
                    · have hj8 := bif_f hj7
                      clear hj7
                      exact BackS.of (Sees.of (Weak.objs (keep := [0, 1]) (frz := []) (m := 0) (ts := [(0, .lit (.string text0)), (5, .vs 1 (t16.map (eS))), (6, .ptr 0 0), (7, .lit (.int .i64 i7)), (8, .lit (.string s8)), (10, .lit (.int .i64 t82_0))]) (hs := [.box [.ref 1 0 ((o_0_1.map (api.Line.enc)).length), .lit (.int .i64 0), .lit (.string ((⟨#[]⟩))), .lit (.int .i64 t72), .lit (.bool true), .lit (.int .i64 o_5_1)], .arr 3 (o_0_1.map (api.Line.enc))]) rfl (by decide) rfl rfl ⟨⟨_, rfl, WO.boxs ⟨(.ref _ _ _ 1 rfl), (.same (.lit (.int .i64 0)) rfl), (.same (.lit (.string (⟨#[]⟩))) rfl), (.same (.lit (.int .i64 t72)) rfl), (.same (.lit (.bool true)) rfl), (.same (.lit (.int .i64 o_5_1)) rfl), trivial⟩⟩, ⟨⟨_, rfl, .arr _ _⟩, ⟨rfl, fun _ h => by cases h⟩⟩⟩ ⟨(.same (.lit (.string text0)) rfl), (.same (.vs 1 (t16.map (eS))) rfl), (.ptr _ _ 0 rfl), (.same (.lit (.int .i64 i7)) rfl), (.same (.lit (.string s8)) rfl), (.same (.lit (.int .i64 t82_0)) rfl), trivial⟩)) ⟨_, _, _, _, _, _, hj8, rfl⟩
                    · have hj8 := bif_t hj7
                      clear hj7
                      obtain ⟨t89, et89, hj9⟩ := letk_elim hj8; clear hj8
                      conv => whnf
                      refine Nm.mk ⟨t89, et89, ?_⟩
                      obtain ⟨⟨o_0_2, o_1_2, o_2_2, o_3_2, o_4_2, o_5_2⟩, ee_t90, hj10⟩ := bind_elim hj9; clear hj9
                      conv => whnf
                      refine Gate.weak (Sees.of (Weak.objs (keep := [0, 1]) (frz := []) (m := 0) (ts := [(0, .lit (.string text0)), (5, .vs 1 (t16.map (eS))), (6, .ptr 0 0), (7, .lit (.int .i64 i7)), (8, .lit (.string s8)), (10, .lit (.int .i64 t82_0)), (87, .ptr 0 0), (89, .lit (.int .i64 t89))]) (hs := [.box [.ref 1 0 ((o_0_1.map (api.Line.enc)).length), .lit (.int .i64 0), .lit (.string (⟨#[]⟩)), .lit (.int .i64 t72), .lit (.bool true), .lit (.int .i64 o_5_1)], .arr 3 (o_0_1.map (api.Line.enc))]) rfl (by decide) rfl rfl ⟨⟨_, rfl, WO.boxs ⟨(.ref _ _ _ 1 rfl), (.same (.lit (.int .i64 0)) rfl), (.same (.lit (.string (⟨#[]⟩))) rfl), (.same (.lit (.int .i64 t72)) rfl), (.same (.lit (.bool true)) rfl), (.same (.lit (.int .i64 o_5_1)) rfl), trivial⟩⟩, ⟨⟨_, rfl, .arr _ _⟩, ⟨rfl, fun _ h => by cases h⟩⟩⟩ ⟨(.same (.lit (.string text0)) rfl), (.same (.vs 1 (t16.map (eS))) rfl), (.ptr _ _ 0 rfl), (.same (.lit (.int .i64 i7)) rfl), (.same (.lit (.string s8)) rfl), (.same (.lit (.int .i64 t82_0)) rfl), (.ptr _ _ 0 rfl), (.same (.lit (.int .i64 t89)) rfl), trivial⟩)) ?_
                      conv => whnf
                      refine CallN.hand (k := 1) (v := .tup []) (hs' := [.box [.ref 1 0 ((o_0_2.map (api.Line.enc)).length), .lit (.int .i64 o_1_2), .lit (.string o_2_2), .lit (.int .i64 o_3_2), .lit (.bool o_4_2), .lit (.int .i64 o_5_2)], .arr 3 (o_0_2.map (api.Line.enc))]) (ts' := [(0, .lit (.string text0)), (5, .vs 1 (t16.map (eS))), (6, .ptr 0 0), (7, .lit (.int .i64 i7)), (8, .lit (.string s8)), (10, .lit (.int .i64 t82_0)), (87, .ptr 0 0), (89, .lit (.int .i64 t89))]) (Ref3.reader.wrong_ok ee_t90) rfl rfl ?_
                      exact BackS.of (Sees.of (Weak.objs (keep := [0, 1]) (frz := []) (m := 0) (ts := [(0, .lit (.string text0)), (5, .vs 1 (t16.map (eS))), (6, .ptr 0 0), (7, .lit (.int .i64 i7)), (8, .lit (.string s8)), (10, .lit (.int .i64 t82_0))]) (hs := [.box [.ref 1 0 ((o_0_2.map (api.Line.enc)).length), .lit (.int .i64 o_1_2), .lit (.string o_2_2), .lit (.int .i64 o_3_2), .lit (.bool o_4_2), .lit (.int .i64 o_5_2)], .arr 3 (o_0_2.map (api.Line.enc))]) rfl (by decide) rfl rfl ⟨⟨_, rfl, WO.boxs ⟨(.ref _ _ _ 1 rfl), (.same (.lit (.int .i64 o_1_2)) rfl), (.same (.lit (.string o_2_2)) rfl), (.same (.lit (.int .i64 o_3_2)) rfl), (.same (.lit (.bool o_4_2)) rfl), (.same (.lit (.int .i64 o_5_2)) rfl), trivial⟩⟩, ⟨⟨_, rfl, .arr _ _⟩, ⟨rfl, fun _ h => by cases h⟩⟩⟩ ⟨(.same (.lit (.string text0)) rfl), (.same (.vs 1 (t16.map (eS))) rfl), (.ptr _ _ 0 rfl), (.same (.lit (.int .i64 i7)) rfl), (.same (.lit (.string s8)) rfl), (.same (.lit (.int .i64 t82_0)) rfl), trivial⟩)) ⟨_, _, _, _, _, _, hj10, rfl⟩
                  · clear hj6
                    rintro s ⟨r6_0_6, r6_1_6, r6_2_6, r6_3_6, r6_4_7, r6_5_6, hj0, rfl⟩
                    unfold Ref3.Old.j4 at hj0
                    conv => whnf
                    refine Nm.mk ⟨[.ref 1 0 ((r6_0_6.map (api.Line.enc)).length), .lit (.int .i64 t82_0), .lit (.string r6_2_6), .lit (.int .i64 r6_3_6), .lit (.bool r6_4_7), .lit (.int .i64 r6_5_6)], rfl, ?_⟩
                    exact BackS.of (Sees.of (Weak.objs (keep := [0, 1]) (frz := []) (m := 0) (ts := [(0, .lit (.string text0)), (5, .vs 1 (t16.map (eS))), (6, .ptr 0 0), (7, .lit (.int .i64 i7)), (8, .lit (.string s8))]) (hs := [.box [.ref 1 0 ((r6_0_6.map (api.Line.enc)).length), .lit (.int .i64 t82_0), .lit (.string r6_2_6), .lit (.int .i64 r6_3_6), .lit (.bool r6_4_7), .lit (.int .i64 r6_5_6)], .arr 3 (r6_0_6.map (api.Line.enc))]) rfl (by decide) rfl rfl ⟨⟨_, rfl, WO.boxs ⟨(.ref _ _ _ 1 rfl), (.same (.lit (.int .i64 t82_0)) rfl), (.same (.lit (.string r6_2_6)) rfl), (.same (.lit (.int .i64 r6_3_6)) rfl), (.same (.lit (.bool r6_4_7)) rfl), (.same (.lit (.int .i64 r6_5_6)) rfl), trivial⟩⟩, ⟨⟨_, rfl, .arr _ _⟩, ⟨rfl, fun _ h => by cases h⟩⟩⟩ ⟨(.same (.lit (.string text0)) rfl), (.same (.vs 1 (t16.map (eS))) rfl), (.ptr _ _ 0 rfl), (.same (.lit (.int .i64 i7)) rfl), (.same (.lit (.string s8)) rfl), trivial⟩)) ⟨_, _, _, _, _, _, hj0, rfl⟩
              · have hj1 := bif_t hj0
                clear hj0
                conv => whnf
                refine CutN.of (fun s => ∃ (r6_4_8 : Bool) (t62 : Bool), Ref3.Old.j5 text0 t16 i7 r6_0_2 r6_1_2 r6_2_2 r6_3_2 r6_5_2 s8 r6_4_8 t62 = some x1 ∧ s = (⟨140, [(0, .lit (.string text0)), (5, .vs 1 (t16.map (eS))), (6, .ptr 0 0), (7, .lit (.int .i64 i7)), (8, .lit (.string s8)), (62, .lit (.bool t62))], [.box [.ref 1 0 ((r6_0_2.map (api.Line.enc)).length), .lit (.int .i64 r6_1_2), .lit (.string r6_2_2), .lit (.int .i64 r6_3_2), .lit (.bool r6_4_8), .lit (.int .i64 r6_5_2)], .arr 3 (r6_0_2.map (api.Line.enc))]⟩ : St)) ?_ ?_
                · obtain ⟨t58, et58, hj2⟩ := letk_elim hj1; clear hj1
                  conv => whnf
                  refine Nm.mk ⟨t58, et58, ?_⟩
                  rcases t58 with _ | _
                  · have hj3 := bif_f hj2
                    clear hj2
                    obtain ⟨t61, et61, hj4⟩ := letk_elim hj3; clear hj3
                    conv => whnf
                    refine Nm.mk ⟨t61, et61, ?_⟩
                    exact BackS.of (Sees.of (Weak.objs (keep := [0, 1]) (frz := []) (m := 0) (ts := [(0, .lit (.string text0)), (5, .vs 1 (t16.map (eS))), (6, .ptr 0 0), (7, .lit (.int .i64 i7)), (8, .lit (.string s8)), (62, .lit (.bool t61))]) (hs := [.box [.ref 1 0 ((r6_0_2.map (api.Line.enc)).length), .lit (.int .i64 r6_1_2), .lit (.string r6_2_2), .lit (.int .i64 r6_3_2), .lit (.bool r6_4_6), .lit (.int .i64 r6_5_2)], .arr 3 (r6_0_2.map (api.Line.enc))]) rfl (by decide) rfl rfl ⟨⟨_, rfl, WO.boxs ⟨(.ref _ _ _ 1 rfl), (.same (.lit (.int .i64 r6_1_2)) rfl), (.same (.lit (.string r6_2_2)) rfl), (.same (.lit (.int .i64 r6_3_2)) rfl), (.same (.lit (.bool r6_4_6)) rfl), (.same (.lit (.int .i64 r6_5_2)) rfl), trivial⟩⟩, ⟨⟨_, rfl, .arr _ _⟩, ⟨rfl, fun _ h => by cases h⟩⟩⟩ ⟨(.same (.lit (.string text0)) rfl), (.same (.vs 1 (t16.map (eS))) rfl), (.ptr _ _ 0 rfl), (.same (.lit (.int .i64 i7)) rfl), (.same (.lit (.string s8)) rfl), (.same (.lit (.bool t61)) rfl), trivial⟩)) ⟨_, _, hj4, rfl⟩
                  · have hj3 := bif_t hj2
                    clear hj2
                    exact BackS.of (Sees.of (Weak.objs (keep := [0, 1]) (frz := []) (m := 0) (ts := [(0, .lit (.string text0)), (5, .vs 1 (t16.map (eS))), (6, .ptr 0 0), (7, .lit (.int .i64 i7)), (8, .lit (.string s8)), (62, .lit (.bool true))]) (hs := [.box [.ref 1 0 ((r6_0_2.map (api.Line.enc)).length), .lit (.int .i64 r6_1_2), .lit (.string r6_2_2), .lit (.int .i64 r6_3_2), .lit (.bool r6_4_6), .lit (.int .i64 r6_5_2)], .arr 3 (r6_0_2.map (api.Line.enc))]) rfl (by decide) rfl rfl ⟨⟨_, rfl, WO.boxs ⟨(.ref _ _ _ 1 rfl), (.same (.lit (.int .i64 r6_1_2)) rfl), (.same (.lit (.string r6_2_2)) rfl), (.same (.lit (.int .i64 r6_3_2)) rfl), (.same (.lit (.bool r6_4_6)) rfl), (.same (.lit (.int .i64 r6_5_2)) rfl), trivial⟩⟩, ⟨⟨_, rfl, .arr _ _⟩, ⟨rfl, fun _ h => by cases h⟩⟩⟩ ⟨(.same (.lit (.string text0)) rfl), (.same (.vs 1 (t16.map (eS))) rfl), (.ptr _ _ 0 rfl), (.same (.lit (.int .i64 i7)) rfl), (.same (.lit (.string s8)) rfl), (.same (.lit (.bool true)) rfl), trivial⟩)) ⟨_, _, hj3, rfl⟩
                · clear hj1
                  rintro s ⟨r6_4_8, t62, hj0, rfl⟩
                  unfold Ref3.Old.j5 at hj0
                  rcases t62 with _ | _
                  · have hj1 := bif_f hj0
                    clear hj0
                    exact BackS.of (Sees.of (Weak.objs (keep := [0, 1]) (frz := []) (m := 0) (ts := [(0, .lit (.string text0)), (5, .vs 1 (t16.map (eS))), (6, .ptr 0 0), (7, .lit (.int .i64 i7)), (8, .lit (.string s8))]) (hs := [.box [.ref 1 0 ((r6_0_2.map (api.Line.enc)).length), .lit (.int .i64 r6_1_2), .lit (.string r6_2_2), .lit (.int .i64 r6_3_2), .lit (.bool r6_4_8), .lit (.int .i64 r6_5_2)], .arr 3 (r6_0_2.map (api.Line.enc))]) rfl (by decide) rfl rfl ⟨⟨_, rfl, WO.boxs ⟨(.ref _ _ _ 1 rfl), (.same (.lit (.int .i64 r6_1_2)) rfl), (.same (.lit (.string r6_2_2)) rfl), (.same (.lit (.int .i64 r6_3_2)) rfl), (.same (.lit (.bool r6_4_8)) rfl), (.same (.lit (.int .i64 r6_5_2)) rfl), trivial⟩⟩, ⟨⟨_, rfl, .arr _ _⟩, ⟨rfl, fun _ h => by cases h⟩⟩⟩ ⟨(.same (.lit (.string text0)) rfl), (.same (.vs 1 (t16.map (eS))) rfl), (.ptr _ _ 0 rfl), (.same (.lit (.int .i64 i7)) rfl), (.same (.lit (.string s8)) rfl), trivial⟩)) ⟨_, _, _, _, _, _, hj1, rfl⟩
                  · have hj1 := bif_t hj0
                    clear hj0
                    obtain ⟨t65, et65, hj2⟩ := letk_elim hj1; clear hj1
                    conv => whnf
                    refine Nm.mk ⟨t65, et65, ?_⟩
                    obtain ⟨⟨o_0_3, o_1_3, o_2_3, o_3_3, o_4_3, o_5_3⟩, ee_t66, hj3⟩ := bind_elim hj2; clear hj2
                    conv => whnf
                    refine Gate.weak (Sees.of (Weak.objs (keep := [0, 1]) (frz := []) (m := 0) (ts := [(0, .lit (.string text0)), (5, .vs 1 (t16.map (eS))), (6, .ptr 0 0), (7, .lit (.int .i64 i7)), (63, .ptr 0 0), (65, .lit (.int .i64 t65))]) (hs := [.box [.ref 1 0 ((r6_0_2.map (api.Line.enc)).length), .lit (.int .i64 r6_1_2), .lit (.string r6_2_2), .lit (.int .i64 r6_3_2), .lit (.bool r6_4_8), .lit (.int .i64 r6_5_2)], .arr 3 (r6_0_2.map (api.Line.enc))]) rfl (by decide) rfl rfl ⟨⟨_, rfl, WO.boxs ⟨(.ref _ _ _ 1 rfl), (.same (.lit (.int .i64 r6_1_2)) rfl), (.same (.lit (.string r6_2_2)) rfl), (.same (.lit (.int .i64 r6_3_2)) rfl), (.same (.lit (.bool r6_4_8)) rfl), (.same (.lit (.int .i64 r6_5_2)) rfl), trivial⟩⟩, ⟨⟨_, rfl, .arr _ _⟩, ⟨rfl, fun _ h => by cases h⟩⟩⟩ ⟨(.same (.lit (.string text0)) rfl), (.same (.vs 1 (t16.map (eS))) rfl), (.ptr _ _ 0 rfl), (.same (.lit (.int .i64 i7)) rfl), (.ptr _ _ 0 rfl), (.same (.lit (.int .i64 t65)) rfl), trivial⟩)) ?_
                    conv => whnf
                    refine CallN.hand (k := 1) (v := .tup []) (hs' := [.box [.ref 1 0 ((o_0_3.map (api.Line.enc)).length), .lit (.int .i64 o_1_3), .lit (.string o_2_3), .lit (.int .i64 o_3_3), .lit (.bool o_4_3), .lit (.int .i64 o_5_3)], .arr 3 (o_0_3.map (api.Line.enc))]) (ts' := [(0, .lit (.string text0)), (5, .vs 1 (t16.map (eS))), (6, .ptr 0 0), (7, .lit (.int .i64 i7)), (63, .ptr 0 0), (65, .lit (.int .i64 t65))]) (Ref3.reader.wrong_ok ee_t66) rfl rfl ?_
                    obtain ⟨t24_1, et24_1, hj4⟩ := letk_elim hj3; clear hj3
                    conv => whnf
                    refine Nm.mk ⟨t24_1, et24_1, ?_⟩
                    exact BackS.of (Sees.of (Weak.objs (keep := [0, 1]) (frz := []) (m := 0) (ts := [(0, .lit (.string text0)), (5, .vs 1 (t16.map (eS))), (6, .ptr 0 0), (7, .lit (.int .i64 t24_1))]) (hs := [.box [.ref 1 0 ((o_0_3.map (api.Line.enc)).length), .lit (.int .i64 o_1_3), .lit (.string o_2_3), .lit (.int .i64 o_3_3), .lit (.bool o_4_3), .lit (.int .i64 o_5_3)], .arr 3 (o_0_3.map (api.Line.enc))]) rfl (by decide) rfl rfl ⟨⟨_, rfl, WO.boxs ⟨(.ref _ _ _ 1 rfl), (.same (.lit (.int .i64 o_1_3)) rfl), (.same (.lit (.string o_2_3)) rfl), (.same (.lit (.int .i64 o_3_3)) rfl), (.same (.lit (.bool o_4_3)) rfl), (.same (.lit (.int .i64 o_5_3)) rfl), trivial⟩⟩, ⟨⟨_, rfl, .arr _ _⟩, ⟨rfl, fun _ h => by cases h⟩⟩⟩ ⟨(.same (.lit (.string text0)) rfl), (.same (.vs 1 (t16.map (eS))) rfl), (.ptr _ _ 0 rfl), (.same (.lit (.int .i64 t24_1)) rfl), trivial⟩)) ⟨_, hl1 _ (Option.some.inj hj4).symm, rfl⟩
          · clear hs1_3u2
            rintro s ⟨r6_0_3, r6_1_3, r6_2_3, r6_3_3, r6_4_3, r6_5_3, hj0, rfl⟩
            unfold Ref3.Old.j1 at hj0
            obtain ⟨chj1, hj1⟩ := chk_elim hj0; clear hj0
            obtain ⟨t97, et97, hj2⟩ := letk_elim hj1; clear hj1
            conv => whnf
            refine Side.mk chj1 ?_
            conv => whnf
            refine Nm.mk ⟨t97, et97, ?_⟩
            obtain ⟨t103, et103, hj3⟩ := bind_elim hj2; clear hj2
            conv => whnf
            refine Gate.go ?_
            conv => whnf
            refine CallN.by (v := .vs 1 (t103.map (eI .u8))) (Ref3.marks_ok et103) rfl rfl ?_
            conv => whnf
            refine CutN.of (fun s => ∃ (r6_0_4 : List api.Line) (r6_1_4 : Int) (r6_2_4 : ByteArray) (r6_3_4 : Int) (r6_4_4 : Bool) (r6_5_4 : Int) (part12 : ByteArray), Ref3.Old.j2 text0 t16 i7 r6_0_4 r6_1_4 r6_2_4 r6_3_4 r6_4_4 r6_5_4 part12 = some x1 ∧ s = (⟨140, [(0, .lit (.string text0)), (5, .vs 1 (t16.map (eS))), (6, .ptr 0 0), (7, .lit (.int .i64 i7)), (12, .lit (.string part12))], [.box [.ref 1 0 ((r6_0_4.map (api.Line.enc)).length), .lit (.int .i64 r6_1_4), .lit (.string r6_2_4), .lit (.int .i64 r6_3_4), .lit (.bool r6_4_4), .lit (.int .i64 r6_5_4)], .arr 3 (r6_0_4.map (api.Line.enc))]⟩ : St)) ?_ ?_
            · obtain ⟨t107, et107, hj4⟩ := letk_elim hj3; clear hj3
              conv => whnf
              refine Nm.mk ⟨t107, by rw [et107, List.length_map], ?_⟩
              obtain ⟨t108, et108, hj5⟩ := letk_elim hj4; clear hj4
              conv => whnf
              refine Nm.mk ⟨t108, et108, ?_⟩
              obtain ⟨chj6, hj6⟩ := chk_elim hj5; clear hj5
              obtain ⟨t109, et109, hj7⟩ := bind_elim hj6; clear hj6
              conv => whnf
              refine Side.mk chj6 ?_
              conv => whnf
              refine At.by et109 ?_
              obtain ⟨t111, et111, hj8⟩ := bind_elim hj7; clear hj7
              conv => whnf
              refine Gate.go ?_
              conv => whnf
              refine CallN.by (v := .lit (.int .i64 t111)) (Ref3.outside_ok et111) rfl rfl ?_
              obtain ⟨t113, et113, hj9⟩ := letk_elim hj8; clear hj8
              conv => whnf
              refine Nm.mk ⟨t113, et113, ?_⟩
              rcases t113 with _ | _
              · have hj10 := bif_f hj9
                clear hj9
                conv => whnf
                unfold Ref3.Old.l2 at hj10
                refine LoopB.of (σ := (List api.Line) × Int × ByteArray × Int × Bool × Int × ByteArray) (ρ := ((List api.Line) × Int × ByteArray × Int × Bool × Int × Int) ⊕ ((List api.Line) × Int × Int)) (fun v : (List api.Line) × Int × ByteArray × Int × Bool × Int × ByteArray => Ref3.Old.s2 text0 t16 i7 v.1 v.2.1 v.2.2.1 v.2.2.2.1 v.2.2.2.2.1 v.2.2.2.2.2.1 v.2.2.2.2.2.2) (fun v => (⟨140, [(0, .lit (.string text0)), (5, .vs 1 (t16.map (eS))), (6, .ptr 0 0), (7, .lit (.int .i64 i7)), (12, .lit (.string v.2.2.2.2.2.2))], [.box [.ref 1 0 ((v.1.map (api.Line.enc)).length), .lit (.int .i64 v.2.1), .lit (.string v.2.2.1), .lit (.int .i64 v.2.2.2.1), .lit (.bool v.2.2.2.2.1), .lit (.int .i64 v.2.2.2.2.2.1)], .arr 3 (v.1.map (api.Line.enc))]⟩ : St)) (r6_0_3, r6_1_3, r6_2_3, r6_3_3, r6_4_3, r6_5_3, t97) hj10 (BackS.of (Sees.of (Weak.objs (keep := [0, 1]) (frz := []) (m := 0) (ts := [(0, .lit (.string text0)), (5, .vs 1 (t16.map (eS))), (6, .ptr 0 0), (7, .lit (.int .i64 i7)), (12, .lit (.string t97))]) (hs := [.box [.ref 1 0 ((r6_0_3.map (api.Line.enc)).length), .lit (.int .i64 r6_1_3), .lit (.string r6_2_3), .lit (.int .i64 r6_3_3), .lit (.bool r6_4_3), .lit (.int .i64 r6_5_3)], .arr 3 (r6_0_3.map (api.Line.enc))]) rfl (by decide) rfl rfl ⟨⟨_, rfl, WO.boxs ⟨(.ref _ _ _ 1 rfl), (.same (.lit (.int .i64 r6_1_3)) rfl), (.same (.lit (.string r6_2_3)) rfl), (.same (.lit (.int .i64 r6_3_3)) rfl), (.same (.lit (.bool r6_4_3)) rfl), (.same (.lit (.int .i64 r6_5_3)) rfl), trivial⟩⟩, ⟨⟨_, rfl, .arr _ _⟩, ⟨rfl, fun _ h => by cases h⟩⟩⟩ ⟨(.same (.lit (.string text0)) rfl), (.same (.vs 1 (t16.map (eS))) rfl), (.ptr _ _ 0 rfl), (.same (.lit (.int .i64 i7)) rfl), (.same (.lit (.string t97)) rfl), trivial⟩)) rfl) ?_
                clear hj10
                rintro K2 ⟨r6_0_5, r6_1_5, r6_2_5, r6_3_5, r6_4_5, r6_5_5, part12_1⟩ x2 hs2_0 hl2 hr2
                replace hs2_0 : Ref3.Old.s2 text0 t16 i7 r6_0_5 r6_1_5 r6_2_5 r6_3_5 r6_4_5 r6_5_5 part12_1 = some x2 := hs2_0
                unfold Ref3.Old.s2 at hs2_0
                change bwp _ _ _ _ _ (⟨140, [(0, .lit (.string text0)), (5, .vs 1 (t16.map (eS))), (6, .ptr 0 0), (7, .lit (.int .i64 i7)), (12, .lit (.string part12_1))], [.box [.ref 1 0 ((r6_0_5.map (api.Line.enc)).length), .lit (.int .i64 r6_1_5), .lit (.string r6_2_5), .lit (.int .i64 r6_3_5), .lit (.bool r6_4_5), .lit (.int .i64 r6_5_5)], .arr 3 (r6_0_5.map (api.Line.enc))]⟩ : St)
                obtain ⟨t118, et118, hs2_1⟩ := letk_elim hs2_0; clear hs2_0
                conv => whnf
                refine Nm.mk ⟨t118, et118, ?_⟩
                obtain ⟨t119, et119, hs2_2⟩ := letk_elim hs2_1; clear hs2_1
                conv => whnf
                refine Nm.mk ⟨t119, et119, ?_⟩
                rcases t119 with _ | _
                · have hs2_3 := bif_f hs2_2
                  clear hs2_2
                  obtain ⟨yhs2_3_0, hs2_3u, ehs2_3_0⟩ := map_elim hs2_3
                  have ehs2_3_0 := (hr2 _ ehs2_3_0.symm).symm
                  subst ehs2_3_0
                  exact BackS.of (Sees.of (Weak.objs (keep := [0, 1]) (frz := []) (m := 0) (ts := [(0, .lit (.string text0)), (5, .vs 1 (t16.map (eS))), (6, .ptr 0 0), (7, .lit (.int .i64 i7)), (12, .lit (.string part12_1))]) (hs := [.box [.ref 1 0 ((r6_0_5.map (api.Line.enc)).length), .lit (.int .i64 r6_1_5), .lit (.string r6_2_5), .lit (.int .i64 r6_3_5), .lit (.bool r6_4_5), .lit (.int .i64 r6_5_5)], .arr 3 (r6_0_5.map (api.Line.enc))]) rfl (by decide) rfl rfl ⟨⟨_, rfl, WO.boxs ⟨(.ref _ _ _ 1 rfl), (.same (.lit (.int .i64 r6_1_5)) rfl), (.same (.lit (.string r6_2_5)) rfl), (.same (.lit (.int .i64 r6_3_5)) rfl), (.same (.lit (.bool r6_4_5)) rfl), (.same (.lit (.int .i64 r6_5_5)) rfl), trivial⟩⟩, ⟨⟨_, rfl, .arr _ _⟩, ⟨rfl, fun _ h => by cases h⟩⟩⟩ ⟨(.same (.lit (.string text0)) rfl), (.same (.vs 1 (t16.map (eS))) rfl), (.ptr _ _ 0 rfl), (.same (.lit (.int .i64 i7)) rfl), (.same (.lit (.string part12_1)) rfl), trivial⟩)) ⟨_, _, _, _, _, _, _, hs2_3u, rfl⟩
                · have hs2_3 := bif_t hs2_2
                  clear hs2_2
                  obtain ⟨chs2_4, hs2_4⟩ := chk_elim hs2_3; clear hs2_3
                  obtain ⟨t121, et121, hs2_5⟩ := letk_elim hs2_4; clear hs2_4
                  conv => whnf
                  refine Side.mk chs2_4 ?_
                  conv => whnf
                  refine Nm.mk ⟨t121, et121, ?_⟩
                  exact BackS.of (Sees.of (Weak.objs (keep := [0, 1]) (frz := []) (m := 0) (ts := [(0, .lit (.string text0)), (5, .vs 1 (t16.map (eS))), (6, .ptr 0 0), (7, .lit (.int .i64 i7)), (12, .lit (.string t121))]) (hs := [.box [.ref 1 0 ((r6_0_5.map (api.Line.enc)).length), .lit (.int .i64 r6_1_5), .lit (.string r6_2_5), .lit (.int .i64 r6_3_5), .lit (.bool r6_4_5), .lit (.int .i64 r6_5_5)], .arr 3 (r6_0_5.map (api.Line.enc))]) rfl (by decide) rfl rfl ⟨⟨_, rfl, WO.boxs ⟨(.ref _ _ _ 1 rfl), (.same (.lit (.int .i64 r6_1_5)) rfl), (.same (.lit (.string r6_2_5)) rfl), (.same (.lit (.int .i64 r6_3_5)) rfl), (.same (.lit (.bool r6_4_5)) rfl), (.same (.lit (.int .i64 r6_5_5)) rfl), trivial⟩⟩, ⟨⟨_, rfl, .arr _ _⟩, ⟨rfl, fun _ h => by cases h⟩⟩⟩ ⟨(.same (.lit (.string text0)) rfl), (.same (.vs 1 (t16.map (eS))) rfl), (.ptr _ _ 0 rfl), (.same (.lit (.int .i64 i7)) rfl), (.same (.lit (.string t121)) rfl), trivial⟩)) ⟨_, hl2 _ (Option.some.inj hs2_5).symm, rfl⟩
              · have hj10 := bif_t hj9
                clear hj9
                obtain ⟨chj11, hj11⟩ := chk_elim hj10; clear hj10
                obtain ⟨t116, et116, hj12⟩ := letk_elim hj11; clear hj11
                conv => whnf
                refine Side.mk chj11 ?_
                conv => whnf
                refine Nm.mk ⟨t116, et116, ?_⟩
                exact BackS.of (Sees.of (Weak.objs (keep := [0, 1]) (frz := []) (m := 0) (ts := [(0, .lit (.string text0)), (5, .vs 1 (t16.map (eS))), (6, .ptr 0 0), (7, .lit (.int .i64 i7)), (12, .lit (.string t116))]) (hs := [.box [.ref 1 0 ((r6_0_3.map (api.Line.enc)).length), .lit (.int .i64 r6_1_3), .lit (.string r6_2_3), .lit (.int .i64 r6_3_3), .lit (.bool r6_4_3), .lit (.int .i64 r6_5_3)], .arr 3 (r6_0_3.map (api.Line.enc))]) rfl (by decide) rfl rfl ⟨⟨_, rfl, WO.boxs ⟨(.ref _ _ _ 1 rfl), (.same (.lit (.int .i64 r6_1_3)) rfl), (.same (.lit (.string r6_2_3)) rfl), (.same (.lit (.int .i64 r6_3_3)) rfl), (.same (.lit (.bool r6_4_3)) rfl), (.same (.lit (.int .i64 r6_5_3)) rfl), trivial⟩⟩, ⟨⟨_, rfl, .arr _ _⟩, ⟨rfl, fun _ h => by cases h⟩⟩⟩ ⟨(.same (.lit (.string text0)) rfl), (.same (.vs 1 (t16.map (eS))) rfl), (.ptr _ _ 0 rfl), (.same (.lit (.int .i64 i7)) rfl), (.same (.lit (.string t116)) rfl), trivial⟩)) ⟨_, _, _, _, _, _, _, hj12, rfl⟩
            · clear hj3
              rintro s ⟨r6_0_4, r6_1_4, r6_2_4, r6_3_4, r6_4_4, r6_5_4, part12, hj0, rfl⟩
              unfold Ref3.Old.j2 at hj0
              obtain ⟨chj1, hj1⟩ := chk_elim hj0; clear hj0
              obtain ⟨t128, et128, hj2⟩ := letk_elim hj1; clear hj1
              conv => whnf
              refine Side.mk chj1 ?_
              conv => whnf
              refine Nm.mk ⟨t128, et128, ?_⟩
              conv => whnf
              refine Nm.mk ⟨[.ref 1 0 ((r6_0_4.map (api.Line.enc)).length), .lit (.int .i64 r6_1_4), .lit (.string t128), .lit (.int .i64 r6_3_4), .lit (.bool r6_4_4), .lit (.int .i64 r6_5_4)], rfl, ?_⟩
              obtain ⟨t24, et24, hj3⟩ := letk_elim hj2; clear hj2
              conv => whnf
              refine Nm.mk ⟨t24, et24, ?_⟩
              exact BackS.of (Sees.of (Weak.objs (keep := [0, 1]) (frz := []) (m := 0) (ts := [(0, .lit (.string text0)), (5, .vs 1 (t16.map (eS))), (6, .ptr 0 0), (7, .lit (.int .i64 t24))]) (hs := [.box [.ref 1 0 ((r6_0_4.map (api.Line.enc)).length), .lit (.int .i64 r6_1_4), .lit (.string t128), .lit (.int .i64 r6_3_4), .lit (.bool r6_4_4), .lit (.int .i64 r6_5_4)], .arr 3 (r6_0_4.map (api.Line.enc))]) rfl (by decide) rfl rfl ⟨⟨_, rfl, WO.boxs ⟨(.ref _ _ _ 1 rfl), (.same (.lit (.int .i64 r6_1_4)) rfl), (.same (.lit (.string t128)) rfl), (.same (.lit (.int .i64 r6_3_4)) rfl), (.same (.lit (.bool r6_4_4)) rfl), (.same (.lit (.int .i64 r6_5_4)) rfl), trivial⟩⟩, ⟨⟨_, rfl, .arr _ _⟩, ⟨rfl, fun _ h => by cases h⟩⟩⟩ ⟨(.same (.lit (.string text0)) rfl), (.same (.vs 1 (t16.map (eS))) rfl), (.ptr _ _ 0 rfl), (.same (.lit (.int .i64 t24)) rfl), trivial⟩)) ⟨_, hl1 _ (Option.some.inj hj3).symm, rfl⟩
        · have hs1_3 := bif_t hs1_2
          clear hs1_2
          obtain ⟨chs1_4, hs1_4⟩ := chk_elim hs1_3; clear hs1_3
          obtain ⟨t42, et42, hs1_5⟩ := letk_elim hs1_4; clear hs1_4
          conv => whnf
          refine Side.mk chs1_4 ?_
          conv => whnf
          refine Nm.mk ⟨t42, et42, ?_⟩
          exact BackS.of (Sees.of (Weak.objs (keep := [0, 1]) (frz := []) (m := 0) (ts := [(0, .lit (.string text0)), (5, .vs 1 (t16.map (eS))), (6, .ptr 0 0), (7, .lit (.int .i64 i7)), (8, .lit (.string t42))]) (hs := [.box [.ref 1 0 ((r6_0_2.map (api.Line.enc)).length), .lit (.int .i64 r6_1_2), .lit (.string r6_2_2), .lit (.int .i64 r6_3_2), .lit (.bool r6_4_2), .lit (.int .i64 r6_5_2)], .arr 3 (r6_0_2.map (api.Line.enc))]) rfl (by decide) rfl rfl ⟨⟨_, rfl, WO.boxs ⟨(.ref _ _ _ 1 rfl), (.same (.lit (.int .i64 r6_1_2)) rfl), (.same (.lit (.string r6_2_2)) rfl), (.same (.lit (.int .i64 r6_3_2)) rfl), (.same (.lit (.bool r6_4_2)) rfl), (.same (.lit (.int .i64 r6_5_2)) rfl), trivial⟩⟩, ⟨⟨_, rfl, .arr _ _⟩, ⟨rfl, fun _ h => by cases h⟩⟩⟩ ⟨(.same (.lit (.string text0)) rfl), (.same (.vs 1 (t16.map (eS))) rfl), (.ptr _ _ 0 rfl), (.same (.lit (.int .i64 i7)) rfl), (.same (.lit (.string t42)) rfl), trivial⟩)) ⟨_, hl2 _ (Option.some.inj hs1_5).symm, rfl⟩
      · have hj2 := bif_t hj1
        clear hj1
        obtain ⟨t24_2, et24_2, hj3⟩ := letk_elim hj2; clear hj2
        conv => whnf
        refine Nm.mk ⟨t24_2, et24_2, ?_⟩
        exact BackS.of (Sees.of (Weak.objs (keep := [0, 1]) (frz := []) (m := 0) (ts := [(0, .lit (.string text0)), (5, .vs 1 (t16.map (eS))), (6, .ptr 0 0), (7, .lit (.int .i64 t24_2))]) (hs := [.box [.ref 1 0 ((r6_0_1.map (api.Line.enc)).length), .lit (.int .i64 r6_1_1), .lit (.string r6_2_1), .lit (.int .i64 r6_3_1), .lit (.bool r6_4_1), .lit (.int .i64 r6_5_1)], .arr 3 (r6_0_1.map (api.Line.enc))]) rfl (by decide) rfl rfl ⟨⟨_, rfl, WO.boxs ⟨(.ref _ _ _ 1 rfl), (.same (.lit (.int .i64 r6_1_1)) rfl), (.same (.lit (.string r6_2_1)) rfl), (.same (.lit (.int .i64 r6_3_1)) rfl), (.same (.lit (.bool r6_4_1)) rfl), (.same (.lit (.int .i64 r6_5_1)) rfl), trivial⟩⟩, ⟨⟨_, rfl, .arr _ _⟩, ⟨rfl, fun _ h => by cases h⟩⟩⟩ ⟨(.same (.lit (.string text0)) rfl), (.same (.vs 1 (t16.map (eS))) rfl), (.ptr _ _ 0 rfl), (.same (.lit (.int .i64 t24_2)) rfl), trivial⟩)) ⟨_, hl1 _ (Option.some.inj hj3).symm, rfl⟩

end Go.Q
