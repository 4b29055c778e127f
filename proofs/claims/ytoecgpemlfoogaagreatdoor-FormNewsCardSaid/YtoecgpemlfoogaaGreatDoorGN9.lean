import Derived.Test.YtoecgpemlfoogaaGreatDoorGN8
import Derived.Test.YtoecgpemlfoogaaGreatDoorFX
import Derived.Test.YtoecgpemlfoogaaGreatDoorProg
namespace Go.Q
open Go Go.Proofs
set_option maxRecDepth 10000
set_option maxHeartbeats 2000000

noncomputable def Ref3.written.statements.j3 (w0_0 : ByteArray) (w0_1 : List Int) (t17 : (List Int)) (i6 : Int) (t68 : Int) (t76 : ByteArray) (t95 : Int) (t114_0 : Int) (r1_0_4 : List api.Line) (r1_1_4 : Int) (r1_2_4 : ByteArray) (r1_3_4 : Int) (r1_4_5 : Bool) (r1_5_4 : Int) : Option (((List api.Line) × Int × ByteArray × Int × Bool × Int × Int × Int) ⊕ ((List api.Line) × Int × ByteArray × Int × Bool × Int)) :=
  chk (0 ≤ t95 ∧ t95 ≤ (t76.size : Int)) <|
  letk (t76.extract t95.toNat t76.size) fun t131 =>
  Option.bind (Ref3.reader.ends r1_0_4 t114_0 t131 r1_3_4 r1_4_5 r1_5_4) fun (o_0_1, o_1_1, o_2_1, o_3_1, o_4_1, o_5_1) =>
  letk (IntKind.i64.wrap (i6 + (1 : Int))) fun t26_1 =>
  some (.inl (o_0_1, o_1_1, o_2_1, o_3_1, o_4_1, o_5_1, t68, t26_1))

noncomputable def Ref3.written.statements.j2 (w0_0 : ByteArray) (w0_1 : List Int) (t17 : (List Int)) (i6 : Int) (t68 : Int) (t76 : ByteArray) (t95 : Int) (r1_0_3 : List api.Line) (r1_1_3 : Int) (r1_2_3 : ByteArray) (r1_3_3 : Int) (r1_4_4 : Bool) (r1_5_3 : Int) (t109 : Bool) : Option (((List api.Line) × Int × ByteArray × Int × Bool × Int × Int × Int) ⊕ ((List api.Line) × Int × ByteArray × Int × Bool × Int)) :=
  bif t109 then
    chk (0 ≤ t95 ∧ t95 ≤ (t76.size : Int)) <|
    letk (t76.extract 0 t95.toNat) fun t113 =>
    Option.bind (Ref3.number t113) fun (t114_0, t114_1) =>
    letk (!t114_1) fun t118 =>
    bif t118 then
      Option.bind (Ref3.reader.wrong r1_0_3 r1_1_3 r1_2_3 r1_3_3 r1_4_4 r1_5_3 r1_3_3) fun (o_0_2, o_1_2, o_2_2, o_3_2, o_4_2, o_5_2) =>
      Ref3.written.statements.j3 w0_0 w0_1 t17 i6 t68 t76 t95 t114_0 o_0_2 o_1_2 o_2_2 o_3_2 o_4_2 o_5_2
    else
      Ref3.written.statements.j3 w0_0 w0_1 t17 i6 t68 t76 t95 t114_0 r1_0_3 r1_1_3 r1_2_3 r1_3_3 r1_4_4 r1_5_3
  else
    Option.bind (Ref3.reader.ends r1_0_3 r1_1_3 r1_2_3 r1_3_3 r1_4_4 r1_5_3) fun (o_0, o_1, o_2, o_3, o_4, o_5) =>
    letk (IntKind.i64.wrap (i6 + (1 : Int))) fun t26 =>
    some (.inl (o_0, o_1, o_2, o_3, o_4, o_5, t68, t26))

noncomputable def Ref3.written.statements.j1 (w0_0 : ByteArray) (w0_1 : List Int) (t17 : (List Int)) (i6 : Int) (r1_0_2 : List api.Line) (r1_1_2 : Int) (r1_2_2 : ByteArray) (r1_3_2 : Int) (r1_5_2 : Int) (r1_4_3 : Bool) (a7 : Int) : Option (((List api.Line) × Int × ByteArray × Int × Bool × Int × Int × Int) ⊕ ((List api.Line) × Int × ByteArray × Int × Bool × Int)) :=
  letk (IntKind.i64.wrap (i6 + (1 : Int))) fun t68 =>
  chk (0 ≤ a7 ∧ a7 ≤ i6 ∧ i6 ≤ (w0_0.size : Int)) <|
  letk (w0_0.extract a7.toNat i6.toNat) fun t75 =>
  Option.bind (Ref3.right t75) fun t76 =>
  letk (t76.toList == (⟨#[]⟩ : ByteArray).toList) fun t78 =>
  bif t78 then
    letk (IntKind.i64.wrap (i6 + (1 : Int))) fun t26_2 =>
    some (.inl (r1_0_2, r1_1_2, r1_2_2, r1_3_2, r1_4_3, r1_5_2, t68, t26_2))
  else
    chk (0 ≤ a7) <|
    Option.bind (w0_1[a7.toNat]?) fun t87 =>
    Option.bind (Ref3.digits t76) fun t95 =>
    letk (decide (t95 > (0 : Int))) fun t97 =>
    bif t97 then
      letk ((t76.size : Int)) fun t101 =>
      letk (decide (t95 < t101)) fun t102 =>
      bif t102 then
        chk (0 ≤ t95 ∧ t95 < (t76.size : Int)) <|
        letk (bt t76 t95) fun t107 =>
        letk (t107 == (32 : Int)) fun t108 =>
        Ref3.written.statements.j2 w0_0 w0_1 t17 i6 t68 t76 t95 r1_0_2 0 t76 t87 true r1_5_2 t108
      else
        Ref3.written.statements.j2 w0_0 w0_1 t17 i6 t68 t76 t95 r1_0_2 0 t76 t87 true r1_5_2 false
    else
      Ref3.written.statements.j2 w0_0 w0_1 t17 i6 t68 t76 t95 r1_0_2 0 t76 t87 true r1_5_2 false

noncomputable def Ref3.written.statements.s1 (w0_0 : ByteArray) (w0_1 : List Int) (t17 : (List Int)) (i6 : Int) (r1_0_2 : List api.Line) (r1_1_2 : Int) (r1_2_2 : ByteArray) (r1_3_2 : Int) (r1_5_2 : Int) (r1_4_6 : Bool) (a7_1 : Int) : Option ((Bool × Int) ⊕ (((List api.Line) × Int × ByteArray × Int × Bool × Int × Int × Int) ⊕ ((List api.Line) × Int × ByteArray × Int × Bool × Int))) :=
  letk (decide (a7_1 < i6)) fun t55 =>
  bif t55 then
    chk (0 ≤ a7_1 ∧ a7_1 < (w0_0.size : Int)) <|
    letk (bt w0_0 a7_1) fun t62 =>
    letk (t62 == (32 : Int)) fun t63 =>
    bif t63 then
      letk (IntKind.i64.wrap (a7_1 + (1 : Int))) fun t66 =>
      some (.inl (r1_4_6, t66))
    else
      (Ref3.written.statements.j1 w0_0 w0_1 t17 i6 r1_0_2 r1_1_2 r1_2_2 r1_3_2 r1_5_2 r1_4_6 a7_1).map .inr
  else
    (Ref3.written.statements.j1 w0_0 w0_1 t17 i6 r1_0_2 r1_1_2 r1_2_2 r1_3_2 r1_5_2 r1_4_6 a7_1).map .inr

noncomputable def Ref3.written.statements.l1 (w0_0 : ByteArray) (w0_1 : List Int) (t17 : (List Int)) (i6 : Int) (r1_0_2 : List api.Line) (r1_1_2 : Int) (r1_2_2 : ByteArray) (r1_3_2 : Int) (r1_5_2 : Int) (r1_4_6 : Bool) (a7_1 : Int) : Option (((List api.Line) × Int × ByteArray × Int × Bool × Int × Int × Int) ⊕ ((List api.Line) × Int × ByteArray × Int × Bool × Int)) := loopO (fun v : Bool × Int => Ref3.written.statements.s1 w0_0 w0_1 t17 i6 r1_0_2 r1_1_2 r1_2_2 r1_3_2 r1_5_2 v.1 v.2) (r1_4_6, a7_1)
theorem Ref3.written.statements.l1_eq (w0_0 : ByteArray) (w0_1 : List Int) (t17 : (List Int)) (i6 : Int) (r1_0_2 : List api.Line) (r1_1_2 : Int) (r1_2_2 : ByteArray) (r1_3_2 : Int) (r1_5_2 : Int) (r1_4_6 : Bool) (a7_1 : Int) : Ref3.written.statements.l1 w0_0 w0_1 t17 i6 r1_0_2 r1_1_2 r1_2_2 r1_3_2 r1_5_2 r1_4_6 a7_1 = (Ref3.written.statements.s1 w0_0 w0_1 t17 i6 r1_0_2 r1_1_2 r1_2_2 r1_3_2 r1_5_2 r1_4_6 a7_1).bind (Sum.elim (fun v => Ref3.written.statements.l1 w0_0 w0_1 t17 i6 r1_0_2 r1_1_2 r1_2_2 r1_3_2 r1_5_2 v.1 v.2) some) := loopO_eq _ _

noncomputable def Ref3.written.statements.j0 (w0_0 : ByteArray) (w0_1 : List Int) (t17 : (List Int)) (from5 : Int) (i6 : Int) (r1_0_2 : List api.Line) (r1_1_2 : Int) (r1_2_2 : ByteArray) (r1_3_2 : Int) (r1_4_2 : Bool) (r1_5_2 : Int) : Option (((List api.Line) × Int × ByteArray × Int × Bool × Int × Int × Int) ⊕ ((List api.Line) × Int × ByteArray × Int × Bool × Int)) :=
  Ref3.written.statements.l1 w0_0 w0_1 t17 i6 r1_0_2 r1_1_2 r1_2_2 r1_3_2 r1_5_2 r1_4_2 from5

noncomputable def Ref3.written.statements.s0 (w0_0 : ByteArray) (w0_1 : List Int) (t17 : (List Int)) (r1_0_1 : List api.Line) (r1_1_1 : Int) (r1_2_1 : ByteArray) (r1_3_1 : Int) (r1_4_1 : Bool) (r1_5_1 : Int) (from5 : Int) (i6 : Int) : Option (((List api.Line) × Int × ByteArray × Int × Bool × Int × Int × Int) ⊕ ((List api.Line) × Int × ByteArray × Int × Bool × Int)) :=
  letk ((w0_0.size : Int)) fun t23 =>
  letk (decide (i6 ≤ t23)) fun t24 =>
  bif t24 then
    letk ((w0_0.size : Int)) fun t32 =>
    letk (decide (i6 < t32)) fun t33 =>
    bif t33 then
      chk (0 ≤ i6 ∧ i6 < (w0_0.size : Int)) <|
      letk (bt w0_0 i6) fun t40 =>
      letk (t40 == (59 : Int)) fun t41 =>
      bif t41 then
        chk (0 ≤ i6) <|
        Option.bind (t17[i6.toNat]?) fun t45 =>
        letk (t45 == (0 : Int)) fun t47 =>
        letk (!t47) fun t49 =>
        bif t49 then
          letk (IntKind.i64.wrap (i6 + (1 : Int))) fun t26_4 =>
          some (.inl (r1_0_1, r1_1_1, r1_2_1, r1_3_1, r1_4_1, r1_5_1, from5, t26_4))
        else
          Ref3.written.statements.j0 w0_0 w0_1 t17 from5 i6 r1_0_1 r1_1_1 r1_2_1 r1_3_1 r1_4_1 r1_5_1
      else
        letk (IntKind.i64.wrap (i6 + (1 : Int))) fun t26_3 =>
        some (.inl (r1_0_1, r1_1_1, r1_2_1, r1_3_1, r1_4_1, r1_5_1, from5, t26_3))
    else
      Ref3.written.statements.j0 w0_0 w0_1 t17 from5 i6 r1_0_1 r1_1_1 r1_2_1 r1_3_1 r1_4_1 r1_5_1
  else
    some (.inr (r1_0_1, r1_1_1, r1_2_1, r1_3_1, r1_4_1, r1_5_1))

noncomputable def Ref3.written.statements.l0 (w0_0 : ByteArray) (w0_1 : List Int) (t17 : (List Int)) (r1_0_1 : List api.Line) (r1_1_1 : Int) (r1_2_1 : ByteArray) (r1_3_1 : Int) (r1_4_1 : Bool) (r1_5_1 : Int) (from5 : Int) (i6 : Int) : Option ((List api.Line) × Int × ByteArray × Int × Bool × Int) := loopO (fun v : (List api.Line) × Int × ByteArray × Int × Bool × Int × Int × Int => Ref3.written.statements.s0 w0_0 w0_1 t17 v.1 v.2.1 v.2.2.1 v.2.2.2.1 v.2.2.2.2.1 v.2.2.2.2.2.1 v.2.2.2.2.2.2.1 v.2.2.2.2.2.2.2) (r1_0_1, r1_1_1, r1_2_1, r1_3_1, r1_4_1, r1_5_1, from5, i6)
theorem Ref3.written.statements.l0_eq (w0_0 : ByteArray) (w0_1 : List Int) (t17 : (List Int)) (r1_0_1 : List api.Line) (r1_1_1 : Int) (r1_2_1 : ByteArray) (r1_3_1 : Int) (r1_4_1 : Bool) (r1_5_1 : Int) (from5 : Int) (i6 : Int) : Ref3.written.statements.l0 w0_0 w0_1 t17 r1_0_1 r1_1_1 r1_2_1 r1_3_1 r1_4_1 r1_5_1 from5 i6 = (Ref3.written.statements.s0 w0_0 w0_1 t17 r1_0_1 r1_1_1 r1_2_1 r1_3_1 r1_4_1 r1_5_1 from5 i6).bind (Sum.elim (fun v => Ref3.written.statements.l0 w0_0 w0_1 t17 v.1 v.2.1 v.2.2.1 v.2.2.2.1 v.2.2.2.2.1 v.2.2.2.2.2.1 v.2.2.2.2.2.2.1 v.2.2.2.2.2.2.2) some) := loopO_eq _ _

noncomputable def Ref3.written.statements (w0_0 : ByteArray) (w0_1 : List Int) (r1_0 : List api.Line) (r1_1 : Int) (r1_2 : ByteArray) (r1_3 : Int) (r1_4 : Bool) (r1_5 : Int) : Option ((List api.Line) × Int × ByteArray × Int × Bool × Int) :=
  Option.bind (Ref3.marks w0_0 0) fun t17 =>
  Ref3.written.statements.l0 w0_0 w0_1 t17 r1_0 r1_1 r1_2 r1_3 r1_4 r1_5 0 0

theorem Ref3.written.statements_ok {w0_0 : ByteArray} {w0_1 : List Int} {r1_0 : List api.Line} {r1_1 : Int} {r1_2 : ByteArray} {r1_3 : Int} {r1_4 : Bool} {r1_5 : Int} {r : (List api.Line) × Int × ByteArray × Int × Bool × Int} (h0 : Ref3.written.statements w0_0 w0_1 r1_0 r1_1 r1_2 r1_3 r1_4 r1_5 = some r) : GivesK Tryz.prog 53 [.iptr (.agg [.lit (.string w0_0), .vs 1 (w0_1.map (eI .i64))]), .ptr 0 0] [.box [.ref 1 0 ((r1_0.map (api.Line.enc)).length), .lit (.int .i64 r1_1), .lit (.string r1_2), .lit (.int .i64 r1_3), .lit (.bool r1_4), .lit (.int .i64 r1_5)], .arr 3 (r1_0.map (api.Line.enc))] 1 (.tup []) [.box [.ref 1 0 ((r.1.map (api.Line.enc)).length), .lit (.int .i64 r.2.1), .lit (.string r.2.2.1), .lit (.int .i64 r.2.2.2.1), .lit (.bool r.2.2.2.2.1), .lit (.int .i64 r.2.2.2.2.2)], .arr 3 (r.1.map (api.Line.enc))] := by
  unfold Ref3.written.statements at h0
  refine ACallsK.of_swp Tryz.func53 rfl (by decide) rfl (st0 := ⟨140, [(0, .iptr (.agg [.lit (.string w0_0), .vs 1 (w0_1.map (eI .i64))])), (1, .ptr 0 0)], [.box [.ref 1 0 ((r1_0.map (api.Line.enc)).length), .lit (.int .i64 r1_1), .lit (.string r1_2), .lit (.int .i64 r1_3), .lit (.bool r1_4), .lit (.int .i64 r1_5)], .arr 3 (r1_0.map (api.Line.enc))]⟩) rfl rfl (bwp_ok (C := [(0, 6), (0, 9), (119, 31), (0, 18)]) ?_)
  obtain ⟨t17, et17, h1⟩ := bind_elim h0; clear h0
  conv => whnf
  refine Gate.go ?_
  conv => whnf
  refine CallN.by (v := .vs 1 (t17.map (eI .u8))) (Ref3.marks_ok et17) rfl rfl ?_
  conv => whnf
  unfold Ref3.written.statements.l0 at h1
  refine LoopB.of (σ := (List api.Line) × Int × ByteArray × Int × Bool × Int × Int × Int) (ρ := (List api.Line) × Int × ByteArray × Int × Bool × Int) (fun v : (List api.Line) × Int × ByteArray × Int × Bool × Int × Int × Int => Ref3.written.statements.s0 w0_0 w0_1 t17 v.1 v.2.1 v.2.2.1 v.2.2.2.1 v.2.2.2.2.1 v.2.2.2.2.2.1 v.2.2.2.2.2.2.1 v.2.2.2.2.2.2.2) (fun v => (⟨140, [(0, .iptr (.agg [.lit (.string w0_0), .vs 1 (w0_1.map (eI .i64))])), (1, .ptr 0 0), (4, .vs 1 (t17.map (eI .u8))), (5, .lit (.int .i64 v.2.2.2.2.2.2.1)), (6, .lit (.int .i64 v.2.2.2.2.2.2.2))], [.box [.ref 1 0 ((v.1.map (api.Line.enc)).length), .lit (.int .i64 v.2.1), .lit (.string v.2.2.1), .lit (.int .i64 v.2.2.2.1), .lit (.bool v.2.2.2.2.1), .lit (.int .i64 v.2.2.2.2.2.1)], .arr 3 (v.1.map (api.Line.enc))]⟩ : St)) (r1_0, r1_1, r1_2, r1_3, r1_4, r1_5, 0, 0) h1 (BackS.of (Sees.of (Weak.objs (keep := [0, 1]) (frz := []) (m := 0) (ts := [(0, .iptr (.agg [.lit (.string w0_0), .vs 1 (w0_1.map (eI .i64))])), (1, .ptr 0 0), (4, .vs 1 (t17.map (eI .u8))), (5, .lit (.int .i64 0)), (6, .lit (.int .i64 0))]) (hs := [.box [.ref 1 0 ((r1_0.map (api.Line.enc)).length), .lit (.int .i64 r1_1), .lit (.string r1_2), .lit (.int .i64 r1_3), .lit (.bool r1_4), .lit (.int .i64 r1_5)], .arr 3 (r1_0.map (api.Line.enc))]) rfl (by decide) rfl rfl ⟨⟨_, rfl, WO.boxs ⟨(.ref _ _ _ 1 rfl), (.same (.lit (.int .i64 r1_1)) rfl), (.same (.lit (.string r1_2)) rfl), (.same (.lit (.int .i64 r1_3)) rfl), (.same (.lit (.bool r1_4)) rfl), (.same (.lit (.int .i64 r1_5)) rfl), trivial⟩⟩, ⟨⟨_, rfl, .arr _ _⟩, ⟨rfl, fun _ h => by cases h⟩⟩⟩ ⟨(.same (.iptr (.agg [.lit (.string w0_0), .vs 1 (w0_1.map (eI .i64))])) rfl), (.ptr _ _ 0 rfl), (.same (.vs 1 (t17.map (eI .u8))) rfl), (.same (.lit (.int .i64 0)) rfl), (.same (.lit (.int .i64 0)) rfl), trivial⟩)) rfl) ?_
  clear h1
  rintro K1 ⟨r1_0_1, r1_1_1, r1_2_1, r1_3_1, r1_4_1, r1_5_1, from5, i6⟩ x1 hs0_0 hl1 hr1
  replace hs0_0 : Ref3.written.statements.s0 w0_0 w0_1 t17 r1_0_1 r1_1_1 r1_2_1 r1_3_1 r1_4_1 r1_5_1 from5 i6 = some x1 := hs0_0
  unfold Ref3.written.statements.s0 at hs0_0
  change bwp _ _ _ _ _ (⟨140, [(0, .iptr (.agg [.lit (.string w0_0), .vs 1 (w0_1.map (eI .i64))])), (1, .ptr 0 0), (4, .vs 1 (t17.map (eI .u8))), (5, .lit (.int .i64 from5)), (6, .lit (.int .i64 i6))], [.box [.ref 1 0 ((r1_0_1.map (api.Line.enc)).length), .lit (.int .i64 r1_1_1), .lit (.string r1_2_1), .lit (.int .i64 r1_3_1), .lit (.bool r1_4_1), .lit (.int .i64 r1_5_1)], .arr 3 (r1_0_1.map (api.Line.enc))]⟩ : St)
  obtain ⟨t23, et23, hs0_1⟩ := letk_elim hs0_0; clear hs0_0
  conv => whnf
  refine Nm.mk ⟨t23, et23, ?_⟩
  obtain ⟨t24, et24, hs0_2⟩ := letk_elim hs0_1; clear hs0_1
  conv => whnf
  refine Nm.mk ⟨t24, et24, ?_⟩
  rcases t24 with _ | _
  · have hs0_3 := bif_f hs0_2
    clear hs0_2
    have ehs0_3u_0 := hr1 _ (Option.some.inj hs0_3).symm
    have hs0_3u := congrArg some ehs0_3u_0
    have ehs0_3u_0 := Option.some.inj hs0_3u
    subst ehs0_3u_0
    conv => whnf
    exact Returns.hand (v := .tup []) (keep := [0, 1]) (frz := []) (m := 0) (h' := [.box [.ref 1 0 ((r1_0_1.map (api.Line.enc)).length), .lit (.int .i64 r1_1_1), .lit (.string r1_2_1), .lit (.int .i64 r1_3_1), .lit (.bool r1_4_1), .lit (.int .i64 r1_5_1)], .arr 3 (r1_0_1.map (api.Line.enc))]) rfl rfl (WH.of (by decide) rfl rfl ⟨⟨_, rfl, WO.boxs ⟨(.ref _ _ _ 1 rfl), (.same (.lit (.int .i64 r1_1_1)) rfl), (.same (.lit (.string r1_2_1)) rfl), (.same (.lit (.int .i64 r1_3_1)) rfl), (.same (.lit (.bool r1_4_1)) rfl), (.same (.lit (.int .i64 r1_5_1)) rfl), trivial⟩⟩, ⟨⟨_, rfl, .arr _ _⟩, ⟨rfl, fun _ h => by cases h⟩⟩⟩) (WV.tups trivial) ⟨rfl, rfl⟩
  · have hs0_3 := bif_t hs0_2
    clear hs0_2
    conv => whnf
    refine CutN.of (fun s => ∃ (r1_0_2 : List api.Line) (r1_1_2 : Int) (r1_2_2 : ByteArray) (r1_3_2 : Int) (r1_4_2 : Bool) (r1_5_2 : Int), Ref3.written.statements.j0 w0_0 w0_1 t17 from5 i6 r1_0_2 r1_1_2 r1_2_2 r1_3_2 r1_4_2 r1_5_2 = some x1 ∧ s = (⟨140, [(0, .iptr (.agg [.lit (.string w0_0), .vs 1 (w0_1.map (eI .i64))])), (1, .ptr 0 0), (4, .vs 1 (t17.map (eI .u8))), (5, .lit (.int .i64 from5)), (6, .lit (.int .i64 i6))], [.box [.ref 1 0 ((r1_0_2.map (api.Line.enc)).length), .lit (.int .i64 r1_1_2), .lit (.string r1_2_2), .lit (.int .i64 r1_3_2), .lit (.bool r1_4_2), .lit (.int .i64 r1_5_2)], .arr 3 (r1_0_2.map (api.Line.enc))]⟩ : St)) ?_ ?_
    · obtain ⟨t32, et32, hs0_4⟩ := letk_elim hs0_3; clear hs0_3
      conv => whnf
      refine Nm.mk ⟨t32, et32, ?_⟩
      obtain ⟨t33, et33, hs0_5⟩ := letk_elim hs0_4; clear hs0_4
      conv => whnf
      refine Nm.mk ⟨t33, et33, ?_⟩
      rcases t33 with _ | _
      · have hs0_6 := bif_f hs0_5
        clear hs0_5
        exact BackS.of (Sees.of (Weak.objs (keep := [0, 1]) (frz := []) (m := 0) (ts := [(0, .iptr (.agg [.lit (.string w0_0), .vs 1 (w0_1.map (eI .i64))])), (1, .ptr 0 0), (4, .vs 1 (t17.map (eI .u8))), (5, .lit (.int .i64 from5)), (6, .lit (.int .i64 i6))]) (hs := [.box [.ref 1 0 ((r1_0_1.map (api.Line.enc)).length), .lit (.int .i64 r1_1_1), .lit (.string r1_2_1), .lit (.int .i64 r1_3_1), .lit (.bool r1_4_1), .lit (.int .i64 r1_5_1)], .arr 3 (r1_0_1.map (api.Line.enc))]) rfl (by decide) rfl rfl ⟨⟨_, rfl, WO.boxs ⟨(.ref _ _ _ 1 rfl), (.same (.lit (.int .i64 r1_1_1)) rfl), (.same (.lit (.string r1_2_1)) rfl), (.same (.lit (.int .i64 r1_3_1)) rfl), (.same (.lit (.bool r1_4_1)) rfl), (.same (.lit (.int .i64 r1_5_1)) rfl), trivial⟩⟩, ⟨⟨_, rfl, .arr _ _⟩, ⟨rfl, fun _ h => by cases h⟩⟩⟩ ⟨(.same (.iptr (.agg [.lit (.string w0_0), .vs 1 (w0_1.map (eI .i64))])) rfl), (.ptr _ _ 0 rfl), (.same (.vs 1 (t17.map (eI .u8))) rfl), (.same (.lit (.int .i64 from5)) rfl), (.same (.lit (.int .i64 i6)) rfl), trivial⟩)) ⟨_, _, _, _, _, _, hs0_6, rfl⟩
      · have hs0_6 := bif_t hs0_5
        clear hs0_5
        obtain ⟨chs0_7, hs0_7⟩ := chk_elim hs0_6; clear hs0_6
        obtain ⟨t40, et40, hs0_8⟩ := letk_elim hs0_7; clear hs0_7
        conv => whnf
        refine Side.mk chs0_7 ?_
        conv => whnf
        refine Nm.mk ⟨t40, et40, ?_⟩
        obtain ⟨t41, et41, hs0_9⟩ := letk_elim hs0_8; clear hs0_8
        conv => whnf
        refine Nm.mk ⟨t41, et41, ?_⟩
        rcases t41 with _ | _
        · have hs0_10 := bif_f hs0_9
          clear hs0_9
          conv => whnf
          refine Nm.mk ⟨true, rfl, ?_⟩
          obtain ⟨t26_3, et26_3, hs0_11⟩ := letk_elim hs0_10; clear hs0_10
          conv => whnf
          refine Nm.mk ⟨t26_3, et26_3, ?_⟩
          exact BackS.of (Sees.of (Weak.objs (keep := [0, 1]) (frz := []) (m := 0) (ts := [(0, .iptr (.agg [.lit (.string w0_0), .vs 1 (w0_1.map (eI .i64))])), (1, .ptr 0 0), (4, .vs 1 (t17.map (eI .u8))), (5, .lit (.int .i64 from5)), (6, .lit (.int .i64 t26_3))]) (hs := [.box [.ref 1 0 ((r1_0_1.map (api.Line.enc)).length), .lit (.int .i64 r1_1_1), .lit (.string r1_2_1), .lit (.int .i64 r1_3_1), .lit (.bool r1_4_1), .lit (.int .i64 r1_5_1)], .arr 3 (r1_0_1.map (api.Line.enc))]) rfl (by decide) rfl rfl ⟨⟨_, rfl, WO.boxs ⟨(.ref _ _ _ 1 rfl), (.same (.lit (.int .i64 r1_1_1)) rfl), (.same (.lit (.string r1_2_1)) rfl), (.same (.lit (.int .i64 r1_3_1)) rfl), (.same (.lit (.bool r1_4_1)) rfl), (.same (.lit (.int .i64 r1_5_1)) rfl), trivial⟩⟩, ⟨⟨_, rfl, .arr _ _⟩, ⟨rfl, fun _ h => by cases h⟩⟩⟩ ⟨(.same (.iptr (.agg [.lit (.string w0_0), .vs 1 (w0_1.map (eI .i64))])) rfl), (.ptr _ _ 0 rfl), (.same (.vs 1 (t17.map (eI .u8))) rfl), (.same (.lit (.int .i64 from5)) rfl), (.same (.lit (.int .i64 t26_3)) rfl), trivial⟩)) ⟨_, hl1 _ (Option.some.inj hs0_11).symm, rfl⟩
        · have hs0_10 := bif_t hs0_9
          clear hs0_9
          obtain ⟨chs0_11, hs0_11⟩ := chk_elim hs0_10; clear hs0_10
          obtain ⟨t45, et45, hs0_12⟩ := bind_elim hs0_11; clear hs0_11
          conv => whnf
          refine Side.mk chs0_11 ?_
          conv => whnf
          refine At.by et45 ?_
          obtain ⟨t47, et47, hs0_13⟩ := letk_elim hs0_12; clear hs0_12
          conv => whnf
          refine Nm.mk ⟨t47, et47, ?_⟩
          obtain ⟨t49, et49, hs0_14⟩ := letk_elim hs0_13; clear hs0_13
          conv => whnf
          refine Nm.mk ⟨t49, et49, ?_⟩
          rcases t49 with _ | _
          · have hs0_15 := bif_f hs0_14
            clear hs0_14
            exact BackS.of (Sees.of (Weak.objs (keep := [0, 1]) (frz := []) (m := 0) (ts := [(0, .iptr (.agg [.lit (.string w0_0), .vs 1 (w0_1.map (eI .i64))])), (1, .ptr 0 0), (4, .vs 1 (t17.map (eI .u8))), (5, .lit (.int .i64 from5)), (6, .lit (.int .i64 i6))]) (hs := [.box [.ref 1 0 ((r1_0_1.map (api.Line.enc)).length), .lit (.int .i64 r1_1_1), .lit (.string r1_2_1), .lit (.int .i64 r1_3_1), .lit (.bool r1_4_1), .lit (.int .i64 r1_5_1)], .arr 3 (r1_0_1.map (api.Line.enc))]) rfl (by decide) rfl rfl ⟨⟨_, rfl, WO.boxs ⟨(.ref _ _ _ 1 rfl), (.same (.lit (.int .i64 r1_1_1)) rfl), (.same (.lit (.string r1_2_1)) rfl), (.same (.lit (.int .i64 r1_3_1)) rfl), (.same (.lit (.bool r1_4_1)) rfl), (.same (.lit (.int .i64 r1_5_1)) rfl), trivial⟩⟩, ⟨⟨_, rfl, .arr _ _⟩, ⟨rfl, fun _ h => by cases h⟩⟩⟩ ⟨(.same (.iptr (.agg [.lit (.string w0_0), .vs 1 (w0_1.map (eI .i64))])) rfl), (.ptr _ _ 0 rfl), (.same (.vs 1 (t17.map (eI .u8))) rfl), (.same (.lit (.int .i64 from5)) rfl), (.same (.lit (.int .i64 i6)) rfl), trivial⟩)) ⟨_, _, _, _, _, _, hs0_15, rfl⟩
          · have hs0_15 := bif_t hs0_14
            clear hs0_14
            obtain ⟨t26_4, et26_4, hs0_16⟩ := letk_elim hs0_15; clear hs0_15
            conv => whnf
            refine Nm.mk ⟨t26_4, et26_4, ?_⟩
            exact BackS.of (Sees.of (Weak.objs (keep := [0, 1]) (frz := []) (m := 0) (ts := [(0, .iptr (.agg [.lit (.string w0_0), .vs 1 (w0_1.map (eI .i64))])), (1, .ptr 0 0), (4, .vs 1 (t17.map (eI .u8))), (5, .lit (.int .i64 from5)), (6, .lit (.int .i64 t26_4))]) (hs := [.box [.ref 1 0 ((r1_0_1.map (api.Line.enc)).length), .lit (.int .i64 r1_1_1), .lit (.string r1_2_1), .lit (.int .i64 r1_3_1), .lit (.bool r1_4_1), .lit (.int .i64 r1_5_1)], .arr 3 (r1_0_1.map (api.Line.enc))]) rfl (by decide) rfl rfl ⟨⟨_, rfl, WO.boxs ⟨(.ref _ _ _ 1 rfl), (.same (.lit (.int .i64 r1_1_1)) rfl), (.same (.lit (.string r1_2_1)) rfl), (.same (.lit (.int .i64 r1_3_1)) rfl), (.same (.lit (.bool r1_4_1)) rfl), (.same (.lit (.int .i64 r1_5_1)) rfl), trivial⟩⟩, ⟨⟨_, rfl, .arr _ _⟩, ⟨rfl, fun _ h => by cases h⟩⟩⟩ ⟨(.same (.iptr (.agg [.lit (.string w0_0), .vs 1 (w0_1.map (eI .i64))])) rfl), (.ptr _ _ 0 rfl), (.same (.vs 1 (t17.map (eI .u8))) rfl), (.same (.lit (.int .i64 from5)) rfl), (.same (.lit (.int .i64 t26_4)) rfl), trivial⟩)) ⟨_, hl1 _ (Option.some.inj hs0_16).symm, rfl⟩
    · clear hs0_3
      rintro s ⟨r1_0_2, r1_1_2, r1_2_2, r1_3_2, r1_4_2, r1_5_2, hj0, rfl⟩
      unfold Ref3.written.statements.j0 at hj0
      conv => whnf
      refine CutN.of (fun s => ∃ (r1_4_3 : Bool) (a7 : Int), Ref3.written.statements.j1 w0_0 w0_1 t17 i6 r1_0_2 r1_1_2 r1_2_2 r1_3_2 r1_5_2 r1_4_3 a7 = some x1 ∧ s = (⟨140, [(0, .iptr (.agg [.lit (.string w0_0), .vs 1 (w0_1.map (eI .i64))])), (1, .ptr 0 0), (4, .vs 1 (t17.map (eI .u8))), (6, .lit (.int .i64 i6)), (7, .lit (.int .i64 a7)), (8, .lit (.int .i64 i6))], [.box [.ref 1 0 ((r1_0_2.map (api.Line.enc)).length), .lit (.int .i64 r1_1_2), .lit (.string r1_2_2), .lit (.int .i64 r1_3_2), .lit (.bool r1_4_3), .lit (.int .i64 r1_5_2)], .arr 3 (r1_0_2.map (api.Line.enc))]⟩ : St)) ?_ ?_
      · conv => whnf
        unfold Ref3.written.statements.l1 at hj0
        refine LoopB.of (σ := Bool × Int) (ρ := ((List api.Line) × Int × ByteArray × Int × Bool × Int × Int × Int) ⊕ ((List api.Line) × Int × ByteArray × Int × Bool × Int)) (fun v : Bool × Int => Ref3.written.statements.s1 w0_0 w0_1 t17 i6 r1_0_2 r1_1_2 r1_2_2 r1_3_2 r1_5_2 v.1 v.2) (fun v => (⟨140, [(0, .iptr (.agg [.lit (.string w0_0), .vs 1 (w0_1.map (eI .i64))])), (1, .ptr 0 0), (4, .vs 1 (t17.map (eI .u8))), (6, .lit (.int .i64 i6)), (7, .lit (.int .i64 v.2)), (8, .lit (.int .i64 i6))], [.box [.ref 1 0 ((r1_0_2.map (api.Line.enc)).length), .lit (.int .i64 r1_1_2), .lit (.string r1_2_2), .lit (.int .i64 r1_3_2), .lit (.bool v.1), .lit (.int .i64 r1_5_2)], .arr 3 (r1_0_2.map (api.Line.enc))]⟩ : St)) (r1_4_2, from5) hj0 (BackS.of (Sees.of (Weak.objs (keep := [0, 1]) (frz := []) (m := 0) (ts := [(0, .iptr (.agg [.lit (.string w0_0), .vs 1 (w0_1.map (eI .i64))])), (1, .ptr 0 0), (4, .vs 1 (t17.map (eI .u8))), (6, .lit (.int .i64 i6)), (7, .lit (.int .i64 from5)), (8, .lit (.int .i64 i6))]) (hs := [.box [.ref 1 0 ((r1_0_2.map (api.Line.enc)).length), .lit (.int .i64 r1_1_2), .lit (.string r1_2_2), .lit (.int .i64 r1_3_2), .lit (.bool r1_4_2), .lit (.int .i64 r1_5_2)], .arr 3 (r1_0_2.map (api.Line.enc))]) rfl (by decide) rfl rfl ⟨⟨_, rfl, WO.boxs ⟨(.ref _ _ _ 1 rfl), (.same (.lit (.int .i64 r1_1_2)) rfl), (.same (.lit (.string r1_2_2)) rfl), (.same (.lit (.int .i64 r1_3_2)) rfl), (.same (.lit (.bool r1_4_2)) rfl), (.same (.lit (.int .i64 r1_5_2)) rfl), trivial⟩⟩, ⟨⟨_, rfl, .arr _ _⟩, ⟨rfl, fun _ h => by cases h⟩⟩⟩ ⟨(.same (.iptr (.agg [.lit (.string w0_0), .vs 1 (w0_1.map (eI .i64))])) rfl), (.ptr _ _ 0 rfl), (.same (.vs 1 (t17.map (eI .u8))) rfl), (.same (.lit (.int .i64 i6)) rfl), (.same (.lit (.int .i64 from5)) rfl), (.same (.lit (.int .i64 i6)) rfl), trivial⟩)) rfl) ?_
        clear hj0
        rintro K2 ⟨r1_4_6, a7_1⟩ x2 hs1_0 hl2 hr2
        replace hs1_0 : Ref3.written.statements.s1 w0_0 w0_1 t17 i6 r1_0_2 r1_1_2 r1_2_2 r1_3_2 r1_5_2 r1_4_6 a7_1 = some x2 := hs1_0
        unfold Ref3.written.statements.s1 at hs1_0
        change bwp _ _ _ _ _ (⟨140, [(0, .iptr (.agg [.lit (.string w0_0), .vs 1 (w0_1.map (eI .i64))])), (1, .ptr 0 0), (4, .vs 1 (t17.map (eI .u8))), (6, .lit (.int .i64 i6)), (7, .lit (.int .i64 a7_1)), (8, .lit (.int .i64 i6))], [.box [.ref 1 0 ((r1_0_2.map (api.Line.enc)).length), .lit (.int .i64 r1_1_2), .lit (.string r1_2_2), .lit (.int .i64 r1_3_2), .lit (.bool r1_4_6), .lit (.int .i64 r1_5_2)], .arr 3 (r1_0_2.map (api.Line.enc))]⟩ : St)
        obtain ⟨t55, et55, hs1_1⟩ := letk_elim hs1_0; clear hs1_0
        conv => whnf
        refine Nm.mk ⟨t55, et55, ?_⟩
        rcases t55 with _ | _
        · have hs1_2 := bif_f hs1_1
          clear hs1_1
          obtain ⟨yhs1_2_0, hs1_2u, ehs1_2_0⟩ := map_elim hs1_2
          have ehs1_2_0 := (hr2 _ ehs1_2_0.symm).symm
          subst ehs1_2_0
          exact BackS.of (Sees.of (Weak.objs (keep := [0, 1]) (frz := []) (m := 0) (ts := [(0, .iptr (.agg [.lit (.string w0_0), .vs 1 (w0_1.map (eI .i64))])), (1, .ptr 0 0), (4, .vs 1 (t17.map (eI .u8))), (6, .lit (.int .i64 i6)), (7, .lit (.int .i64 a7_1)), (8, .lit (.int .i64 i6))]) (hs := [.box [.ref 1 0 ((r1_0_2.map (api.Line.enc)).length), .lit (.int .i64 r1_1_2), .lit (.string r1_2_2), .lit (.int .i64 r1_3_2), .lit (.bool r1_4_6), .lit (.int .i64 r1_5_2)], .arr 3 (r1_0_2.map (api.Line.enc))]) rfl (by decide) rfl rfl ⟨⟨_, rfl, WO.boxs ⟨(.ref _ _ _ 1 rfl), (.same (.lit (.int .i64 r1_1_2)) rfl), (.same (.lit (.string r1_2_2)) rfl), (.same (.lit (.int .i64 r1_3_2)) rfl), (.same (.lit (.bool r1_4_6)) rfl), (.same (.lit (.int .i64 r1_5_2)) rfl), trivial⟩⟩, ⟨⟨_, rfl, .arr _ _⟩, ⟨rfl, fun _ h => by cases h⟩⟩⟩ ⟨(.same (.iptr (.agg [.lit (.string w0_0), .vs 1 (w0_1.map (eI .i64))])) rfl), (.ptr _ _ 0 rfl), (.same (.vs 1 (t17.map (eI .u8))) rfl), (.same (.lit (.int .i64 i6)) rfl), (.same (.lit (.int .i64 a7_1)) rfl), (.same (.lit (.int .i64 i6)) rfl), trivial⟩)) ⟨_, _, hs1_2u, rfl⟩
        · have hs1_2 := bif_t hs1_1
          clear hs1_1
          obtain ⟨chs1_3, hs1_3⟩ := chk_elim hs1_2; clear hs1_2
          obtain ⟨t62, et62, hs1_4⟩ := letk_elim hs1_3; clear hs1_3
          conv => whnf
          refine Side.mk chs1_3 ?_
          conv => whnf
          refine Nm.mk ⟨t62, et62, ?_⟩
          obtain ⟨t63, et63, hs1_5⟩ := letk_elim hs1_4; clear hs1_4
          conv => whnf
          refine Nm.mk ⟨t63, et63, ?_⟩
          rcases t63 with _ | _
          · have hs1_6 := bif_f hs1_5
            clear hs1_5
            obtain ⟨yhs1_6_0, hs1_6u, ehs1_6_0⟩ := map_elim hs1_6
            have ehs1_6_0 := (hr2 _ ehs1_6_0.symm).symm
            subst ehs1_6_0
            exact BackS.of (Sees.of (Weak.objs (keep := [0, 1]) (frz := []) (m := 0) (ts := [(0, .iptr (.agg [.lit (.string w0_0), .vs 1 (w0_1.map (eI .i64))])), (1, .ptr 0 0), (4, .vs 1 (t17.map (eI .u8))), (6, .lit (.int .i64 i6)), (7, .lit (.int .i64 a7_1)), (8, .lit (.int .i64 i6))]) (hs := [.box [.ref 1 0 ((r1_0_2.map (api.Line.enc)).length), .lit (.int .i64 r1_1_2), .lit (.string r1_2_2), .lit (.int .i64 r1_3_2), .lit (.bool r1_4_6), .lit (.int .i64 r1_5_2)], .arr 3 (r1_0_2.map (api.Line.enc))]) rfl (by decide) rfl rfl ⟨⟨_, rfl, WO.boxs ⟨(.ref _ _ _ 1 rfl), (.same (.lit (.int .i64 r1_1_2)) rfl), (.same (.lit (.string r1_2_2)) rfl), (.same (.lit (.int .i64 r1_3_2)) rfl), (.same (.lit (.bool r1_4_6)) rfl), (.same (.lit (.int .i64 r1_5_2)) rfl), trivial⟩⟩, ⟨⟨_, rfl, .arr _ _⟩, ⟨rfl, fun _ h => by cases h⟩⟩⟩ ⟨(.same (.iptr (.agg [.lit (.string w0_0), .vs 1 (w0_1.map (eI .i64))])) rfl), (.ptr _ _ 0 rfl), (.same (.vs 1 (t17.map (eI .u8))) rfl), (.same (.lit (.int .i64 i6)) rfl), (.same (.lit (.int .i64 a7_1)) rfl), (.same (.lit (.int .i64 i6)) rfl), trivial⟩)) ⟨_, _, hs1_6u, rfl⟩
          · have hs1_6 := bif_t hs1_5
            clear hs1_5
            obtain ⟨t66, et66, hs1_7⟩ := letk_elim hs1_6; clear hs1_6
            conv => whnf
            refine Nm.mk ⟨t66, et66, ?_⟩
            exact BackS.of (Sees.of (Weak.objs (keep := [0, 1]) (frz := []) (m := 0) (ts := [(0, .iptr (.agg [.lit (.string w0_0), .vs 1 (w0_1.map (eI .i64))])), (1, .ptr 0 0), (4, .vs 1 (t17.map (eI .u8))), (6, .lit (.int .i64 i6)), (7, .lit (.int .i64 t66)), (8, .lit (.int .i64 i6))]) (hs := [.box [.ref 1 0 ((r1_0_2.map (api.Line.enc)).length), .lit (.int .i64 r1_1_2), .lit (.string r1_2_2), .lit (.int .i64 r1_3_2), .lit (.bool r1_4_6), .lit (.int .i64 r1_5_2)], .arr 3 (r1_0_2.map (api.Line.enc))]) rfl (by decide) rfl rfl ⟨⟨_, rfl, WO.boxs ⟨(.ref _ _ _ 1 rfl), (.same (.lit (.int .i64 r1_1_2)) rfl), (.same (.lit (.string r1_2_2)) rfl), (.same (.lit (.int .i64 r1_3_2)) rfl), (.same (.lit (.bool r1_4_6)) rfl), (.same (.lit (.int .i64 r1_5_2)) rfl), trivial⟩⟩, ⟨⟨_, rfl, .arr _ _⟩, ⟨rfl, fun _ h => by cases h⟩⟩⟩ ⟨(.same (.iptr (.agg [.lit (.string w0_0), .vs 1 (w0_1.map (eI .i64))])) rfl), (.ptr _ _ 0 rfl), (.same (.vs 1 (t17.map (eI .u8))) rfl), (.same (.lit (.int .i64 i6)) rfl), (.same (.lit (.int .i64 t66)) rfl), (.same (.lit (.int .i64 i6)) rfl), trivial⟩)) ⟨_, hl2 _ (Option.some.inj hs1_7).symm, rfl⟩
      · clear hj0
        rintro s ⟨r1_4_3, a7, hj0, rfl⟩
        unfold Ref3.written.statements.j1 at hj0
        obtain ⟨t68, et68, hj1⟩ := letk_elim hj0; clear hj0
        conv => whnf
        refine Nm.mk ⟨t68, et68, ?_⟩
        obtain ⟨chj2, hj2⟩ := chk_elim hj1; clear hj1
        obtain ⟨t75, et75, hj3⟩ := letk_elim hj2; clear hj2
        conv => whnf
        refine Side.mk chj2 ?_
        conv => whnf
        refine Nm.mk ⟨t75, et75, ?_⟩
        obtain ⟨t76, et76, hj4⟩ := bind_elim hj3; clear hj3
        conv => whnf
        refine Gate.go ?_
        conv => whnf
        refine CallN.by (v := .lit (.string t76)) (Ref3.right_ok et76) rfl rfl ?_
        obtain ⟨t78, et78, hj5⟩ := letk_elim hj4; clear hj4
        conv => whnf
        refine Nm.mk ⟨t78, et78, ?_⟩
        rcases t78 with _ | _
        · have hj6 := bif_f hj5
          clear hj5
          obtain ⟨chj7, hj7⟩ := chk_elim hj6; clear hj6
          obtain ⟨t87, et87, hj8⟩ := bind_elim hj7; clear hj7
          conv => whnf
          refine Side.mk chj7 ?_
          conv => whnf
          refine At.by et87 ?_
          conv => whnf
          refine Gate.go ?_
          conv => whnf
          refine Nm.mk ⟨[.lit (.int .i64 0), .lit (.string t76), .lit (.int .i64 t87)], rfl, ?_⟩
          conv => whnf
          refine Nm.mk ⟨[.ref 1 0 ((r1_0_2.map (api.Line.enc)).length), .lit (.int .i64 0), .lit (.string t76), .lit (.int .i64 t87), .lit (.bool r1_4_3), .lit (.int .i64 r1_5_2)], rfl, ?_⟩
          conv => whnf
          refine Nm.mk ⟨[.ref 1 0 ((r1_0_2.map (api.Line.enc)).length), .lit (.int .i64 0), .lit (.string t76), .lit (.int .i64 t87), .lit (.bool true), .lit (.int .i64 r1_5_2)], rfl, ?_⟩
          obtain ⟨t95, et95, hj9⟩ := bind_elim hj8; clear hj8
          conv => whnf
          refine Gate.go ?_
          conv => whnf
          refine CallN.by (v := .lit (.int .i64 t95)) (Ref3.digits_ok et95) rfl rfl ?_
          conv => whnf
          refine CutN.of (fun s => ∃ (r1_0_3 : List api.Line) (r1_1_3 : Int) (r1_2_3 : ByteArray) (r1_3_3 : Int) (r1_4_4 : Bool) (r1_5_3 : Int) (t109 : Bool), Ref3.written.statements.j2 w0_0 w0_1 t17 i6 t68 t76 t95 r1_0_3 r1_1_3 r1_2_3 r1_3_3 r1_4_4 r1_5_3 t109 = some x1 ∧ s = (⟨140, [(0, .iptr (.agg [.lit (.string w0_0), .vs 1 (w0_1.map (eI .i64))])), (1, .ptr 0 0), (4, .vs 1 (t17.map (eI .u8))), (5, .lit (.int .i64 t68)), (6, .lit (.int .i64 i6)), (9, .lit (.string t76)), (10, .lit (.int .i64 t95)), (109, .lit (.bool t109))], [.box [.ref 1 0 ((r1_0_3.map (api.Line.enc)).length), .lit (.int .i64 r1_1_3), .lit (.string r1_2_3), .lit (.int .i64 r1_3_3), .lit (.bool r1_4_4), .lit (.int .i64 r1_5_3)], .arr 3 (r1_0_3.map (api.Line.enc))]⟩ : St)) ?_ ?_
          · obtain ⟨t97, et97, hj10⟩ := letk_elim hj9; clear hj9
            conv => whnf
            refine Nm.mk ⟨t97, et97, ?_⟩
            rcases t97 with _ | _
            · have hj11 := bif_f hj10
              clear hj10
              exact BackS.of (Sees.of (Weak.objs (keep := [0, 1]) (frz := []) (m := 0) (ts := [(0, .iptr (.agg [.lit (.string w0_0), .vs 1 (w0_1.map (eI .i64))])), (1, .ptr 0 0), (4, .vs 1 (t17.map (eI .u8))), (5, .lit (.int .i64 t68)), (6, .lit (.int .i64 i6)), (9, .lit (.string t76)), (10, .lit (.int .i64 t95)), (109, .lit (.bool false))]) (hs := [.box [.ref 1 0 ((r1_0_2.map (api.Line.enc)).length), .lit (.int .i64 0), .lit (.string t76), .lit (.int .i64 t87), .lit (.bool true), .lit (.int .i64 r1_5_2)], .arr 3 (r1_0_2.map (api.Line.enc))]) rfl (by decide) rfl rfl ⟨⟨_, rfl, WO.boxs ⟨(.ref _ _ _ 1 rfl), (.same (.lit (.int .i64 0)) rfl), (.same (.lit (.string t76)) rfl), (.same (.lit (.int .i64 t87)) rfl), (.same (.lit (.bool true)) rfl), (.same (.lit (.int .i64 r1_5_2)) rfl), trivial⟩⟩, ⟨⟨_, rfl, .arr _ _⟩, ⟨rfl, fun _ h => by cases h⟩⟩⟩ ⟨(.same (.iptr (.agg [.lit (.string w0_0), .vs 1 (w0_1.map (eI .i64))])) rfl), (.ptr _ _ 0 rfl), (.same (.vs 1 (t17.map (eI .u8))) rfl), (.same (.lit (.int .i64 t68)) rfl), (.same (.lit (.int .i64 i6)) rfl), (.same (.lit (.string t76)) rfl), (.same (.lit (.int .i64 t95)) rfl), (.same (.lit (.bool false)) rfl), trivial⟩)) ⟨_, _, _, _, _, _, _, hj11, rfl⟩
            · have hj11 := bif_t hj10
              clear hj10
              obtain ⟨t101, et101, hj12⟩ := letk_elim hj11; clear hj11
              conv => whnf
              refine Nm.mk ⟨t101, et101, ?_⟩
              obtain ⟨t102, et102, hj13⟩ := letk_elim hj12; clear hj12
              conv => whnf
              refine Nm.mk ⟨t102, et102, ?_⟩
              rcases t102 with _ | _
              · have hj14 := bif_f hj13
                clear hj13
                exact BackS.of (Sees.of (Weak.objs (keep := [0, 1]) (frz := []) (m := 0) (ts := [(0, .iptr (.agg [.lit (.string w0_0), .vs 1 (w0_1.map (eI .i64))])), (1, .ptr 0 0), (4, .vs 1 (t17.map (eI .u8))), (5, .lit (.int .i64 t68)), (6, .lit (.int .i64 i6)), (9, .lit (.string t76)), (10, .lit (.int .i64 t95)), (109, .lit (.bool false))]) (hs := [.box [.ref 1 0 ((r1_0_2.map (api.Line.enc)).length), .lit (.int .i64 0), .lit (.string t76), .lit (.int .i64 t87), .lit (.bool true), .lit (.int .i64 r1_5_2)], .arr 3 (r1_0_2.map (api.Line.enc))]) rfl (by decide) rfl rfl ⟨⟨_, rfl, WO.boxs ⟨(.ref _ _ _ 1 rfl), (.same (.lit (.int .i64 0)) rfl), (.same (.lit (.string t76)) rfl), (.same (.lit (.int .i64 t87)) rfl), (.same (.lit (.bool true)) rfl), (.same (.lit (.int .i64 r1_5_2)) rfl), trivial⟩⟩, ⟨⟨_, rfl, .arr _ _⟩, ⟨rfl, fun _ h => by cases h⟩⟩⟩ ⟨(.same (.iptr (.agg [.lit (.string w0_0), .vs 1 (w0_1.map (eI .i64))])) rfl), (.ptr _ _ 0 rfl), (.same (.vs 1 (t17.map (eI .u8))) rfl), (.same (.lit (.int .i64 t68)) rfl), (.same (.lit (.int .i64 i6)) rfl), (.same (.lit (.string t76)) rfl), (.same (.lit (.int .i64 t95)) rfl), (.same (.lit (.bool false)) rfl), trivial⟩)) ⟨_, _, _, _, _, _, _, hj14, rfl⟩
              · have hj14 := bif_t hj13
                clear hj13
                obtain ⟨chj15, hj15⟩ := chk_elim hj14; clear hj14
                obtain ⟨t107, et107, hj16⟩ := letk_elim hj15; clear hj15
                conv => whnf
                refine Side.mk chj15 ?_
                conv => whnf
                refine Nm.mk ⟨t107, et107, ?_⟩
                obtain ⟨t108, et108, hj17⟩ := letk_elim hj16; clear hj16
                conv => whnf
                refine Nm.mk ⟨t108, et108, ?_⟩
                exact BackS.of (Sees.of (Weak.objs (keep := [0, 1]) (frz := []) (m := 0) (ts := [(0, .iptr (.agg [.lit (.string w0_0), .vs 1 (w0_1.map (eI .i64))])), (1, .ptr 0 0), (4, .vs 1 (t17.map (eI .u8))), (5, .lit (.int .i64 t68)), (6, .lit (.int .i64 i6)), (9, .lit (.string t76)), (10, .lit (.int .i64 t95)), (109, .lit (.bool t108))]) (hs := [.box [.ref 1 0 ((r1_0_2.map (api.Line.enc)).length), .lit (.int .i64 0), .lit (.string t76), .lit (.int .i64 t87), .lit (.bool true), .lit (.int .i64 r1_5_2)], .arr 3 (r1_0_2.map (api.Line.enc))]) rfl (by decide) rfl rfl ⟨⟨_, rfl, WO.boxs ⟨(.ref _ _ _ 1 rfl), (.same (.lit (.int .i64 0)) rfl), (.same (.lit (.string t76)) rfl), (.same (.lit (.int .i64 t87)) rfl), (.same (.lit (.bool true)) rfl), (.same (.lit (.int .i64 r1_5_2)) rfl), trivial⟩⟩, ⟨⟨_, rfl, .arr _ _⟩, ⟨rfl, fun _ h => by cases h⟩⟩⟩ ⟨(.same (.iptr (.agg [.lit (.string w0_0), .vs 1 (w0_1.map (eI .i64))])) rfl), (.ptr _ _ 0 rfl), (.same (.vs 1 (t17.map (eI .u8))) rfl), (.same (.lit (.int .i64 t68)) rfl), (.same (.lit (.int .i64 i6)) rfl), (.same (.lit (.string t76)) rfl), (.same (.lit (.int .i64 t95)) rfl), (.same (.lit (.bool t108)) rfl), trivial⟩)) ⟨_, _, _, _, _, _, _, hj17, rfl⟩
          · clear hj9
            rintro s ⟨r1_0_3, r1_1_3, r1_2_3, r1_3_3, r1_4_4, r1_5_3, t109, hj0, rfl⟩
            unfold Ref3.written.statements.j2 at hj0
            rcases t109 with _ | _
            · have hj1 := bif_f hj0
              clear hj0
              obtain ⟨⟨o_0, o_1, o_2, o_3, o_4, o_5⟩, ee_t139, hj2⟩ := bind_elim hj1; clear hj1
              conv => whnf
              refine Gate.weak (Sees.of (Weak.objs (keep := [0, 1]) (frz := []) (m := 0) (ts := [(0, .iptr (.agg [.lit (.string w0_0), .vs 1 (w0_1.map (eI .i64))])), (1, .ptr 0 0), (4, .vs 1 (t17.map (eI .u8))), (5, .lit (.int .i64 t68)), (6, .lit (.int .i64 i6)), (138, .ptr 0 0)]) (hs := [.box [.ref 1 0 ((r1_0_3.map (api.Line.enc)).length), .lit (.int .i64 r1_1_3), .lit (.string r1_2_3), .lit (.int .i64 r1_3_3), .lit (.bool r1_4_4), .lit (.int .i64 r1_5_3)], .arr 3 (r1_0_3.map (api.Line.enc))]) rfl (by decide) rfl rfl ⟨⟨_, rfl, WO.boxs ⟨(.ref _ _ _ 1 rfl), (.same (.lit (.int .i64 r1_1_3)) rfl), (.same (.lit (.string r1_2_3)) rfl), (.same (.lit (.int .i64 r1_3_3)) rfl), (.same (.lit (.bool r1_4_4)) rfl), (.same (.lit (.int .i64 r1_5_3)) rfl), trivial⟩⟩, ⟨⟨_, rfl, .arr _ _⟩, ⟨rfl, fun _ h => by cases h⟩⟩⟩ ⟨(.same (.iptr (.agg [.lit (.string w0_0), .vs 1 (w0_1.map (eI .i64))])) rfl), (.ptr _ _ 0 rfl), (.same (.vs 1 (t17.map (eI .u8))) rfl), (.same (.lit (.int .i64 t68)) rfl), (.same (.lit (.int .i64 i6)) rfl), (.ptr _ _ 0 rfl), trivial⟩)) ?_
              conv => whnf
              refine CallN.hand (k := 1) (v := .tup []) (hs' := [.box [.ref 1 0 ((o_0.map (api.Line.enc)).length), .lit (.int .i64 o_1), .lit (.string o_2), .lit (.int .i64 o_3), .lit (.bool o_4), .lit (.int .i64 o_5)], .arr 3 (o_0.map (api.Line.enc))]) (ts' := [(0, .iptr (.agg [.lit (.string w0_0), .vs 1 (w0_1.map (eI .i64))])), (1, .ptr 0 0), (4, .vs 1 (t17.map (eI .u8))), (5, .lit (.int .i64 t68)), (6, .lit (.int .i64 i6)), (138, .ptr 0 0)]) (Ref3.reader.ends_ok ee_t139) rfl rfl ?_
              obtain ⟨t26, et26, hj3⟩ := letk_elim hj2; clear hj2
              conv => whnf
              refine Nm.mk ⟨t26, et26, ?_⟩
              exact BackS.of (Sees.of (Weak.objs (keep := [0, 1]) (frz := []) (m := 0) (ts := [(0, .iptr (.agg [.lit (.string w0_0), .vs 1 (w0_1.map (eI .i64))])), (1, .ptr 0 0), (4, .vs 1 (t17.map (eI .u8))), (5, .lit (.int .i64 t68)), (6, .lit (.int .i64 t26))]) (hs := [.box [.ref 1 0 ((o_0.map (api.Line.enc)).length), .lit (.int .i64 o_1), .lit (.string o_2), .lit (.int .i64 o_3), .lit (.bool o_4), .lit (.int .i64 o_5)], .arr 3 (o_0.map (api.Line.enc))]) rfl (by decide) rfl rfl ⟨⟨_, rfl, WO.boxs ⟨(.ref _ _ _ 1 rfl), (.same (.lit (.int .i64 o_1)) rfl), (.same (.lit (.string o_2)) rfl), (.same (.lit (.int .i64 o_3)) rfl), (.same (.lit (.bool o_4)) rfl), (.same (.lit (.int .i64 o_5)) rfl), trivial⟩⟩, ⟨⟨_, rfl, .arr _ _⟩, ⟨rfl, fun _ h => by cases h⟩⟩⟩ ⟨(.same (.iptr (.agg [.lit (.string w0_0), .vs 1 (w0_1.map (eI .i64))])) rfl), (.ptr _ _ 0 rfl), (.same (.vs 1 (t17.map (eI .u8))) rfl), (.same (.lit (.int .i64 t68)) rfl), (.same (.lit (.int .i64 t26)) rfl), trivial⟩)) ⟨_, hl1 _ (Option.some.inj hj3).symm, rfl⟩
            · have hj1 := bif_t hj0
              clear hj0
              obtain ⟨chj2, hj2⟩ := chk_elim hj1; clear hj1
              obtain ⟨t113, et113, hj3⟩ := letk_elim hj2; clear hj2
              conv => whnf
              refine Side.mk chj2 ?_
              conv => whnf
              refine Nm.mk ⟨t113, et113, ?_⟩
              obtain ⟨⟨t114_0, t114_1⟩, et114, hj4⟩ := bind_elim hj3; clear hj3
              conv => whnf
              refine Gate.go ?_
              conv => whnf
              refine CallN.by (v := .tup [.lit (.int .i64 t114_0), .lit (.bool t114_1)]) (Ref3.number_ok et114) rfl rfl ?_
              conv => whnf
              refine CutN.of (fun s => ∃ (r1_0_4 : List api.Line) (r1_1_4 : Int) (r1_2_4 : ByteArray) (r1_3_4 : Int) (r1_4_5 : Bool) (r1_5_4 : Int), Ref3.written.statements.j3 w0_0 w0_1 t17 i6 t68 t76 t95 t114_0 r1_0_4 r1_1_4 r1_2_4 r1_3_4 r1_4_5 r1_5_4 = some x1 ∧ s = (⟨140, [(0, .iptr (.agg [.lit (.string w0_0), .vs 1 (w0_1.map (eI .i64))])), (1, .ptr 0 0), (4, .vs 1 (t17.map (eI .u8))), (5, .lit (.int .i64 t68)), (6, .lit (.int .i64 i6)), (9, .lit (.string t76)), (10, .lit (.int .i64 t95)), (11, .lit (.int .i64 t114_0))], [.box [.ref 1 0 ((r1_0_4.map (api.Line.enc)).length), .lit (.int .i64 r1_1_4), .lit (.string r1_2_4), .lit (.int .i64 r1_3_4), .lit (.bool r1_4_5), .lit (.int .i64 r1_5_4)], .arr 3 (r1_0_4.map (api.Line.enc))]⟩ : St)) ?_ ?_
              · obtain ⟨t118, et118, hj5⟩ := letk_elim hj4; clear hj4
                conv => whnf
                refine Nm.mk ⟨t118, et118, ?_⟩
                rcases t118 with _ | _
                · have hj6 := bif_f hj5
                  clear hj5
                  exact BackS.of (Sees.of (Weak.objs (keep := [0, 1]) (frz := []) (m := 0) (ts := [(0, .iptr (.agg [.lit (.string w0_0), .vs 1 (w0_1.map (eI .i64))])), (1, .ptr 0 0), (4, .vs 1 (t17.map (eI .u8))), (5, .lit (.int .i64 t68)), (6, .lit (.int .i64 i6)), (9, .lit (.string t76)), (10, .lit (.int .i64 t95)), (11, .lit (.int .i64 t114_0))]) (hs := [.box [.ref 1 0 ((r1_0_3.map (api.Line.enc)).length), .lit (.int .i64 r1_1_3), .lit (.string r1_2_3), .lit (.int .i64 r1_3_3), .lit (.bool r1_4_4), .lit (.int .i64 r1_5_3)], .arr 3 (r1_0_3.map (api.Line.enc))]) rfl (by decide) rfl rfl ⟨⟨_, rfl, WO.boxs ⟨(.ref _ _ _ 1 rfl), (.same (.lit (.int .i64 r1_1_3)) rfl), (.same (.lit (.string r1_2_3)) rfl), (.same (.lit (.int .i64 r1_3_3)) rfl), (.same (.lit (.bool r1_4_4)) rfl), (.same (.lit (.int .i64 r1_5_3)) rfl), trivial⟩⟩, ⟨⟨_, rfl, .arr _ _⟩, ⟨rfl, fun _ h => by cases h⟩⟩⟩ ⟨(.same (.iptr (.agg [.lit (.string w0_0), .vs 1 (w0_1.map (eI .i64))])) rfl), (.ptr _ _ 0 rfl), (.same (.vs 1 (t17.map (eI .u8))) rfl), (.same (.lit (.int .i64 t68)) rfl), (.same (.lit (.int .i64 i6)) rfl), (.same (.lit (.string t76)) rfl), (.same (.lit (.int .i64 t95)) rfl), (.same (.lit (.int .i64 t114_0)) rfl), trivial⟩)) ⟨_, _, _, _, _, _, hj6, rfl⟩
                · have hj6 := bif_t hj5
                  clear hj5
                  obtain ⟨⟨o_0_2, o_1_2, o_2_2, o_3_2, o_4_2, o_5_2⟩, ee_t125, hj7⟩ := bind_elim hj6; clear hj6
                  conv => whnf
                  refine Gate.weak (Sees.of (Weak.objs (keep := [0, 1]) (frz := []) (m := 0) (ts := [(0, .iptr (.agg [.lit (.string w0_0), .vs 1 (w0_1.map (eI .i64))])), (1, .ptr 0 0), (4, .vs 1 (t17.map (eI .u8))), (5, .lit (.int .i64 t68)), (6, .lit (.int .i64 i6)), (9, .lit (.string t76)), (10, .lit (.int .i64 t95)), (11, .lit (.int .i64 t114_0)), (119, .ptr 0 0), (124, .lit (.int .i64 r1_3_3))]) (hs := [.box [.ref 1 0 ((r1_0_3.map (api.Line.enc)).length), .lit (.int .i64 r1_1_3), .lit (.string r1_2_3), .lit (.int .i64 r1_3_3), .lit (.bool r1_4_4), .lit (.int .i64 r1_5_3)], .arr 3 (r1_0_3.map (api.Line.enc))]) rfl (by decide) rfl rfl ⟨⟨_, rfl, WO.boxs ⟨(.ref _ _ _ 1 rfl), (.same (.lit (.int .i64 r1_1_3)) rfl), (.same (.lit (.string r1_2_3)) rfl), (.same (.lit (.int .i64 r1_3_3)) rfl), (.same (.lit (.bool r1_4_4)) rfl), (.same (.lit (.int .i64 r1_5_3)) rfl), trivial⟩⟩, ⟨⟨_, rfl, .arr _ _⟩, ⟨rfl, fun _ h => by cases h⟩⟩⟩ ⟨(.same (.iptr (.agg [.lit (.string w0_0), .vs 1 (w0_1.map (eI .i64))])) rfl), (.ptr _ _ 0 rfl), (.same (.vs 1 (t17.map (eI .u8))) rfl), (.same (.lit (.int .i64 t68)) rfl), (.same (.lit (.int .i64 i6)) rfl), (.same (.lit (.string t76)) rfl), (.same (.lit (.int .i64 t95)) rfl), (.same (.lit (.int .i64 t114_0)) rfl), (.ptr _ _ 0 rfl), (.same (.lit (.int .i64 r1_3_3)) rfl), trivial⟩)) ?_
                  conv => whnf
                  refine CallN.hand (k := 1) (v := .tup []) (hs' := [.box [.ref 1 0 ((o_0_2.map (api.Line.enc)).length), .lit (.int .i64 o_1_2), .lit (.string o_2_2), .lit (.int .i64 o_3_2), .lit (.bool o_4_2), .lit (.int .i64 o_5_2)], .arr 3 (o_0_2.map (api.Line.enc))]) (ts' := [(0, .iptr (.agg [.lit (.string w0_0), .vs 1 (w0_1.map (eI .i64))])), (1, .ptr 0 0), (4, .vs 1 (t17.map (eI .u8))), (5, .lit (.int .i64 t68)), (6, .lit (.int .i64 i6)), (9, .lit (.string t76)), (10, .lit (.int .i64 t95)), (11, .lit (.int .i64 t114_0)), (119, .ptr 0 0), (124, .lit (.int .i64 r1_3_3))]) (Ref3.reader.wrong_ok ee_t125) rfl rfl ?_
                  exact BackS.of (Sees.of (Weak.objs (keep := [0, 1]) (frz := []) (m := 0) (ts := [(0, .iptr (.agg [.lit (.string w0_0), .vs 1 (w0_1.map (eI .i64))])), (1, .ptr 0 0), (4, .vs 1 (t17.map (eI .u8))), (5, .lit (.int .i64 t68)), (6, .lit (.int .i64 i6)), (9, .lit (.string t76)), (10, .lit (.int .i64 t95)), (11, .lit (.int .i64 t114_0))]) (hs := [.box [.ref 1 0 ((o_0_2.map (api.Line.enc)).length), .lit (.int .i64 o_1_2), .lit (.string o_2_2), .lit (.int .i64 o_3_2), .lit (.bool o_4_2), .lit (.int .i64 o_5_2)], .arr 3 (o_0_2.map (api.Line.enc))]) rfl (by decide) rfl rfl ⟨⟨_, rfl, WO.boxs ⟨(.ref _ _ _ 1 rfl), (.same (.lit (.int .i64 o_1_2)) rfl), (.same (.lit (.string o_2_2)) rfl), (.same (.lit (.int .i64 o_3_2)) rfl), (.same (.lit (.bool o_4_2)) rfl), (.same (.lit (.int .i64 o_5_2)) rfl), trivial⟩⟩, ⟨⟨_, rfl, .arr _ _⟩, ⟨rfl, fun _ h => by cases h⟩⟩⟩ ⟨(.same (.iptr (.agg [.lit (.string w0_0), .vs 1 (w0_1.map (eI .i64))])) rfl), (.ptr _ _ 0 rfl), (.same (.vs 1 (t17.map (eI .u8))) rfl), (.same (.lit (.int .i64 t68)) rfl), (.same (.lit (.int .i64 i6)) rfl), (.same (.lit (.string t76)) rfl), (.same (.lit (.int .i64 t95)) rfl), (.same (.lit (.int .i64 t114_0)) rfl), trivial⟩)) ⟨_, _, _, _, _, _, hj7, rfl⟩
              · clear hj4
                rintro s ⟨r1_0_4, r1_1_4, r1_2_4, r1_3_4, r1_4_5, r1_5_4, hj0, rfl⟩
                unfold Ref3.written.statements.j3 at hj0
                conv => whnf
                refine DrawB.ofM [9, 13] [0, 0, 0, 0, 0, 0, 0, 0, 0, 0, 10, 10, 10, 10] Tryz_mixed (by kernel_rfl) (by kernel_rfl) ?_
                conv => whnf
                refine DNodeH.mv (.ptr 0 0) rfl (fun h => ?_) ?_
                · conv => whnf
                  rfl
                · conv => whnf
                  refine DNodeH.mv (.ptr 0 0) rfl (fun h => ?_) ?_
                  · conv => whnf
                    rfl
                  · conv => whnf
                    refine DNodeH.mv (.lit (.int .i64 t114_0)) rfl (fun h => ?_) ?_
                    · conv => whnf
                      rfl
                    · conv => whnf
                      refine DNodeH.mv (.lit (.string t76)) rfl (fun h => ?_) ?_
                      · conv => whnf
                        rfl
                      · conv => whnf
                        refine DNodeH.mv (.lit (.int .i64 t95)) rfl (fun h => ?_) ?_
                        · conv => whnf
                          rfl
                        · obtain ⟨chj1, hj1⟩ := chk_elim hj0; clear hj0
                          obtain ⟨t131, et131, hj2⟩ := letk_elim hj1; clear hj1
                          conv => whnf
                          refine DNodeH.mv (.lit (.string t131)) rfl (fun h => ?_) ?_
                          · conv => whnf
                            refine Side.mk chj1 ?_
                            conv => whnf
                            refine Nm.mk ⟨t131, et131, ?_⟩
                            conv => whnf
                            rfl
                          · conv => whnf
                            refine DNodeH.of (.ptr 0 0) rfl ?_ rfl rfl ?_
                            · conv => whnf
                              rfl
                            · conv => whnf
                              refine DNodeH.of (.ptr 0 1) rfl ?_ rfl rfl ?_
                              · conv => whnf
                                rfl
                              · conv => whnf
                                refine DNodeH.of (.ptr 0 1) rfl ?_ rfl rfl ?_
                                · conv => whnf
                                  rfl
                                · conv => whnf
                                  refine MNodeB.of (.undef) [.box [.ref 1 0 ((r1_0_4.map (api.Line.enc)).length), .lit (.int .i64 t114_0), .lit (.string r1_2_4), .lit (.int .i64 r1_3_4), .lit (.bool r1_4_5), .lit (.int .i64 r1_5_4)], .arr 3 (r1_0_4.map (api.Line.enc))] ?_ (fun h => Bool.noConfusion (show false = true from h)) ?_
                                  · conv => whnf
                                    refine Nm.mk ⟨[.ref 1 0 ((r1_0_4.map (api.Line.enc)).length), .lit (.int .i64 t114_0), .lit (.string r1_2_4), .lit (.int .i64 r1_3_4), .lit (.bool r1_4_5), .lit (.int .i64 r1_5_4)], rfl, ?_⟩
                                    conv => whnf
                                    rfl
                                  · conv => whnf
                                    refine DNodeH.of (.ptr 0 0) rfl ?_ rfl rfl ?_
                                    · conv => whnf
                                      rfl
                                    · conv => whnf
                                      refine DNodeH.of (.ptr 0 1) rfl ?_ rfl rfl ?_
                                      · conv => whnf
                                        rfl
                                      · conv => whnf
                                        refine DNodeH.of (.ptr 0 2) rfl ?_ rfl rfl ?_
                                        · conv => whnf
                                          rfl
                                        · conv => whnf
                                          refine MNodeB.of (.undef) [.box [.ref 1 0 ((r1_0_4.map (api.Line.enc)).length), .lit (.int .i64 t114_0), .lit (.string t131), .lit (.int .i64 r1_3_4), .lit (.bool r1_4_5), .lit (.int .i64 r1_5_4)], .arr 3 (r1_0_4.map (api.Line.enc))] ?_ (fun h => Bool.noConfusion (show false = true from h)) ?_
                                          · conv => whnf
                                            refine Nm.mk ⟨[.ref 1 0 ((r1_0_4.map (api.Line.enc)).length), .lit (.int .i64 t114_0), .lit (.string t131), .lit (.int .i64 r1_3_4), .lit (.bool r1_4_5), .lit (.int .i64 r1_5_4)], rfl, ?_⟩
                                            conv => whnf
                                            rfl
                                          · obtain ⟨⟨o_0_1, o_1_1, o_2_1, o_3_1, o_4_1, o_5_1⟩, ee_t139_1, hj3⟩ := bind_elim hj2; clear hj2
                                            conv => whnf
                                            refine Gate.weak (Sees.of (Weak.objs (keep := [0, 1]) (frz := []) (m := 0) (ts := [(0, .iptr (.agg [.lit (.string w0_0), .vs 1 (w0_1.map (eI .i64))])), (1, .ptr 0 0), (4, .vs 1 (t17.map (eI .u8))), (5, .lit (.int .i64 t68)), (6, .lit (.int .i64 i6)), (138, .ptr 0 0)]) (hs := [.box [.ref 1 0 ((r1_0_4.map (api.Line.enc)).length), .lit (.int .i64 t114_0), .lit (.string t131), .lit (.int .i64 r1_3_4), .lit (.bool r1_4_5), .lit (.int .i64 r1_5_4)], .arr 3 (r1_0_4.map (api.Line.enc))]) rfl (by decide) rfl rfl ⟨⟨_, rfl, WO.boxs ⟨(.ref _ _ _ 1 rfl), (.same (.lit (.int .i64 t114_0)) rfl), (.same (.lit (.string t131)) rfl), (.same (.lit (.int .i64 r1_3_4)) rfl), (.same (.lit (.bool r1_4_5)) rfl), (.same (.lit (.int .i64 r1_5_4)) rfl), trivial⟩⟩, ⟨⟨_, rfl, .arr _ _⟩, ⟨rfl, fun _ h => by cases h⟩⟩⟩ ⟨(.same (.iptr (.agg [.lit (.string w0_0), .vs 1 (w0_1.map (eI .i64))])) rfl), (.ptr _ _ 0 rfl), (.same (.vs 1 (t17.map (eI .u8))) rfl), (.same (.lit (.int .i64 t68)) rfl), (.same (.lit (.int .i64 i6)) rfl), (.ptr _ _ 0 rfl), trivial⟩)) ?_
                                            conv => whnf
                                            refine CallN.hand (k := 1) (v := .tup []) (hs' := [.box [.ref 1 0 ((o_0_1.map (api.Line.enc)).length), .lit (.int .i64 o_1_1), .lit (.string o_2_1), .lit (.int .i64 o_3_1), .lit (.bool o_4_1), .lit (.int .i64 o_5_1)], .arr 3 (o_0_1.map (api.Line.enc))]) (ts' := [(0, .iptr (.agg [.lit (.string w0_0), .vs 1 (w0_1.map (eI .i64))])), (1, .ptr 0 0), (4, .vs 1 (t17.map (eI .u8))), (5, .lit (.int .i64 t68)), (6, .lit (.int .i64 i6)), (138, .ptr 0 0)]) (Ref3.reader.ends_ok ee_t139_1) rfl rfl ?_
                                            obtain ⟨t26_1, et26_1, hj4⟩ := letk_elim hj3; clear hj3
                                            conv => whnf
                                            refine Nm.mk ⟨t26_1, et26_1, ?_⟩
                                            exact BackS.of (Sees.of (Weak.objs (keep := [0, 1]) (frz := []) (m := 0) (ts := [(0, .iptr (.agg [.lit (.string w0_0), .vs 1 (w0_1.map (eI .i64))])), (1, .ptr 0 0), (4, .vs 1 (t17.map (eI .u8))), (5, .lit (.int .i64 t68)), (6, .lit (.int .i64 t26_1))]) (hs := [.box [.ref 1 0 ((o_0_1.map (api.Line.enc)).length), .lit (.int .i64 o_1_1), .lit (.string o_2_1), .lit (.int .i64 o_3_1), .lit (.bool o_4_1), .lit (.int .i64 o_5_1)], .arr 3 (o_0_1.map (api.Line.enc))]) rfl (by decide) rfl rfl ⟨⟨_, rfl, WO.boxs ⟨(.ref _ _ _ 1 rfl), (.same (.lit (.int .i64 o_1_1)) rfl), (.same (.lit (.string o_2_1)) rfl), (.same (.lit (.int .i64 o_3_1)) rfl), (.same (.lit (.bool o_4_1)) rfl), (.same (.lit (.int .i64 o_5_1)) rfl), trivial⟩⟩, ⟨⟨_, rfl, .arr _ _⟩, ⟨rfl, fun _ h => by cases h⟩⟩⟩ ⟨(.same (.iptr (.agg [.lit (.string w0_0), .vs 1 (w0_1.map (eI .i64))])) rfl), (.ptr _ _ 0 rfl), (.same (.vs 1 (t17.map (eI .u8))) rfl), (.same (.lit (.int .i64 t68)) rfl), (.same (.lit (.int .i64 t26_1)) rfl), trivial⟩)) ⟨_, hl1 _ (Option.some.inj hj4).symm, rfl⟩
        · have hj6 := bif_t hj5
          clear hj5
          obtain ⟨t26_2, et26_2, hj7⟩ := letk_elim hj6; clear hj6
          conv => whnf
          refine Nm.mk ⟨t26_2, et26_2, ?_⟩
          exact BackS.of (Sees.of (Weak.objs (keep := [0, 1]) (frz := []) (m := 0) (ts := [(0, .iptr (.agg [.lit (.string w0_0), .vs 1 (w0_1.map (eI .i64))])), (1, .ptr 0 0), (4, .vs 1 (t17.map (eI .u8))), (5, .lit (.int .i64 t68)), (6, .lit (.int .i64 t26_2))]) (hs := [.box [.ref 1 0 ((r1_0_2.map (api.Line.enc)).length), .lit (.int .i64 r1_1_2), .lit (.string r1_2_2), .lit (.int .i64 r1_3_2), .lit (.bool r1_4_3), .lit (.int .i64 r1_5_2)], .arr 3 (r1_0_2.map (api.Line.enc))]) rfl (by decide) rfl rfl ⟨⟨_, rfl, WO.boxs ⟨(.ref _ _ _ 1 rfl), (.same (.lit (.int .i64 r1_1_2)) rfl), (.same (.lit (.string r1_2_2)) rfl), (.same (.lit (.int .i64 r1_3_2)) rfl), (.same (.lit (.bool r1_4_3)) rfl), (.same (.lit (.int .i64 r1_5_2)) rfl), trivial⟩⟩, ⟨⟨_, rfl, .arr _ _⟩, ⟨rfl, fun _ h => by cases h⟩⟩⟩ ⟨(.same (.iptr (.agg [.lit (.string w0_0), .vs 1 (w0_1.map (eI .i64))])) rfl), (.ptr _ _ 0 rfl), (.same (.vs 1 (t17.map (eI .u8))) rfl), (.same (.lit (.int .i64 t68)) rfl), (.same (.lit (.int .i64 t26_2)) rfl), trivial⟩)) ⟨_, hl1 _ (Option.some.inj hj7).symm, rfl⟩

end Go.Q
