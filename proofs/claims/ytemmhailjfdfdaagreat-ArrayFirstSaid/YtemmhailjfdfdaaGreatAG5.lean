import Derived.Test.YtemmhailjfdfdaaGreatAG4
import Derived.Test.YtemmhailjfdfdaaGreatFX
import Derived.Test.YtemmhailjfdfdaaGreatFY
import Derived.Test.YtemmhailjfdfdaaGreatProg
namespace Go.Q
open Go Go.Proofs
set_option maxRecDepth 10000
set_option maxHeartbeats 2000000

noncomputable def Arr.Do.j0 (op3 : ByteArray) (a4_0 : Int) (a4_1 a4_2 : List Int) (b5_0 : Int) (b5_1 b5_2 : List Int) (t6_0 : Int) (t6_1 t6_2 : List Int) : Option (api.Array × Int) :=
  Option.bind (Arr.Kind op3 a4_0 b5_0) fun t25 =>
  letk (t25 == (0 : Int)) fun t27 =>
  bif t27 then
    some ((⟨0, [], []⟩ : api.Array), 70)
  else
    Option.bind (Arr.shaped ([(⟨a4_0, a4_1, a4_2⟩ : api.Array), (⟨b5_0, b5_1, b5_2⟩ : api.Array)])) fun (t33_0, t33_1) =>
    letk (!t33_1) fun t37 =>
    bif t37 then
      some ((⟨0, [], []⟩ : api.Array), 30)
    else
      Option.bind (Arr.each t25 t33_0 (fun z0_ => Arr.Do_1 z0_ op3 (⟨a4_0, a4_1, a4_2⟩ : api.Array) (⟨b5_0, b5_1, b5_2⟩ : api.Array))) fun (t42_0, t42_1) =>
      some ((⟨t42_0.Kind, t42_0.Shape, t42_0.Elems⟩ : api.Array), t42_1)

noncomputable def Arr.Do.j1 (op3_1 : ByteArray) (a4_0_1 : Int) (a4_1_1 a4_2_1 : List Int) (b5_0_1 : Int) (b5_1_1 b5_2_1 : List Int) (t6_0_1 : Int) (t6_1_1 t6_2_1 : List Int) (t18 : Bool) : Option (api.Array × Int) :=
  bif t18 then
    some ((⟨0, [], []⟩ : api.Array), 2)
  else
    Arr.Do.j0 op3_1 a4_0_1 a4_1_1 a4_2_1 b5_0_1 b5_1_1 b5_2_1 t6_0_1 t6_1_1 t6_2_1

noncomputable def Arr.Do (op0 : ByteArray) (a1 b2 : api.Array) : Option (api.Array × Int) :=
  Option.bind (Arr.Valid (⟨a1.Kind, a1.Shape, a1.Elems⟩ : api.Array)) fun t12 =>
  letk (!t12) fun t13 =>
  bif t13 then
    Arr.Do.j1 op0 a1.Kind a1.Shape a1.Elems b2.Kind b2.Shape b2.Elems 0 ([]) ([]) true
  else
    Option.bind (Arr.Valid (⟨b2.Kind, b2.Shape, b2.Elems⟩ : api.Array)) fun t16 =>
    letk (!t16) fun t17 =>
    Arr.Do.j1 op0 a1.Kind a1.Shape a1.Elems b2.Kind b2.Shape b2.Elems 0 ([]) ([]) t17

theorem Arr.Do_ok {op0 : ByteArray} {a1 b2 : api.Array} {r : api.Array × Int} (h0 : Arr.Do op0 a1 b2 = some r) : Gives Tryz.prog 24 [.lit (.string op0), api.Array.enc a1, api.Array.enc b2] (.tup [api.Array.enc r.1, J r.2]) := by
  unfold Arr.Do at h0
  refine ACalls.of_swp Tryz.func24 rfl (by decide) rfl (st0 := ⟨45, [(0, .lit (.string op0)), (1, api.Array.enc a1), (2, api.Array.enc b2)], []⟩) rfl (bwp_ok (C := [(0, 3), (28, 5)]) ?_)
  conv => whnf
  refine Nm.mk ⟨[.lit (.string op0)], rfl, ?_⟩
  conv => whnf
  refine Nm.mk ⟨[J a1.Kind, .vs 1 (a1.Shape.map (eI .i64)), .vs 1 (a1.Elems.map (eI .i64))], rfl, ?_⟩
  conv => whnf
  refine Nm.mk ⟨[J b2.Kind, .vs 1 (b2.Shape.map (eI .i64)), .vs 1 (b2.Elems.map (eI .i64))], rfl, ?_⟩
  conv => whnf
  refine Nm.mk ⟨[J 0, .nils, .nils], rfl, ?_⟩
  conv => whnf
  refine CutN.of (fun s => ∃ (op3 : ByteArray) (a4_0 : Int) (a4_1 a4_2 : List Int) (b5_0 : Int) (b5_1 b5_2 : List Int) (t6_0 : Int) (t6_1 t6_2 : List Int), Arr.Do.j0 op3 a4_0 a4_1 a4_2 b5_0 b5_1 b5_2 t6_0 t6_1 t6_2 = some r ∧ s = (⟨45, [(3, .ptr 0 0), (4, .ptr 1 0), (5, .ptr 2 0), (6, .ptr 3 0)], [.box [.lit (.string op3)], .box [J a4_0, .vs 1 (a4_1.map (eI .i64)), .vs 1 (a4_2.map (eI .i64))], .box [J b5_0, .vs 1 (b5_1.map (eI .i64)), .vs 1 (b5_2.map (eI .i64))], .box [J t6_0, .vs 1 (t6_1.map (eI .i64)), .vs 1 (t6_2.map (eI .i64))]]⟩ : St)) ?_ ?_
  · conv => whnf
    refine CutN.of (fun s => ∃ (op3_1 : ByteArray) (a4_0_1 : Int) (a4_1_1 a4_2_1 : List Int) (b5_0_1 : Int) (b5_1_1 b5_2_1 : List Int) (t6_0_1 : Int) (t6_1_1 t6_2_1 : List Int) (t18 : Bool), Arr.Do.j1 op3_1 a4_0_1 a4_1_1 a4_2_1 b5_0_1 b5_1_1 b5_2_1 t6_0_1 t6_1_1 t6_2_1 t18 = some r ∧ s = (⟨45, [(3, .ptr 0 0), (4, .ptr 1 0), (5, .ptr 2 0), (6, .ptr 3 0), (18, .lit (.bool t18))], [.box [.lit (.string op3_1)], .box [J a4_0_1, .vs 1 (a4_1_1.map (eI .i64)), .vs 1 (a4_2_1.map (eI .i64))], .box [J b5_0_1, .vs 1 (b5_1_1.map (eI .i64)), .vs 1 (b5_2_1.map (eI .i64))], .box [J t6_0_1, .vs 1 (t6_1_1.map (eI .i64)), .vs 1 (t6_2_1.map (eI .i64))]]⟩ : St)) ?_ ?_
    · obtain ⟨t12, et12, h1⟩ := bind_elim h0
      conv => whnf
      refine Gate.go ?_
      conv => whnf
      refine CallN.by (v := .lit (.bool t12)) (Arr.Valid_ok et12) rfl rfl ?_
      obtain ⟨t13, et13, h2⟩ := letk_elim h1
      conv => whnf
      refine Nm.mk ⟨t13, et13, ?_⟩
      rcases t13 with _ | _
      · have h3 := bif_f h2
        obtain ⟨t16, et16, h4⟩ := bind_elim h3
        conv => whnf
        refine Gate.go ?_
        conv => whnf
        refine CallN.by (v := .lit (.bool t16)) (Arr.Valid_ok et16) rfl rfl ?_
        obtain ⟨t17, et17, h5⟩ := letk_elim h4
        conv => whnf
        refine Nm.mk ⟨t17, et17, ?_⟩
        exact BackS.by ⟨_, _, _, _, _, _, _, _, _, _, _, h5, rfl⟩ (Sees.of (Weak.objs (keep := [0, 1, 2, 3]) (frz := []) (m := 0) rfl (by decide) rfl rfl ⟨⟨_, rfl, WO.boxs ⟨.s, trivial⟩⟩, ⟨⟨_, rfl, WO.boxs ⟨.s, .s, .s, trivial⟩⟩, ⟨⟨_, rfl, WO.boxs ⟨.s, .s, .s, trivial⟩⟩, ⟨⟨_, rfl, WO.boxs ⟨.s, (.nilsVs _), (.nilsVs _), trivial⟩⟩, ⟨rfl, fun _ h => by cases h⟩⟩⟩⟩⟩ ⟨(.ptr _ _ 0 rfl), (.ptr _ _ 1 rfl), (.ptr _ _ 2 rfl), (.ptr _ _ 3 rfl), .s, trivial⟩))
      have h3 := bif_t h2
      exact BackS.by ⟨_, _, _, _, _, _, _, _, _, _, _, h3, rfl⟩ (Sees.of (Weak.objs (keep := [0, 1, 2, 3]) (frz := []) (m := 0) rfl (by decide) rfl rfl ⟨⟨_, rfl, WO.boxs ⟨.s, trivial⟩⟩, ⟨⟨_, rfl, WO.boxs ⟨.s, .s, .s, trivial⟩⟩, ⟨⟨_, rfl, WO.boxs ⟨.s, .s, .s, trivial⟩⟩, ⟨⟨_, rfl, WO.boxs ⟨.s, (.nilsVs _), (.nilsVs _), trivial⟩⟩, ⟨rfl, fun _ h => by cases h⟩⟩⟩⟩⟩ ⟨(.ptr _ _ 0 rfl), (.ptr _ _ 1 rfl), (.ptr _ _ 2 rfl), (.ptr _ _ 3 rfl), .s, trivial⟩))
    rintro s ⟨op3_1, a4_0_1, a4_1_1, a4_2_1, b5_0_1, b5_1_1, b5_2_1, t6_0_1, t6_1_1, t6_2_1, t18, hj0, rfl⟩
    unfold Arr.Do.j1 at hj0
    rcases t18 with _ | _
    · have hj1 := bif_f hj0
      exact BackS.by ⟨_, _, _, _, _, _, _, _, _, _, hj1, rfl⟩ (Sees.of (Weak.objs (keep := [0, 1, 2, 3]) (frz := []) (m := 0) rfl (by decide) rfl rfl ⟨⟨_, rfl, WO.boxs ⟨.s, trivial⟩⟩, ⟨⟨_, rfl, WO.boxs ⟨.s, .s, .s, trivial⟩⟩, ⟨⟨_, rfl, WO.boxs ⟨.s, .s, .s, trivial⟩⟩, ⟨⟨_, rfl, WO.boxs ⟨.s, .s, .s, trivial⟩⟩, ⟨rfl, fun _ h => by cases h⟩⟩⟩⟩⟩ ⟨(.ptr _ _ 0 rfl), (.ptr _ _ 1 rfl), (.ptr _ _ 2 rfl), (.ptr _ _ 3 rfl), trivial⟩))
    have hj1 := bif_t hj0
    conv => whnf
    refine Gate.go ?_
    conv => whnf
    refine Nm.mk ⟨[J 0, .nils, .nils], rfl, ?_⟩
    conv => whnf
    refine Nm.mk ⟨[J 0, .nils, .nils], rfl, ?_⟩
    have ehj1_0 := Option.some.inj hj1
    subst ehj1_0
    conv => whnf
    exact Returns.frozen (r := .tup [api.Array.enc ((⟨0, [], []⟩ : api.Array)), J 2]) [] rfl rfl (WV.tups ⟨(WV.aggs ⟨.s, (.nilsVs _), (.nilsVs _), trivial⟩), .s, trivial⟩) ⟨rfl, rfl⟩
  rintro s ⟨op3, a4_0, a4_1, a4_2, b5_0, b5_1, b5_2, t6_0, t6_1, t6_2, hj0, rfl⟩
  unfold Arr.Do.j0 at hj0
  obtain ⟨t25, et25, hj1⟩ := bind_elim hj0
  conv => whnf
  refine Gate.go ?_
  conv => whnf
  refine CallN.by (v := J t25) (Arr.Kind_ok et25) rfl rfl ?_
  obtain ⟨t27, et27, hj2⟩ := letk_elim hj1
  conv => whnf
  refine Nm.mk ⟨t27, et27, ?_⟩
  rcases t27 with _ | _
  · have hj3 := bif_f hj2
    conv => whnf
    refine Gate.go ?_
    conv => whnf
    refine Nm.mk ⟨([(⟨a4_0, a4_1, a4_2⟩ : api.Array), (⟨b5_0, b5_1, b5_2⟩ : api.Array)]).map (api.Array.enc), rfl, ?_⟩
    obtain ⟨⟨t33_0, t33_1⟩, et33, hj4⟩ := bind_elim hj3
    conv => whnf
    refine Gate.weak (Sees.of (Weak.objs (k := 45) (keep := [0, 1, 2, 3]) (frz := [4]) (m := 0) (ts := [(3, .ptr 0 0), (4, .ptr 1 0), (5, .ptr 2 0), (6, .ptr 3 0), (8, J t25), (32, .vs 3 (([(⟨a4_0, a4_1, a4_2⟩ : api.Array), (⟨b5_0, b5_1, b5_2⟩ : api.Array)]).map (api.Array.enc)))]) (hs := [.box [.lit (.string op3)], .box [J a4_0, .vs 1 (a4_1.map (eI .i64)), .vs 1 (a4_2.map (eI .i64))], .box [J b5_0, .vs 1 (b5_1.map (eI .i64)), .vs 1 (b5_2.map (eI .i64))], .box [J t6_0, .vs 1 (t6_1.map (eI .i64)), .vs 1 (t6_2.map (eI .i64))]]) rfl (by decide) rfl rfl ⟨⟨_, rfl, WO.refl rfl⟩, ⟨⟨_, rfl, WO.refl rfl⟩, ⟨⟨_, rfl, WO.refl rfl⟩, ⟨⟨_, rfl, WO.refl rfl⟩, ⟨rfl, fun _ h => by cases h⟩⟩⟩⟩⟩ ⟨(.ptr _ _ 0 rfl), (.ptr _ _ 1 rfl), (.ptr _ _ 2 rfl), (.ptr _ _ 3 rfl), .s, (WV.all (k := 4) (by decide) rfl), trivial⟩)) ?_
    conv => whnf
    refine CallN.by (v := .tup [.vs 1 (t33_0.map (eI .i64)), .lit (.bool t33_1)]) (Arr.shaped_ok et33) rfl rfl ?_
    obtain ⟨t37, et37, hj5⟩ := letk_elim hj4
    conv => whnf
    refine Nm.mk ⟨t37, et37, ?_⟩
    rcases t37 with _ | _
    · have hj6 := bif_f hj5
      conv => whnf
      refine Gate.weak (Sees.of (Weak.objs (k := 45) (keep := [3]) (frz := [0, 1, 2]) (m := 0) (ts := [(3, .iptr (.lit (.string op3))), (4, .iptr (.agg [J a4_0, .vs 1 (a4_1.map (eI .i64)), .vs 1 (a4_2.map (eI .i64))])), (5, .iptr (.agg [J b5_0, .vs 1 (b5_1.map (eI .i64)), .vs 1 (b5_2.map (eI .i64))])), (6, .ptr 0 0), (39, J t25), (40, .vs 1 (t33_0.map (eI .i64)))]) (hs := [.box [J t6_0, .vs 1 (t6_1.map (eI .i64)), .vs 1 (t6_2.map (eI .i64))]]) rfl (by decide) rfl rfl ⟨⟨_, rfl, WO.refl rfl⟩, ⟨rfl, fun _ h => by cases h⟩⟩ ⟨(.ptrFrz 0 _ (by decide) rfl rfl), (.ptrFrz 1 _ (by decide) rfl rfl), (.ptrFrz 2 _ (by decide) rfl rfl), (.ptr _ _ 0 rfl), .s, .s, trivial⟩)) ?_
      obtain ⟨⟨t42_0, t42_1⟩, et42, hj7⟩ := bind_elim hj6
      conv => whnf
      refine Gate.go ?_
      conv => whnf
      refine CallN.by (v := .tup [api.Array.enc t42_0, J t42_1]) (Arr.each_ok (show List.all [.iptr (.lit (.string op3)), .iptr (.agg [J a4_0, .vs 1 (a4_1.map (eI .i64)), .vs 1 (a4_2.map (eI .i64))]), .iptr (.agg [J b5_0, .vs 1 (b5_1.map (eI .i64)), .vs 1 (b5_2.map (eI .i64))])] pureQ.pureQ0 = true from rfl) (fun _ r h => Arr.Do_1_ok h) et42) rfl rfl ?_
      conv => whnf
      refine Nm.mk ⟨[J t42_0.Kind, .vs 1 (t42_0.Shape.map (eI .i64)), .vs 1 (t42_0.Elems.map (eI .i64))], rfl, ?_⟩
      have ehj7_0 := Option.some.inj hj7
      subst ehj7_0
      conv => whnf
      exact Returns.pure (r := .tup [api.Array.enc ((⟨t42_0.Kind, t42_0.Shape, t42_0.Elems⟩ : api.Array)), J t42_1]) rfl rfl rfl rfl ⟨rfl, rfl⟩
    have hj6 := bif_t hj5
    conv => whnf
    refine Gate.go ?_
    conv => whnf
    refine Nm.mk ⟨[J 0, .nils, .nils], rfl, ?_⟩
    conv => whnf
    refine Nm.mk ⟨[J 0, .nils, .nils], rfl, ?_⟩
    have ehj6_0 := Option.some.inj hj6
    subst ehj6_0
    conv => whnf
    exact Returns.frozen (r := .tup [api.Array.enc ((⟨0, [], []⟩ : api.Array)), J 30]) [] rfl rfl (WV.tups ⟨(WV.aggs ⟨.s, (.nilsVs _), (.nilsVs _), trivial⟩), .s, trivial⟩) ⟨rfl, rfl⟩
  have hj3 := bif_t hj2
  conv => whnf
  refine Gate.go ?_
  conv => whnf
  refine Nm.mk ⟨[J 0, .nils, .nils], rfl, ?_⟩
  conv => whnf
  refine Nm.mk ⟨[J 0, .nils, .nils], rfl, ?_⟩
  have ehj3_0 := Option.some.inj hj3
  subst ehj3_0
  conv => whnf
  exact Returns.frozen (r := .tup [api.Array.enc ((⟨0, [], []⟩ : api.Array)), J 70]) [] rfl rfl (WV.tups ⟨(WV.aggs ⟨.s, (.nilsVs _), (.nilsVs _), trivial⟩), .s, trivial⟩) ⟨rfl, rfl⟩

noncomputable def Ref7.SameShape.s0 (a0 b1 : List Int) (i5 : Int) : Option (Int ⊕ Bool) :=
  letk ((a0.length : Int)) fun t13 =>
  letk (decide (i5 < t13)) fun t14 =>
  bif t14 then
    chk (0 ≤ i5) <|
    Option.bind (a0[i5.toNat]?) fun t19 =>
    chk (0 ≤ i5) <|
    Option.bind (b1[i5.toNat]?) fun t23 =>
    letk (t19 != t23) fun t25 =>
    bif t25 then
      some (.inr false)
    else
      letk (IntKind.i64.wrap (i5 + (1 : Int))) fun t16 =>
      some (.inl t16)
  else
    some (.inr true)

noncomputable def Ref7.SameShape.l0 (a0 b1 : List Int) (i5 : Int) : Option Bool := loopO (fun v : Int => Ref7.SameShape.s0 a0 b1 v) i5
noncomputable def Ref7.SameShape (a0 b1 : List Int) : Option Bool :=
  letk ((a0.length : Int)) fun t7 =>
  letk ((b1.length : Int)) fun t9 =>
  letk (t7 != t9) fun t10 =>
  bif t10 then
    some false
  else
    Ref7.SameShape.l0 a0 b1 0

theorem Ref7.SameShape_ok {a0 b1 : List Int} {r : Bool} (h0 : Ref7.SameShape a0 b1 = some r) : Gives Tryz.prog 22 [.vs 1 (a0.map (eI .i64)), .vs 1 (b1.map (eI .i64))] (.lit (.bool r)) := by
  unfold Ref7.SameShape at h0
  refine ACalls.of_swp Tryz.func22 rfl (by decide) rfl (st0 := ⟨26, [(0, .vs 1 (a0.map (eI .i64))), (1, .vs 1 (b1.map (eI .i64)))], []⟩) rfl (bwp_ok (C := []) ?_)
  obtain ⟨t7, et7, h1⟩ := letk_elim h0
  conv => whnf
  refine Nm.mk ⟨t7, by rw [et7, List.length_map], ?_⟩
  obtain ⟨t9, et9, h2⟩ := letk_elim h1
  conv => whnf
  refine Nm.mk ⟨t9, by rw [et9, List.length_map], ?_⟩
  obtain ⟨t10, et10, h3⟩ := letk_elim h2
  conv => whnf
  refine Nm.mk ⟨t10, et10, ?_⟩
  rcases t10 with _ | _
  · have h4 := bif_f h3
    conv => whnf
    unfold Ref7.SameShape.l0 at h4
    refine LoopB.of (σ := Int) (ρ := Bool) (fun v : Int => Ref7.SameShape.s0 a0 b1 v) (fun v => (⟨26, [(0, .vs 1 (a0.map (eI .i64))), (1, .vs 1 (b1.map (eI .i64))), (5, J v)], []⟩ : St)) 0 h4 (BackS.by rfl (Sees.e ⟨.s, .s, .s, trivial⟩)) ?_
    rintro K1 i5 x1 hs0_0 hl1 hr1
    replace hs0_0 : Ref7.SameShape.s0 a0 b1 i5 = some x1 := hs0_0
    unfold Ref7.SameShape.s0 at hs0_0
    change bwp _ _ _ _ _ (⟨26, [(0, .vs 1 (a0.map (eI .i64))), (1, .vs 1 (b1.map (eI .i64))), (5, J i5)], []⟩ : St)
    obtain ⟨t13, et13, hs0_1⟩ := letk_elim hs0_0
    conv => whnf
    refine Nm.mk ⟨t13, by rw [et13, List.length_map], ?_⟩
    obtain ⟨t14, et14, hs0_2⟩ := letk_elim hs0_1
    conv => whnf
    refine Nm.mk ⟨t14, et14, ?_⟩
    rcases t14 with _ | _
    · have hs0_3 := bif_f hs0_2
      have ehs0_3u_0 := hr1 _ (Option.some.inj hs0_3).symm
      have hs0_3u := congrArg some ehs0_3u_0
      have ehs0_3u_0 := Option.some.inj hs0_3u
      subst ehs0_3u_0
      conv => whnf
      exact Returns.pure (r := .lit (.bool true)) rfl rfl rfl rfl ⟨rfl, rfl⟩
    have hs0_3 := bif_t hs0_2
    conv => whnf
    refine DrawB.ofG [none, none, none, none, none, none, none, none, none] Tryz_mixed (by kernel_rfl) (by kernel_rfl) ?_
    conv => whnf
    refine DNodeB.of (.vs 1 (a0.map (eI .i64))) ?_ ?_
    · conv => whnf
      rfl
    conv => whnf
    refine DNodeB.of (J i5) ?_ ?_
    · conv => whnf
      rfl
    obtain ⟨chs0_4, hs0_4⟩ := chk_elim hs0_3
    obtain ⟨t19, et19, hs0_5⟩ := bind_elim hs0_4
    conv => whnf
    refine DNodeB.of (.iptr (J t19)) ?_ ?_
    · conv => whnf
      refine Side.mk chs0_4 ?_
      conv => whnf
      refine At.by et19 ?_
      conv => whnf
      rfl
    conv => whnf
    refine DNodeB.of (J t19) ?_ ?_
    · conv => whnf
      rfl
    conv => whnf
    refine DNodeB.of (.vs 1 (b1.map (eI .i64))) ?_ ?_
    · conv => whnf
      rfl
    conv => whnf
    refine DNodeB.of (J i5) ?_ ?_
    · conv => whnf
      rfl
    obtain ⟨chs0_6, hs0_6⟩ := chk_elim hs0_5
    obtain ⟨t23, et23, hs0_7⟩ := bind_elim hs0_6
    conv => whnf
    refine DNodeB.of (.iptr (J t23)) ?_ ?_
    · conv => whnf
      refine Side.mk chs0_6 ?_
      conv => whnf
      refine At.by et23 ?_
      conv => whnf
      rfl
    conv => whnf
    refine DNodeB.of (J t23) ?_ ?_
    · conv => whnf
      rfl
    obtain ⟨t25, et25, hs0_8⟩ := letk_elim hs0_7
    conv => whnf
    refine DNodeB.of (.lit (.bool t25)) ?_ ?_
    · conv => whnf
      refine Nm.mk ⟨t25, et25, ?_⟩
      conv => whnf
      rfl
    rcases t25 with _ | _
    · have hs0_9 := bif_f hs0_8
      obtain ⟨t16, et16, hs0_10⟩ := letk_elim hs0_9
      conv => whnf
      refine Nm.mk ⟨t16, et16, ?_⟩
      exact BackS.by ⟨_, hl1 _ (Option.some.inj hs0_10).symm, rfl⟩ (Sees.e ⟨.s, .s, .s, trivial⟩)
    have hs0_9 := bif_t hs0_8
    have ehs0_9_0 := hr1 _ (Option.some.inj hs0_9).symm
    subst ehs0_9_0
    conv => whnf
    exact Returns.pure (r := .lit (.bool false)) rfl rfl rfl rfl ⟨rfl, rfl⟩
  have h4 := bif_t h3
  have eh4_0 := Option.some.inj h4
  subst eh4_0
  conv => whnf
  exact Returns.pure (r := .lit (.bool false)) rfl rfl rfl rfl ⟨rfl, rfl⟩

end Go.Q
