import Derived.Test.YtemmhailjfdfdaaGreatAG7
import Derived.Test.YtemmhailjfdfdaaGreatFX
import Derived.Test.YtemmhailjfdfdaaGreatFY
import Derived.Test.YtemmhailjfdfdaaGreatProg
namespace Go.Q
open Go Go.Proofs
set_option maxRecDepth 10000
set_option maxHeartbeats 2000000

noncomputable def Law7.ArrayFirst.s0 (op0 : ByteArray) (t54_1 a4_0_1 : Int) (a4_1_1 a4_2_1 : List Int) (b5_0_1 : Int) (b5_1_1 b5_2_1 : List Int) (x7_0 : Int) (x7_1 x7_2 : List Int) (i9 : Int) : Option ((Int × (List Int) × (List Int) × Int × (List Int) × (List Int) × Int × (List Int) × (List Int) × Int) ⊕ Bool) :=
  letk ((a4_2_1.length : Int)) fun t60 =>
  letk (decide (i9 < t60)) fun t61 =>
  bif t61 then
    chk (0 ≤ i9) <|
    Option.bind (a4_2_1[i9.toNat]?) fun t71 =>
    chk (0 ≤ i9) <|
    Option.bind (b5_2_1[i9.toNat]?) fun t79 =>
    Option.bind (Arr.One op0 (⟨a4_0_1, t71⟩ : api.Value) (⟨b5_0_1, t79⟩ : api.Value)) fun (t82_0, t82_1) =>
    letk (t82_1 != (0 : Int)) fun t86 =>
    bif t86 then
      letk (t54_1 == t82_1) fun t89 =>
      bif t89 then
        Option.bind (Law7.Awake) fun t91 =>
        some (.inr t91)
      else
        some (.inr false)
    else
      letk (t54_1 == (0 : Int)) fun t94 =>
      bif t94 then
        chk (0 ≤ i9) <|
        Option.bind (x7_2[i9.toNat]?) fun t99 =>
        letk (t99 != t82_0.N) fun t103 =>
        bif t103 then
          some (.inr false)
        else
          letk (x7_0 != t82_0.Kind) fun t109 =>
          bif t109 then
            some (.inr false)
          else
            letk (IntKind.i64.wrap (i9 + (1 : Int))) fun t63_1 =>
            some (.inl (a4_0_1, a4_1_1, a4_2_1, b5_0_1, b5_1_1, b5_2_1, x7_0, x7_1, x7_2, t63_1))
      else
        letk (IntKind.i64.wrap (i9 + (1 : Int))) fun t63 =>
        some (.inl (a4_0_1, a4_1_1, a4_2_1, b5_0_1, b5_1_1, b5_2_1, x7_0, x7_1, x7_2, t63))
  else
    ((
    letk (t54_1 == (0 : Int)) fun t113 =>
    bif t113 then
      Option.bind (Law7.Awake) fun t115 =>
      some t115
    else
      some false)).map .inr

noncomputable def Law7.ArrayFirst.l0 (op0 : ByteArray) (t54_1 a4_0_1 : Int) (a4_1_1 a4_2_1 : List Int) (b5_0_1 : Int) (b5_1_1 b5_2_1 : List Int) (x7_0 : Int) (x7_1 x7_2 : List Int) (i9 : Int) : Option Bool := loopO (fun v : Int × (List Int) × (List Int) × Int × (List Int) × (List Int) × Int × (List Int) × (List Int) × Int => Law7.ArrayFirst.s0 op0 t54_1 v.1 v.2.1 v.2.2.1 v.2.2.2.1 v.2.2.2.2.1 v.2.2.2.2.2.1 v.2.2.2.2.2.2.1 v.2.2.2.2.2.2.2.1 v.2.2.2.2.2.2.2.2.1 v.2.2.2.2.2.2.2.2.2) (a4_0_1, a4_1_1, a4_2_1, b5_0_1, b5_1_1, b5_2_1, x7_0, x7_1, x7_2, i9)
noncomputable def Law7.ArrayFirst.j0 (op0 : ByteArray) (a4_0 : Int) (a4_1 a4_2 : List Int) (b5_0 : Int) (b5_1 b5_2 : List Int) : Option Bool :=
  Option.bind (Arr.Do op0 (⟨a4_0, a4_1, a4_2⟩ : api.Array) (⟨b5_0, b5_1, b5_2⟩ : api.Array)) fun (t54_0, t54_1) =>
  Law7.ArrayFirst.l0 op0 t54_1 a4_0 a4_1 a4_2 b5_0 b5_1 b5_2 t54_0.Kind t54_0.Shape t54_0.Elems 0

noncomputable def Law7.ArrayFirst (op0 : ByteArray) (a1 b2 : api.Array) : Option Bool :=
  Option.bind (Law7.isLarge ([(⟨a1.Kind, a1.Shape, a1.Elems⟩ : api.Array), (⟨b2.Kind, b2.Shape, b2.Elems⟩ : api.Array)])) fun t15 =>
  bif t15 then
    Option.bind (Law7.Awake) fun t49_5 =>
    some t49_5
  else
    Option.bind (Arr.Valid (⟨a1.Kind, a1.Shape, a1.Elems⟩ : api.Array)) fun t18 =>
    letk (!t18) fun t19 =>
    bif t19 then
      Option.bind (Law7.Awake) fun t49_4 =>
      some t49_4
    else
      Option.bind (Arr.Valid (⟨b2.Kind, b2.Shape, b2.Elems⟩ : api.Array)) fun t23 =>
      letk (!t23) fun t24 =>
      bif t24 then
        Option.bind (Law7.Awake) fun t49_3 =>
        some t49_3
      else
        Option.bind (Arr.Kind op0 a1.Kind b2.Kind) fun t32 =>
        letk (t32 == (0 : Int)) fun t33 =>
        bif t33 then
          Option.bind (Law7.Awake) fun t49_2 =>
          some t49_2
        else
          letk ((a1.Shape.length : Int)) fun t38 =>
          letk (t38 == (0 : Int)) fun t39 =>
          bif t39 then
            Option.bind (Law7.Awake) fun t49_1 =>
            some t49_1
          else
            Option.bind (Ref7.SameShape a1.Shape b2.Shape) fun t46 =>
            letk (!t46) fun t47 =>
            bif t47 then
              Option.bind (Law7.Awake) fun t49 =>
              some t49
            else
              Law7.ArrayFirst.j0 op0 a1.Kind a1.Shape a1.Elems b2.Kind b2.Shape b2.Elems

theorem Law7.ArrayFirst_ok {op0 : ByteArray} {a1 b2 : api.Array} {r : Bool} (h0 : Law7.ArrayFirst op0 a1 b2 = some r) : Gives Tryz.prog 8 [.lit (.string op0), api.Array.enc a1, api.Array.enc b2] (.lit (.bool r)) := by
  unfold Law7.ArrayFirst at h0
  refine ACalls.of_swp Tryz.func8 rfl (by decide) rfl (st0 := ⟨117, [(0, .lit (.string op0)), (1, api.Array.enc a1), (2, api.Array.enc b2)], []⟩) rfl (bwp_ok (C := [(0, 3)]) ?_)
  conv => whnf
  refine Nm.mk ⟨[J a1.Kind, .vs 1 (a1.Shape.map (eI .i64)), .vs 1 (a1.Elems.map (eI .i64))], rfl, ?_⟩
  conv => whnf
  refine Nm.mk ⟨[J b2.Kind, .vs 1 (b2.Shape.map (eI .i64)), .vs 1 (b2.Elems.map (eI .i64))], rfl, ?_⟩
  conv => whnf
  refine CutN.of (fun s => ∃ (a4_0 : Int) (a4_1 a4_2 : List Int) (b5_0 : Int) (b5_1 b5_2 : List Int), Law7.ArrayFirst.j0 op0 a4_0 a4_1 a4_2 b5_0 b5_1 b5_2 = some r ∧ s = (⟨117, [(0, .lit (.string op0)), (4, .ptr 0 0), (5, .ptr 1 0)], [.box [J a4_0, .vs 1 (a4_1.map (eI .i64)), .vs 1 (a4_2.map (eI .i64))], .box [J b5_0, .vs 1 (b5_1.map (eI .i64)), .vs 1 (b5_2.map (eI .i64))]]⟩ : St)) ?_ ?_
  · conv => whnf
    refine Gate.go ?_
    conv => whnf
    refine Nm.mk ⟨([(⟨a1.Kind, a1.Shape, a1.Elems⟩ : api.Array), (⟨b2.Kind, b2.Shape, b2.Elems⟩ : api.Array)]).map (api.Array.enc), rfl, ?_⟩
    obtain ⟨t15, et15, h1⟩ := bind_elim h0
    conv => whnf
    refine Gate.weak (Sees.of (Weak.objs (k := 117) (keep := [0, 1]) (frz := [2]) (m := 0) (ts := [(0, .lit (.string op0)), (4, .ptr 0 0), (5, .ptr 1 0), (14, .vs 3 (([(⟨a1.Kind, a1.Shape, a1.Elems⟩ : api.Array), (⟨b2.Kind, b2.Shape, b2.Elems⟩ : api.Array)]).map (api.Array.enc)))]) (hs := [.box [J a1.Kind, .vs 1 (a1.Shape.map (eI .i64)), .vs 1 (a1.Elems.map (eI .i64))], .box [J b2.Kind, .vs 1 (b2.Shape.map (eI .i64)), .vs 1 (b2.Elems.map (eI .i64))]]) rfl (by decide) rfl rfl ⟨⟨_, rfl, WO.refl rfl⟩, ⟨⟨_, rfl, WO.refl rfl⟩, ⟨rfl, fun _ h => by cases h⟩⟩⟩ ⟨.s, (.ptr _ _ 0 rfl), (.ptr _ _ 1 rfl), (WV.all (k := 2) (by decide) rfl), trivial⟩)) ?_
    conv => whnf
    refine CallN.by (v := .lit (.bool t15)) (Law7.isLarge_ok et15) rfl rfl ?_
    rcases t15 with _ | _
    · have h2 := bif_f h1
      obtain ⟨t18, et18, h3⟩ := bind_elim h2
      conv => whnf
      refine Gate.go ?_
      conv => whnf
      refine CallN.by (v := .lit (.bool t18)) (Arr.Valid_ok et18) rfl rfl ?_
      obtain ⟨t19, et19, h4⟩ := letk_elim h3
      conv => whnf
      refine Nm.mk ⟨t19, et19, ?_⟩
      rcases t19 with _ | _
      · have h5 := bif_f h4
        obtain ⟨t23, et23, h6⟩ := bind_elim h5
        conv => whnf
        refine Gate.go ?_
        conv => whnf
        refine CallN.by (v := .lit (.bool t23)) (Arr.Valid_ok et23) rfl rfl ?_
        obtain ⟨t24, et24, h7⟩ := letk_elim h6
        conv => whnf
        refine Nm.mk ⟨t24, et24, ?_⟩
        rcases t24 with _ | _
        · have h8 := bif_f h7
          obtain ⟨t32, et32, h9⟩ := bind_elim h8
          conv => whnf
          refine Gate.go ?_
          conv => whnf
          refine CallN.by (v := J t32) (Arr.Kind_ok et32) rfl rfl ?_
          obtain ⟨t33, et33, h10⟩ := letk_elim h9
          conv => whnf
          refine Nm.mk ⟨t33, et33, ?_⟩
          rcases t33 with _ | _
          · have h11 := bif_f h10
            obtain ⟨t38, et38, h12⟩ := letk_elim h11
            conv => whnf
            refine Nm.mk ⟨t38, by rw [et38, List.length_map], ?_⟩
            obtain ⟨t39, et39, h13⟩ := letk_elim h12
            conv => whnf
            refine Nm.mk ⟨t39, et39, ?_⟩
            rcases t39 with _ | _
            · have h14 := bif_f h13
              obtain ⟨t46, et46, h15⟩ := bind_elim h14
              conv => whnf
              refine Gate.go ?_
              conv => whnf
              refine CallN.by (v := .lit (.bool t46)) (Ref7.SameShape_ok et46) rfl rfl ?_
              obtain ⟨t47, et47, h16⟩ := letk_elim h15
              conv => whnf
              refine Nm.mk ⟨t47, et47, ?_⟩
              rcases t47 with _ | _
              · have h17 := bif_f h16
                exact BackS.by ⟨_, _, _, _, _, _, h17, rfl⟩ (Sees.of (Weak.objs (keep := [0, 1]) (frz := []) (m := 0) rfl (by decide) rfl rfl ⟨⟨_, rfl, WO.boxs ⟨.s, .s, .s, trivial⟩⟩, ⟨⟨_, rfl, WO.boxs ⟨.s, .s, .s, trivial⟩⟩, ⟨rfl, fun _ h => by cases h⟩⟩⟩ ⟨.s, (.ptr _ _ 0 rfl), (.ptr _ _ 1 rfl), trivial⟩))
              have h17 := bif_t h16
              obtain ⟨t49, et49, h18⟩ := bind_elim h17
              conv => whnf
              refine Gate.go ?_
              conv => whnf
              refine CallN.by (v := .lit (.bool t49)) (Law7.Awake_ok et49) rfl rfl ?_
              have eh18_0 := Option.some.inj h18
              subst eh18_0
              conv => whnf
              exact Returns.pure (r := .lit (.bool t49)) rfl rfl rfl rfl ⟨rfl, rfl⟩
            have h14 := bif_t h13
            obtain ⟨t49_1, et49_1, h15⟩ := bind_elim h14
            conv => whnf
            refine Gate.go ?_
            conv => whnf
            refine CallN.by (v := .lit (.bool t49_1)) (Law7.Awake_ok et49_1) rfl rfl ?_
            have eh15_0 := Option.some.inj h15
            subst eh15_0
            conv => whnf
            exact Returns.pure (r := .lit (.bool t49_1)) rfl rfl rfl rfl ⟨rfl, rfl⟩
          have h11 := bif_t h10
          obtain ⟨t49_2, et49_2, h12⟩ := bind_elim h11
          conv => whnf
          refine Gate.go ?_
          conv => whnf
          refine CallN.by (v := .lit (.bool t49_2)) (Law7.Awake_ok et49_2) rfl rfl ?_
          have eh12_0 := Option.some.inj h12
          subst eh12_0
          conv => whnf
          exact Returns.pure (r := .lit (.bool t49_2)) rfl rfl rfl rfl ⟨rfl, rfl⟩
        have h8 := bif_t h7
        obtain ⟨t49_3, et49_3, h9⟩ := bind_elim h8
        conv => whnf
        refine Gate.go ?_
        conv => whnf
        refine CallN.by (v := .lit (.bool t49_3)) (Law7.Awake_ok et49_3) rfl rfl ?_
        have eh9_0 := Option.some.inj h9
        subst eh9_0
        conv => whnf
        exact Returns.pure (r := .lit (.bool t49_3)) rfl rfl rfl rfl ⟨rfl, rfl⟩
      have h5 := bif_t h4
      obtain ⟨t49_4, et49_4, h6⟩ := bind_elim h5
      conv => whnf
      refine Gate.go ?_
      conv => whnf
      refine CallN.by (v := .lit (.bool t49_4)) (Law7.Awake_ok et49_4) rfl rfl ?_
      have eh6_0 := Option.some.inj h6
      subst eh6_0
      conv => whnf
      exact Returns.pure (r := .lit (.bool t49_4)) rfl rfl rfl rfl ⟨rfl, rfl⟩
    have h2 := bif_t h1
    obtain ⟨t49_5, et49_5, h3⟩ := bind_elim h2
    conv => whnf
    refine Gate.go ?_
    conv => whnf
    refine CallN.by (v := .lit (.bool t49_5)) (Law7.Awake_ok et49_5) rfl rfl ?_
    have eh3_0 := Option.some.inj h3
    subst eh3_0
    conv => whnf
    exact Returns.pure (r := .lit (.bool t49_5)) rfl rfl rfl rfl ⟨rfl, rfl⟩
  rintro s ⟨a4_0, a4_1, a4_2, b5_0, b5_1, b5_2, hj0, rfl⟩
  unfold Law7.ArrayFirst.j0 at hj0
  obtain ⟨⟨t54_0, t54_1⟩, et54, hj1⟩ := bind_elim hj0
  conv => whnf
  refine Gate.go ?_
  conv => whnf
  refine CallN.by (v := .tup [api.Array.enc t54_0, J t54_1]) (Arr.Do_ok et54) rfl rfl ?_
  conv => whnf
  refine Nm.mk ⟨[J 0, .nils, .nils], rfl, ?_⟩
  conv => whnf
  refine Nm.mk ⟨[J t54_0.Kind, .vs 1 (t54_0.Shape.map (eI .i64)), .vs 1 (t54_0.Elems.map (eI .i64))], rfl, ?_⟩
  conv => whnf
  unfold Law7.ArrayFirst.l0 at hj1
  refine LoopB.of (σ := Int × (List Int) × (List Int) × Int × (List Int) × (List Int) × Int × (List Int) × (List Int) × Int) (ρ := Bool) (fun v : Int × (List Int) × (List Int) × Int × (List Int) × (List Int) × Int × (List Int) × (List Int) × Int => Law7.ArrayFirst.s0 op0 t54_1 v.1 v.2.1 v.2.2.1 v.2.2.2.1 v.2.2.2.2.1 v.2.2.2.2.2.1 v.2.2.2.2.2.2.1 v.2.2.2.2.2.2.2.1 v.2.2.2.2.2.2.2.2.1 v.2.2.2.2.2.2.2.2.2) (fun v => (⟨117, [(0, .lit (.string op0)), (4, .ptr 0 0), (5, .ptr 1 0), (7, .ptr 2 0), (8, J t54_1), (9, J v.2.2.2.2.2.2.2.2.2)], [.box [J v.1, .vs 1 (v.2.1.map (eI .i64)), .vs 1 (v.2.2.1.map (eI .i64))], .box [J v.2.2.2.1, .vs 1 (v.2.2.2.2.1.map (eI .i64)), .vs 1 (v.2.2.2.2.2.1.map (eI .i64))], .box [J v.2.2.2.2.2.2.1, .vs 1 (v.2.2.2.2.2.2.2.1.map (eI .i64)), .vs 1 (v.2.2.2.2.2.2.2.2.1.map (eI .i64))]]⟩ : St)) (a4_0, a4_1, a4_2, b5_0, b5_1, b5_2, t54_0.Kind, t54_0.Shape, t54_0.Elems, 0) hj1 (BackS.by rfl (Sees.of (Weak.objs (keep := [0, 1, 2]) (frz := []) (m := 0) rfl (by decide) rfl rfl ⟨⟨_, rfl, WO.boxs ⟨.s, .s, .s, trivial⟩⟩, ⟨⟨_, rfl, WO.boxs ⟨.s, .s, .s, trivial⟩⟩, ⟨⟨_, rfl, WO.boxs ⟨.s, .s, .s, trivial⟩⟩, ⟨rfl, fun _ h => by cases h⟩⟩⟩⟩ ⟨.s, (.ptr _ _ 0 rfl), (.ptr _ _ 1 rfl), (.ptr _ _ 2 rfl), .s, .s, trivial⟩))) ?_
  rintro K1 ⟨a4_0_1, a4_1_1, a4_2_1, b5_0_1, b5_1_1, b5_2_1, x7_0, x7_1, x7_2, i9⟩ x1 hs0_0 hl1 hr1
  replace hs0_0 : Law7.ArrayFirst.s0 op0 t54_1 a4_0_1 a4_1_1 a4_2_1 b5_0_1 b5_1_1 b5_2_1 x7_0 x7_1 x7_2 i9 = some x1 := hs0_0
  unfold Law7.ArrayFirst.s0 at hs0_0
  change bwp _ _ _ _ _ (⟨117, [(0, .lit (.string op0)), (4, .ptr 0 0), (5, .ptr 1 0), (7, .ptr 2 0), (8, J t54_1), (9, J i9)], [.box [J a4_0_1, .vs 1 (a4_1_1.map (eI .i64)), .vs 1 (a4_2_1.map (eI .i64))], .box [J b5_0_1, .vs 1 (b5_1_1.map (eI .i64)), .vs 1 (b5_2_1.map (eI .i64))], .box [J x7_0, .vs 1 (x7_1.map (eI .i64)), .vs 1 (x7_2.map (eI .i64))]]⟩ : St)
  obtain ⟨t60, et60, hs0_1⟩ := letk_elim hs0_0
  conv => whnf
  refine Nm.mk ⟨t60, by rw [et60, List.length_map], ?_⟩
  obtain ⟨t61, et61, hs0_2⟩ := letk_elim hs0_1
  conv => whnf
  refine Nm.mk ⟨t61, et61, ?_⟩
  rcases t61 with _ | _
  · have hs0_3 := bif_f hs0_2
    obtain ⟨yhs0_3_0, hs0_3u, ehs0_3_0⟩ := map_elim hs0_3
    have ehs0_3_0 := (hr1 _ ehs0_3_0.symm).symm
    subst ehs0_3_0
    obtain ⟨t113, et113, hs0_3u0⟩ := letk_elim hs0_3u
    conv => whnf
    refine Nm.mk ⟨t113, et113, ?_⟩
    rcases t113 with _ | _
    · have hs0_3u1 := bif_f hs0_3u0
      have ehs0_3u1_0 := Option.some.inj hs0_3u1
      subst ehs0_3u1_0
      conv => whnf
      exact Returns.pure (r := .lit (.bool false)) rfl rfl rfl rfl ⟨rfl, rfl⟩
    have hs0_3u1 := bif_t hs0_3u0
    obtain ⟨t115, et115, hs0_3u2⟩ := bind_elim hs0_3u1
    conv => whnf
    refine Gate.go ?_
    conv => whnf
    refine CallN.by (v := .lit (.bool t115)) (Law7.Awake_ok et115) rfl rfl ?_
    have ehs0_3u2_0 := Option.some.inj hs0_3u2
    subst ehs0_3u2_0
    conv => whnf
    exact Returns.pure (r := .lit (.bool t115)) rfl rfl rfl rfl ⟨rfl, rfl⟩
  have hs0_3 := bif_t hs0_2
  conv => whnf
  refine DrawB.sees (Sees.of (Weak.objs (k := 117) (keep := [0, 1, 2]) (frz := []) (m := 0) (ts := [(0, .lit (.string op0)), (4, .ptr 0 0), (5, .ptr 1 0), (7, .ptr 2 0), (8, J t54_1), (9, J i9)]) (hs := [.box [J a4_0_1, .vs 1 (a4_1_1.map (eI .i64)), .vs 1 (a4_2_1.map (eI .i64))], .box [J b5_0_1, .vs 1 (b5_1_1.map (eI .i64)), .vs 1 (b5_2_1.map (eI .i64))], .box [J x7_0, .vs 1 (x7_1.map (eI .i64)), .vs 1 (x7_2.map (eI .i64))]]) rfl (by decide) rfl rfl ⟨⟨_, rfl, WO.refl rfl⟩, ⟨⟨_, rfl, WO.refl rfl⟩, ⟨⟨_, rfl, WO.refl rfl⟩, ⟨rfl, fun _ h => by cases h⟩⟩⟩⟩ ⟨.s, (.ptr _ _ 0 rfl), (.ptr _ _ 1 rfl), (.ptr _ _ 2 rfl), .s, .s, trivial⟩)) ?_
  refine DrawB.ofFN 1 [.box [J a4_0_1, .vs 1 (a4_1_1.map (eI .i64)), .vs 1 (a4_2_1.map (eI .i64))], .box [J b5_0_1, .vs 1 (b5_1_1.map (eI .i64)), .vs 1 (b5_2_1.map (eI .i64))], .box [J x7_0, .vs 1 (x7_1.map (eI .i64)), .vs 1 (x7_2.map (eI .i64))], .arr 1 []] 3 4 [[], [0], [0], [0], [0], [], [], [], [], [1], [1], [1], [1], [], [], [], [], [], [], [], [], [3], [3], []] [[], [], [], [], [], [], [], [], [], [], [], [], [], [], [], [], [], [], [], [], [], [3], [3], []] [none, none, none, none, none, none, none, none, none, none, none, none, none, none, none, none, none, none, none, none, none, some 3, none, none] Tryz_mixed (by kernel_rfl) rfl rfl rfl (by kernel_rfl) ?_
  conv => whnf
  refine FNode.no (W := []) (.lit (.string op0)) ?_ rfl ?_
  · conv => whnf
    rfl
  conv => whnf
  refine FNode.rd (F := [0]) (W := []) (.ptr 0 0) ?_ rfl rfl ?_
  · conv => whnf
    rfl
  conv => whnf
  refine FNode.rd (F := [0]) (W := []) (J a4_0_1) ?_ rfl rfl ?_
  · conv => whnf
    rfl
  conv => whnf
  refine FNode.rd (F := [0]) (W := []) (.ptr 0 2) ?_ rfl rfl ?_
  · conv => whnf
    rfl
  conv => whnf
  refine FNode.rd (F := [0]) (W := []) (.vs 1 (a4_2_1.map (eI .i64))) ?_ rfl rfl ?_
  · conv => whnf
    rfl
  conv => whnf
  refine FNode.no (W := []) (J i9) ?_ rfl ?_
  · conv => whnf
    rfl
  obtain ⟨chs0_4, hs0_4⟩ := chk_elim hs0_3
  obtain ⟨t71, et71, hs0_5⟩ := bind_elim hs0_4
  conv => whnf
  refine FNode.no (W := []) (.iptr (J t71)) ?_ rfl ?_
  · conv => whnf
    refine Side.mk chs0_4 ?_
    conv => whnf
    refine At.by et71 ?_
    conv => whnf
    rfl
  conv => whnf
  refine FNode.no (W := []) (J t71) ?_ rfl ?_
  · conv => whnf
    rfl
  conv => whnf
  refine FNode.no (W := []) (.agg [J a4_0_1, J t71]) ?_ rfl ?_
  · conv => whnf
    refine Nm.mk ⟨[J a4_0_1, J t71], rfl, ?_⟩
    conv => whnf
    rfl
  conv => whnf
  refine FNode.rd (F := [1]) (W := []) (.ptr 1 0) ?_ rfl rfl ?_
  · conv => whnf
    rfl
  conv => whnf
  refine FNode.rd (F := [1]) (W := []) (J b5_0_1) ?_ rfl rfl ?_
  · conv => whnf
    rfl
  conv => whnf
  refine FNode.rd (F := [1]) (W := []) (.ptr 1 2) ?_ rfl rfl ?_
  · conv => whnf
    rfl
  conv => whnf
  refine FNode.rd (F := [1]) (W := []) (.vs 1 (b5_2_1.map (eI .i64))) ?_ rfl rfl ?_
  · conv => whnf
    rfl
  conv => whnf
  refine FNode.no (W := []) (J i9) ?_ rfl ?_
  · conv => whnf
    rfl
  obtain ⟨chs0_6, hs0_6⟩ := chk_elim hs0_5
  obtain ⟨t79, et79, hs0_7⟩ := bind_elim hs0_6
  conv => whnf
  refine FNode.no (W := []) (.iptr (J t79)) ?_ rfl ?_
  · conv => whnf
    refine Side.mk chs0_6 ?_
    conv => whnf
    refine At.by et79 ?_
    conv => whnf
    rfl
  conv => whnf
  refine FNode.no (W := []) (J t79) ?_ rfl ?_
  · conv => whnf
    rfl
  conv => whnf
  refine FNode.no (W := []) (.agg [J b5_0_1, J t79]) ?_ rfl ?_
  · conv => whnf
    refine Nm.mk ⟨[J b5_0_1, J t79], rfl, ?_⟩
    conv => whnf
    rfl
  obtain ⟨⟨t82_0, t82_1⟩, et82, hs0_8⟩ := bind_elim hs0_7
  conv => whnf
  refine FNode.no (W := []) (.tup [api.Value.enc t82_0, J t82_1]) ?_ rfl ?_
  · conv => whnf
    refine CallN.by (v := .tup [api.Value.enc t82_0, J t82_1]) (Arr.One_ok et82) rfl rfl ?_
    conv => whnf
    rfl
  conv => whnf
  refine FNode.no (W := []) (.tup [api.Value.enc t82_0, J t82_1]) ?_ rfl ?_
  · conv => whnf
    rfl
  conv => whnf
  refine FNode.no (W := []) (api.Value.enc t82_0) ?_ rfl ?_
  · conv => whnf
    rfl
  conv => whnf
  refine FNode.no (W := []) (J t82_1) ?_ rfl ?_
  · conv => whnf
    rfl
  conv => whnf
  refine FNode.nw (F := [3]) (W := [3]) (.ptr 4 0) (.ptr 3 0) [.box [J a4_0_1, .vs 1 (a4_1_1.map (eI .i64)), .vs 1 (a4_2_1.map (eI .i64))], .box [J b5_0_1, .vs 1 (b5_1_1.map (eI .i64)), .vs 1 (b5_2_1.map (eI .i64))], .box [J x7_0, .vs 1 (x7_1.map (eI .i64)), .vs 1 (x7_2.map (eI .i64))], .box [J 0, J 0]] [.dead, .dead, .dead, .arr 1 []] (.box [J 0, J 0]) ?_ rfl rfl rfl rfl ⟨_, rfl⟩ (.inl ⟨0, rfl, rfl⟩) rfl rfl ?_
  · conv => whnf
    refine Nm.mk ⟨[J 0, J 0], rfl, ?_⟩
    conv => whnf
    rfl
  conv => whnf
  refine FNode.pl (F := [3]) (W := [3]) (.undef) [.box [J a4_0_1, .vs 1 (a4_1_1.map (eI .i64)), .vs 1 (a4_2_1.map (eI .i64))], .box [J b5_0_1, .vs 1 (b5_1_1.map (eI .i64)), .vs 1 (b5_2_1.map (eI .i64))], .box [J x7_0, .vs 1 (x7_1.map (eI .i64)), .vs 1 (x7_2.map (eI .i64))], .box [J t82_0.Kind, J t82_0.N]] ?_ rfl rfl rfl rfl ?_
  · conv => whnf
    refine Nm.mk ⟨[J t82_0.Kind, J t82_0.N], rfl, ?_⟩
    conv => whnf
    rfl
  conv => whnf
  refine FNode.no (W := []) (J t82_1) ?_ rfl ?_
  · conv => whnf
    rfl
  obtain ⟨t86, et86, hs0_9⟩ := letk_elim hs0_8
  conv => whnf
  refine Nm.mk ⟨t86, et86, ?_⟩
  rcases t86 with _ | _
  · have hs0_10 := bif_f hs0_9
    conv => whnf
    refine DrawB.sees (Sees.of (Weak.objs (k := 117) (keep := [0, 1, 2, 3]) (frz := []) (m := 0) (ts := [(0, .lit (.string op0)), (4, .ptr 0 0), (5, .ptr 1 0), (7, .ptr 2 0), (8, J t54_1), (9, J i9), (10, .ptr 3 0)]) (hs := [.box [J a4_0_1, .vs 1 (a4_1_1.map (eI .i64)), .vs 1 (a4_2_1.map (eI .i64))], .box [J b5_0_1, .vs 1 (b5_1_1.map (eI .i64)), .vs 1 (b5_2_1.map (eI .i64))], .box [J x7_0, .vs 1 (x7_1.map (eI .i64)), .vs 1 (x7_2.map (eI .i64))], .box [J t82_0.Kind, J t82_0.N]]) rfl (by decide) rfl rfl ⟨⟨_, rfl, WO.refl rfl⟩, ⟨⟨_, rfl, WO.refl rfl⟩, ⟨⟨_, rfl, WO.refl rfl⟩, ⟨⟨_, rfl, WO.refl rfl⟩, ⟨rfl, fun _ h => by cases h⟩⟩⟩⟩⟩ ⟨.s, (.ptr _ _ 0 rfl), (.ptr _ _ 1 rfl), (.ptr _ _ 2 rfl), .s, .s, (.ptr _ _ 3 rfl), trivial⟩)) ?_
    refine DrawB.ofG [none, none, none, some 95, some 95, some 95, some 95, some 95, some 95, some 95, some 95, some 95, some 104, some 104, some 104, some 104, some 104, some 95, none] Tryz_mixed (by kernel_rfl) (by kernel_rfl) ?_
    conv => whnf
    refine DNodeB.of (J t54_1) ?_ ?_
    · conv => whnf
      rfl
    obtain ⟨t94, et94, hs0_11⟩ := letk_elim hs0_10
    conv => whnf
    refine DNodeB.of (.lit (.bool t94)) ?_ ?_
    · conv => whnf
      refine Nm.mk ⟨t94, et94, ?_⟩
      conv => whnf
      rfl
    conv => whnf
    refine DNodeB.of (.lit (.bool t94)) ?_ ?_
    · conv => whnf
      rfl
    rcases t94 with _ | _
    · have hs0_12 := bif_f hs0_11
      conv => whnf
      refine DNodeB.of (.lit (.bool false)) ?_ ?_
      · conv => whnf
        rfl
      obtain ⟨t63, et63, hs0_13⟩ := letk_elim hs0_12
      conv => whnf
      refine Nm.mk ⟨t63, et63, ?_⟩
      exact BackS.by ⟨_, hl1 _ (Option.some.inj hs0_13).symm, rfl⟩ (Sees.of (Weak.objs (keep := [0, 1, 2]) (frz := []) (m := 0) rfl (by decide) rfl rfl ⟨⟨_, rfl, WO.boxs ⟨.s, .s, .s, trivial⟩⟩, ⟨⟨_, rfl, WO.boxs ⟨.s, .s, .s, trivial⟩⟩, ⟨⟨_, rfl, WO.boxs ⟨.s, .s, .s, trivial⟩⟩, ⟨rfl, fun _ h => by cases h⟩⟩⟩⟩ ⟨.s, (.ptr _ _ 0 rfl), (.ptr _ _ 1 rfl), (.ptr _ _ 2 rfl), .s, .s, trivial⟩))
    have hs0_12 := bif_t hs0_11
    conv => whnf
    refine DNodeB.of (.ptr 2 2) ?_ ?_
    · conv => whnf
      rfl
    conv => whnf
    refine DNodeB.of (.vs 1 (x7_2.map (eI .i64))) ?_ ?_
    · conv => whnf
      rfl
    conv => whnf
    refine DNodeB.of (J i9) ?_ ?_
    · conv => whnf
      rfl
    obtain ⟨chs0_13, hs0_13⟩ := chk_elim hs0_12
    obtain ⟨t99, et99, hs0_14⟩ := bind_elim hs0_13
    conv => whnf
    refine DNodeB.of (.iptr (J t99)) ?_ ?_
    · conv => whnf
      refine Side.mk chs0_13 ?_
      conv => whnf
      refine At.by et99 ?_
      conv => whnf
      rfl
    conv => whnf
    refine DNodeB.of (J t99) ?_ ?_
    · conv => whnf
      rfl
    conv => whnf
    refine DNodeB.of (.ptr 3 1) ?_ ?_
    · conv => whnf
      rfl
    conv => whnf
    refine DNodeB.of (J t82_0.N) ?_ ?_
    · conv => whnf
      rfl
    obtain ⟨t103, et103, hs0_15⟩ := letk_elim hs0_14
    conv => whnf
    refine DNodeB.of (.lit (.bool t103)) ?_ ?_
    · conv => whnf
      refine Nm.mk ⟨t103, et103, ?_⟩
      conv => whnf
      rfl
    conv => whnf
    refine DNodeB.of (.lit (.bool t103)) ?_ ?_
    · conv => whnf
      rfl
    rcases t103 with _ | _
    · have hs0_16 := bif_f hs0_15
      conv => whnf
      refine DNodeB.of (.ptr 2 0) ?_ ?_
      · conv => whnf
        rfl
      conv => whnf
      refine DNodeB.of (J x7_0) ?_ ?_
      · conv => whnf
        rfl
      conv => whnf
      refine DNodeB.of (.ptr 3 0) ?_ ?_
      · conv => whnf
        rfl
      conv => whnf
      refine DNodeB.of (J t82_0.Kind) ?_ ?_
      · conv => whnf
        rfl
      obtain ⟨t109, et109, hs0_17⟩ := letk_elim hs0_16
      conv => whnf
      refine DNodeB.of (.lit (.bool t109)) ?_ ?_
      · conv => whnf
        refine Nm.mk ⟨t109, et109, ?_⟩
        conv => whnf
        rfl
      conv => whnf
      refine DNodeB.of (.lit (.bool t109)) ?_ ?_
      · conv => whnf
        rfl
      conv => whnf
      refine DNodeB.of (.lit (.bool t109)) ?_ ?_
      · conv => whnf
        rfl
      rcases t109 with _ | _
      · have hs0_18 := bif_f hs0_17
        obtain ⟨t63_1, et63_1, hs0_19⟩ := letk_elim hs0_18
        conv => whnf
        refine Nm.mk ⟨t63_1, et63_1, ?_⟩
        exact BackS.by ⟨_, hl1 _ (Option.some.inj hs0_19).symm, rfl⟩ (Sees.of (Weak.objs (keep := [0, 1, 2]) (frz := []) (m := 0) rfl (by decide) rfl rfl ⟨⟨_, rfl, WO.boxs ⟨.s, .s, .s, trivial⟩⟩, ⟨⟨_, rfl, WO.boxs ⟨.s, .s, .s, trivial⟩⟩, ⟨⟨_, rfl, WO.boxs ⟨.s, .s, .s, trivial⟩⟩, ⟨rfl, fun _ h => by cases h⟩⟩⟩⟩ ⟨.s, (.ptr _ _ 0 rfl), (.ptr _ _ 1 rfl), (.ptr _ _ 2 rfl), .s, .s, trivial⟩))
      have hs0_18 := bif_t hs0_17
      have ehs0_18_0 := hr1 _ (Option.some.inj hs0_18).symm
      subst ehs0_18_0
      conv => whnf
      exact Returns.pure (r := .lit (.bool false)) rfl rfl rfl rfl ⟨rfl, rfl⟩
    have hs0_16 := bif_t hs0_15
    conv => whnf
    refine DNodeB.of (.lit (.bool true)) ?_ ?_
    · conv => whnf
      rfl
    conv => whnf
    refine DNodeB.of (.lit (.bool true)) ?_ ?_
    · conv => whnf
      rfl
    have ehs0_16_0 := hr1 _ (Option.some.inj hs0_16).symm
    subst ehs0_16_0
    conv => whnf
    exact Returns.pure (r := .lit (.bool false)) rfl rfl rfl rfl ⟨rfl, rfl⟩
  have hs0_10 := bif_t hs0_9
  obtain ⟨t89, et89, hs0_11⟩ := letk_elim hs0_10
  conv => whnf
  refine Nm.mk ⟨t89, et89, ?_⟩
  rcases t89 with _ | _
  · have hs0_12 := bif_f hs0_11
    have ehs0_12_0 := hr1 _ (Option.some.inj hs0_12).symm
    subst ehs0_12_0
    conv => whnf
    exact Returns.pure (r := .lit (.bool false)) rfl rfl rfl rfl ⟨rfl, rfl⟩
  have hs0_12 := bif_t hs0_11
  obtain ⟨t91, et91, hs0_13⟩ := bind_elim hs0_12
  conv => whnf
  refine Gate.go ?_
  conv => whnf
  refine CallN.by (v := .lit (.bool t91)) (Law7.Awake_ok et91) rfl rfl ?_
  have ehs0_13_0 := hr1 _ (Option.some.inj hs0_13).symm
  subst ehs0_13_0
  conv => whnf
  exact Returns.pure (r := .lit (.bool t91)) rfl rfl rfl rfl ⟨rfl, rfl⟩

end Go.Q
