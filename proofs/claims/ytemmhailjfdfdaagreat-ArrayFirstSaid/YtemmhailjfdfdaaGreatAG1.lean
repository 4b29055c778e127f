import Derived.Test.YtemmhailjfdfdaaGreatAGE
import Derived.Test.YtemmhailjfdfdaaGreatFX
import Derived.Test.YtemmhailjfdfdaaGreatFY
import Derived.Test.YtemmhailjfdfdaaGreatProg
namespace Go.Q
open Go Go.Proofs
set_option maxRecDepth 10000
set_option maxHeartbeats 2000000

noncomputable def Law7.isLarge.s0 (l0 : List api.Array) (i3 : Int) : Option (Int ⊕ Bool) :=
  letk ((l0.length : Int)) fun t6 =>
  letk (decide (i3 < t6)) fun t7 =>
  bif t7 then
    chk (0 ≤ i3) <|
    Option.bind (l0[i3.toNat]?) fun t12 =>
    letk ((t12.Elems.length : Int)) fun t15 =>
    letk (decide (t15 > (400 : Int))) fun t16 =>
    bif t16 then
      some (.inr true)
    else
      chk (0 ≤ i3) <|
      Option.bind (l0[i3.toNat]?) fun t20 =>
      letk ((t20.Shape.length : Int)) fun t23 =>
      letk (decide (t23 > (50 : Int))) fun t24 =>
      bif t24 then
        some (.inr true)
      else
        letk (IntKind.i64.wrap (i3 + (1 : Int))) fun t9 =>
        some (.inl t9)
  else
    ((
    letk ((l0.length : Int)) fun t27 =>
    letk (decide (t27 > (10 : Int))) fun t28 =>
    some t28)).map .inr

noncomputable def Law7.isLarge.l0 (l0 : List api.Array) (i3 : Int) : Option Bool := loopO (fun v : Int => Law7.isLarge.s0 l0 v) i3
noncomputable def Law7.isLarge (l0 : List api.Array) : Option Bool :=
  Law7.isLarge.l0 l0 0

theorem Law7.isLarge_ok {l0 : List api.Array} {r : Bool} (h0 : Law7.isLarge l0 = some r) : Gives Tryz.prog 11 [.vs 3 (l0.map (api.Array.enc))] (.lit (.bool r)) := by
  unfold Law7.isLarge at h0
  refine ACalls.of_swp Tryz.func11 rfl (by decide) rfl (st0 := ⟨29, [(0, .vs 3 (l0.map (api.Array.enc)))], []⟩) rfl (bwp_ok (C := []) ?_)
  conv => whnf
  unfold Law7.isLarge.l0 at h0
  refine LoopB.of (σ := Int) (ρ := Bool) (fun v : Int => Law7.isLarge.s0 l0 v) (fun v => (⟨29, [(0, .vs 3 (l0.map (api.Array.enc))), (3, J v)], []⟩ : St)) 0 h0 (BackS.by rfl (Sees.e ⟨.s, .s, trivial⟩)) ?_
  rintro K1 i3 x1 hs0_0 hl1 hr1
  replace hs0_0 : Law7.isLarge.s0 l0 i3 = some x1 := hs0_0
  unfold Law7.isLarge.s0 at hs0_0
  change bwp _ _ _ _ _ (⟨29, [(0, .vs 3 (l0.map (api.Array.enc))), (3, J i3)], []⟩ : St)
  obtain ⟨t6, et6, hs0_1⟩ := letk_elim hs0_0
  conv => whnf
  refine Nm.mk ⟨t6, by rw [et6, List.length_map], ?_⟩
  obtain ⟨t7, et7, hs0_2⟩ := letk_elim hs0_1
  conv => whnf
  refine Nm.mk ⟨t7, et7, ?_⟩
  rcases t7 with _ | _
  · have hs0_3 := bif_f hs0_2
    obtain ⟨yhs0_3_0, hs0_3u, ehs0_3_0⟩ := map_elim hs0_3
    have ehs0_3_0 := (hr1 _ ehs0_3_0.symm).symm
    subst ehs0_3_0
    obtain ⟨t27, et27, hs0_3u0⟩ := letk_elim hs0_3u
    conv => whnf
    refine Nm.mk ⟨t27, by rw [et27, List.length_map], ?_⟩
    obtain ⟨t28, et28, hs0_3u1⟩ := letk_elim hs0_3u0
    conv => whnf
    refine Nm.mk ⟨t28, et28, ?_⟩
    have ehs0_3u1_0 := Option.some.inj hs0_3u1
    subst ehs0_3u1_0
    conv => whnf
    exact Returns.pure (r := .lit (.bool t28)) rfl rfl rfl rfl ⟨rfl, rfl⟩
  have hs0_3 := bif_t hs0_2
  obtain ⟨chs0_4, hs0_4⟩ := chk_elim hs0_3
  obtain ⟨t12, et12, hs0_5⟩ := bind_elim hs0_4
  conv => whnf
  refine Side.mk chs0_4 ?_
  conv => whnf
  refine At.by et12 ?_
  obtain ⟨t15, et15, hs0_6⟩ := letk_elim hs0_5
  conv => whnf
  refine Nm.mk ⟨t15, by rw [et15, List.length_map], ?_⟩
  obtain ⟨t16, et16, hs0_7⟩ := letk_elim hs0_6
  conv => whnf
  refine Nm.mk ⟨t16, et16, ?_⟩
  rcases t16 with _ | _
  · have hs0_8 := bif_f hs0_7
    obtain ⟨chs0_9, hs0_9⟩ := chk_elim hs0_8
    obtain ⟨t20, et20, hs0_10⟩ := bind_elim hs0_9
    conv => whnf
    refine Side.mk chs0_9 ?_
    conv => whnf
    refine At.by et20 ?_
    obtain ⟨t23, et23, hs0_11⟩ := letk_elim hs0_10
    conv => whnf
    refine Nm.mk ⟨t23, by rw [et23, List.length_map], ?_⟩
    obtain ⟨t24, et24, hs0_12⟩ := letk_elim hs0_11
    conv => whnf
    refine Nm.mk ⟨t24, et24, ?_⟩
    rcases t24 with _ | _
    · have hs0_13 := bif_f hs0_12
      obtain ⟨t9, et9, hs0_14⟩ := letk_elim hs0_13
      conv => whnf
      refine Nm.mk ⟨t9, et9, ?_⟩
      exact BackS.by ⟨_, hl1 _ (Option.some.inj hs0_14).symm, rfl⟩ (Sees.e ⟨.s, .s, trivial⟩)
    have hs0_13 := bif_t hs0_12
    have ehs0_13_0 := hr1 _ (Option.some.inj hs0_13).symm
    subst ehs0_13_0
    conv => whnf
    exact Returns.pure (r := .lit (.bool true)) rfl rfl rfl rfl ⟨rfl, rfl⟩
  have hs0_8 := bif_t hs0_7
  have ehs0_8_0 := hr1 _ (Option.some.inj hs0_8).symm
  subst ehs0_8_0
  conv => whnf
  exact Returns.pure (r := .lit (.bool true)) rfl rfl rfl rfl ⟨rfl, rfl⟩

noncomputable def Arr.Names  : Option ((List ByteArray)) :=
  some ([⟨#[97, 98, 115]⟩, ⟨#[97, 108, 108]⟩, ⟨#[97, 110, 121]⟩, ⟨#[99, 111, 117, 110, 116]⟩, ⟨#[99, 115, 104, 105, 102, 116]⟩, ⟨#[100, 98, 108, 101]⟩, ⟨#[105, 110, 116]⟩, ⟨#[109, 97, 116, 109, 117, 108]⟩, ⟨#[109, 97, 120]⟩, ⟨#[109, 97, 120, 108, 111, 99]⟩, ⟨#[109, 97, 120, 118, 97, 108]⟩, ⟨#[109, 101, 114, 103, 101]⟩, ⟨#[109, 105, 110]⟩, ⟨#[109, 105, 110, 108, 111, 99]⟩, ⟨#[109, 105, 110, 118, 97, 108]⟩, ⟨#[109, 111, 100]⟩, ⟨#[112, 97, 99, 107]⟩, ⟨#[112, 114, 111, 100, 117, 99, 116]⟩, ⟨#[114, 101, 97, 108]⟩, ⟨#[114, 101, 115, 104, 97, 112, 101]⟩, ⟨#[115, 104, 97, 112, 101]⟩, ⟨#[115, 105, 122, 101]⟩, ⟨#[115, 112, 114, 101, 97, 100]⟩, ⟨#[115, 113, 114, 116]⟩, ⟨#[115, 117, 109]⟩, ⟨#[116, 114, 97, 110, 115, 112, 111, 115, 101]⟩])

theorem Arr.Names_ok {r : (List ByteArray)} (h0 : Arr.Names = some r) : Gives Tryz.prog 16 [] (.vs 1 (r.map (eS))) := by
  unfold Arr.Names at h0
  refine ACalls.of_swp Tryz.func16 rfl (by decide) rfl (st0 := ⟨2, [], []⟩) rfl (bwp_ok (C := []) ?_)
  conv => whnf
  refine Gate.go ?_
  conv => whnf
  refine Nm.mk ⟨([⟨#[97, 98, 115]⟩, ⟨#[97, 108, 108]⟩, ⟨#[97, 110, 121]⟩, ⟨#[99, 111, 117, 110, 116]⟩, ⟨#[99, 115, 104, 105, 102, 116]⟩, ⟨#[100, 98, 108, 101]⟩, ⟨#[105, 110, 116]⟩, ⟨#[109, 97, 116, 109, 117, 108]⟩, ⟨#[109, 97, 120]⟩, ⟨#[109, 97, 120, 108, 111, 99]⟩, ⟨#[109, 97, 120, 118, 97, 108]⟩, ⟨#[109, 101, 114, 103, 101]⟩, ⟨#[109, 105, 110]⟩, ⟨#[109, 105, 110, 108, 111, 99]⟩, ⟨#[109, 105, 110, 118, 97, 108]⟩, ⟨#[109, 111, 100]⟩, ⟨#[112, 97, 99, 107]⟩, ⟨#[112, 114, 111, 100, 117, 99, 116]⟩, ⟨#[114, 101, 97, 108]⟩, ⟨#[114, 101, 115, 104, 97, 112, 101]⟩, ⟨#[115, 104, 97, 112, 101]⟩, ⟨#[115, 105, 122, 101]⟩, ⟨#[115, 112, 114, 101, 97, 100]⟩, ⟨#[115, 113, 114, 116]⟩, ⟨#[115, 117, 109]⟩, ⟨#[116, 114, 97, 110, 115, 112, 111, 115, 101]⟩]).map (eS), rfl, ?_⟩
  have eh0_0 := Option.some.inj h0
  subst eh0_0
  conv => whnf
  exact Returns.frozen (r := .vs 1 (([⟨#[97, 98, 115]⟩, ⟨#[97, 108, 108]⟩, ⟨#[97, 110, 121]⟩, ⟨#[99, 111, 117, 110, 116]⟩, ⟨#[99, 115, 104, 105, 102, 116]⟩, ⟨#[100, 98, 108, 101]⟩, ⟨#[105, 110, 116]⟩, ⟨#[109, 97, 116, 109, 117, 108]⟩, ⟨#[109, 97, 120]⟩, ⟨#[109, 97, 120, 108, 111, 99]⟩, ⟨#[109, 97, 120, 118, 97, 108]⟩, ⟨#[109, 101, 114, 103, 101]⟩, ⟨#[109, 105, 110]⟩, ⟨#[109, 105, 110, 108, 111, 99]⟩, ⟨#[109, 105, 110, 118, 97, 108]⟩, ⟨#[109, 111, 100]⟩, ⟨#[112, 97, 99, 107]⟩, ⟨#[112, 114, 111, 100, 117, 99, 116]⟩, ⟨#[114, 101, 97, 108]⟩, ⟨#[114, 101, 115, 104, 97, 112, 101]⟩, ⟨#[115, 104, 97, 112, 101]⟩, ⟨#[115, 105, 122, 101]⟩, ⟨#[115, 112, 114, 101, 97, 100]⟩, ⟨#[115, 113, 114, 116]⟩, ⟨#[115, 117, 109]⟩, ⟨#[116, 114, 97, 110, 115, 112, 111, 115, 101]⟩]).map (eS))) [0] rfl rfl (WV.all (k := 0) (by decide) rfl) ⟨rfl, rfl⟩

noncomputable def Slcs.Index___string_string_.s0 (s0 : List ByteArray) (v1 : ByteArray) (t7 t8 : Int) : Option (Int ⊕ Int) :=
  letk (decide (t8 < t7)) fun t9 =>
  bif t9 then
    chk (0 ≤ t8) <|
    Option.bind (s0[t8.toNat]?) fun t14 =>
    letk (v1.toList == t14.toList) fun t16 =>
    bif t16 then
      some (.inr t8)
    else
      letk (IntKind.i64.wrap (t8 + (1 : Int))) fun t18 =>
      some (.inl t18)
  else
    some (.inr (-1))

noncomputable def Slcs.Index___string_string_.l0 (s0 : List ByteArray) (v1 : ByteArray) (t7 t8 : Int) : Option Int := loopO (fun v : Int => Slcs.Index___string_string_.s0 s0 v1 t7 v) t8
theorem Slcs.Index___string_string_.l0_eq (s0 : List ByteArray) (v1 : ByteArray) (t7 t8 : Int) : Slcs.Index___string_string_.l0 s0 v1 t7 t8 = (Slcs.Index___string_string_.s0 s0 v1 t7 t8).bind (Sum.elim (fun v => Slcs.Index___string_string_.l0 s0 v1 t7 v) some) := loopO_eq _ _

noncomputable def Slcs.Index___string_string_ (s0 : List ByteArray) (v1 : ByteArray) : Option Int :=
  letk ((s0.length : Int)) fun t7 =>
  Slcs.Index___string_string_.l0 s0 v1 t7 0

theorem Slcs.Index___string_string__ok {s0 : List ByteArray} {v1 : ByteArray} {r : Int} (h0 : Slcs.Index___string_string_ s0 v1 = some r) : Gives Tryz.prog 104 [.vs 1 (s0.map (eS)), .lit (.string v1)] (J r) := by
  unfold Slcs.Index___string_string_ at h0
  refine ACalls.of_swp Tryz.func104 rfl (by decide) rfl (st0 := ⟨19, [(0, .vs 1 (s0.map (eS))), (1, .lit (.string v1))], []⟩) rfl (bwp_ok (C := []) ?_)
  obtain ⟨t7, et7, h1⟩ := letk_elim h0
  conv => whnf
  refine Nm.mk ⟨t7, by rw [et7, List.length_map], ?_⟩
  conv => whnf
  unfold Slcs.Index___string_string_.l0 at h1
  refine LoopB.of (σ := Int) (ρ := Int) (fun v : Int => Slcs.Index___string_string_.s0 s0 v1 t7 v) (fun v => (⟨19, [(0, .vs 1 (s0.map (eS))), (1, .lit (.string v1)), (7, J t7), (8, J v)], []⟩ : St)) 0 h1 (BackS.by rfl (Sees.e ⟨.s, .s, .s, .s, trivial⟩)) ?_
  rintro K1 t8 x1 hs0_0 hl1 hr1
  replace hs0_0 : Slcs.Index___string_string_.s0 s0 v1 t7 t8 = some x1 := hs0_0
  unfold Slcs.Index___string_string_.s0 at hs0_0
  change bwp _ _ _ _ _ (⟨19, [(0, .vs 1 (s0.map (eS))), (1, .lit (.string v1)), (7, J t7), (8, J t8)], []⟩ : St)
  obtain ⟨t9, et9, hs0_1⟩ := letk_elim hs0_0
  conv => whnf
  refine Nm.mk ⟨t9, et9, ?_⟩
  rcases t9 with _ | _
  · have hs0_2 := bif_f hs0_1
    have ehs0_2u_0 := hr1 _ (Option.some.inj hs0_2).symm
    have hs0_2u := congrArg some ehs0_2u_0
    have ehs0_2u_0 := Option.some.inj hs0_2u
    subst ehs0_2u_0
    conv => whnf
    exact Returns.pure (r := J ((-1))) rfl rfl rfl rfl ⟨rfl, rfl⟩
  have hs0_2 := bif_t hs0_1
  obtain ⟨chs0_3, hs0_3⟩ := chk_elim hs0_2
  obtain ⟨t14, et14, hs0_4⟩ := bind_elim hs0_3
  conv => whnf
  refine Side.mk chs0_3 ?_
  conv => whnf
  refine At.by et14 ?_
  obtain ⟨t16, et16, hs0_5⟩ := letk_elim hs0_4
  conv => whnf
  refine Nm.mk ⟨t16, et16, ?_⟩
  rcases t16 with _ | _
  · have hs0_6 := bif_f hs0_5
    obtain ⟨t18, et18, hs0_7⟩ := letk_elim hs0_6
    conv => whnf
    refine Nm.mk ⟨t18, et18, ?_⟩
    exact BackS.by ⟨_, hl1 _ (Option.some.inj hs0_7).symm, rfl⟩ (Sees.e ⟨.s, .s, .s, .s, trivial⟩)
  have hs0_6 := bif_t hs0_5
  have ehs0_6_0 := hr1 _ (Option.some.inj hs0_6).symm
  subst ehs0_6_0
  conv => whnf
  exact Returns.pure (r := J t8) rfl rfl rfl rfl ⟨rfl, rfl⟩

noncomputable def Slcs.Contains___string_string_ (s0 : List ByteArray) (v1 : ByteArray) : Option Bool :=
  Option.bind (Slcs.Index___string_string_ s0 v1) fun t7 =>
  letk (decide (t7 ≥ (0 : Int))) fun t8 =>
  some t8

theorem Slcs.Contains___string_string__ok {s0 : List ByteArray} {v1 : ByteArray} {r : Bool} (h0 : Slcs.Contains___string_string_ s0 v1 = some r) : Gives Tryz.prog 50 [.vs 1 (s0.map (eS)), .lit (.string v1)] (.lit (.bool r)) := by
  unfold Slcs.Contains___string_string_ at h0
  refine ACalls.of_swp Tryz.func50 rfl (by decide) rfl (st0 := ⟨9, [(0, .vs 1 (s0.map (eS))), (1, .lit (.string v1))], []⟩) rfl (bwp_ok (C := []) ?_)
  obtain ⟨t7, et7, h1⟩ := bind_elim h0
  conv => whnf
  refine Gate.go ?_
  conv => whnf
  refine CallN.by (v := J t7) (Slcs.Index___string_string__ok et7) rfl rfl ?_
  obtain ⟨t8, et8, h2⟩ := letk_elim h1
  conv => whnf
  refine Nm.mk ⟨t8, et8, ?_⟩
  have eh2_0 := Option.some.inj h2
  subst eh2_0
  conv => whnf
  exact Returns.pure (r := .lit (.bool t8)) rfl rfl rfl rfl ⟨rfl, rfl⟩

noncomputable def Arr.Arity.j0 (name0 : ByteArray) : Option (Int × Int) :=
  Option.bind (Arr.Names) fun t16 =>
  Option.bind (Slcs.Contains___string_string_ t16 name0) fun t18 =>
  bif t18 then
    some (1, 1)
  else
    some (0, 0)

noncomputable def Arr.Arity.j1 (name0 : ByteArray) (t5 : Bool) : Option (Int × Int) :=
  bif t5 then
    some (2, 2)
  else
    letk (name0.toList == (⟨#[109, 101, 114, 103, 101]⟩ : ByteArray).toList) fun t15 =>
    bif t15 then
      some (3, 3)
    else
      Arr.Arity.j0 name0

noncomputable def Arr.Arity (name0 : ByteArray) : Option (Int × Int) :=
  letk (name0.toList == (⟨#[109, 97, 120]⟩ : ByteArray).toList) fun t6 =>
  bif t6 then
    Arr.Arity.j1 name0 true
  else
    letk (name0.toList == (⟨#[109, 105, 110]⟩ : ByteArray).toList) fun t7 =>
    bif t7 then
      Arr.Arity.j1 name0 true
    else
      letk (name0.toList == (⟨#[109, 111, 100]⟩ : ByteArray).toList) fun t8 =>
      bif t8 then
        Arr.Arity.j1 name0 true
      else
        letk (name0.toList == (⟨#[99, 115, 104, 105, 102, 116]⟩ : ByteArray).toList) fun t9 =>
        bif t9 then
          Arr.Arity.j1 name0 true
        else
          letk (name0.toList == (⟨#[109, 97, 116, 109, 117, 108]⟩ : ByteArray).toList) fun t10 =>
          bif t10 then
            Arr.Arity.j1 name0 true
          else
            letk (name0.toList == (⟨#[112, 97, 99, 107]⟩ : ByteArray).toList) fun t11 =>
            bif t11 then
              Arr.Arity.j1 name0 true
            else
              letk (name0.toList == (⟨#[114, 101, 115, 104, 97, 112, 101]⟩ : ByteArray).toList) fun t12 =>
              bif t12 then
                Arr.Arity.j1 name0 true
              else
                letk (name0.toList == (⟨#[115, 112, 114, 101, 97, 100]⟩ : ByteArray).toList) fun t13 =>
                Arr.Arity.j1 name0 t13

theorem Arr.Arity_ok {name0 : ByteArray} {r : Int × Int} (h0 : Arr.Arity name0 = some r) : Gives Tryz.prog 18 [.lit (.string name0)] (.tup [J r.1, J r.2]) := by
  unfold Arr.Arity at h0
  refine ACalls.of_swp Tryz.func18 rfl (by decide) rfl (st0 := ⟨19, [(0, .lit (.string name0))], []⟩) rfl (bwp_ok (C := [(0, 13), (15, 21)]) ?_)
  conv => whnf
  refine CutN.of (fun s => Arr.Arity.j0 name0 = some r ∧ s = (⟨19, [(0, .lit (.string name0))], []⟩ : St)) ?_ ?_
  · conv => whnf
    refine CutN.of (fun s => ∃ (t5 : Bool), Arr.Arity.j1 name0 t5 = some r ∧ s = (⟨19, [(0, .lit (.string name0)), (4, .lit (.string name0)), (5, .lit (.bool t5))], []⟩ : St)) ?_ ?_
    · obtain ⟨t6, et6, h1⟩ := letk_elim h0
      conv => whnf
      refine Nm.mk ⟨t6, et6, ?_⟩
      rcases t6 with _ | _
      · have h2 := bif_f h1
        obtain ⟨t7, et7, h3⟩ := letk_elim h2
        conv => whnf
        refine Nm.mk ⟨t7, et7, ?_⟩
        rcases t7 with _ | _
        · have h4 := bif_f h3
          obtain ⟨t8, et8, h5⟩ := letk_elim h4
          conv => whnf
          refine Nm.mk ⟨t8, et8, ?_⟩
          rcases t8 with _ | _
          · have h6 := bif_f h5
            obtain ⟨t9, et9, h7⟩ := letk_elim h6
            conv => whnf
            refine Nm.mk ⟨t9, et9, ?_⟩
            rcases t9 with _ | _
            · have h8 := bif_f h7
              obtain ⟨t10, et10, h9⟩ := letk_elim h8
              conv => whnf
              refine Nm.mk ⟨t10, et10, ?_⟩
              rcases t10 with _ | _
              · have h10 := bif_f h9
                obtain ⟨t11, et11, h11⟩ := letk_elim h10
                conv => whnf
                refine Nm.mk ⟨t11, et11, ?_⟩
                rcases t11 with _ | _
                · have h12 := bif_f h11
                  obtain ⟨t12, et12, h13⟩ := letk_elim h12
                  conv => whnf
                  refine Nm.mk ⟨t12, et12, ?_⟩
                  rcases t12 with _ | _
                  · have h14 := bif_f h13
                    obtain ⟨t13, et13, h15⟩ := letk_elim h14
                    conv => whnf
                    refine Nm.mk ⟨t13, et13, ?_⟩
                    exact BackS.by ⟨_, h15, rfl⟩ (Sees.e ⟨.s, .s, .s, trivial⟩)
                  have h14 := bif_t h13
                  exact BackS.by ⟨_, h14, rfl⟩ (Sees.e ⟨.s, .s, .s, trivial⟩)
                have h12 := bif_t h11
                exact BackS.by ⟨_, h12, rfl⟩ (Sees.e ⟨.s, .s, .s, trivial⟩)
              have h10 := bif_t h9
              exact BackS.by ⟨_, h10, rfl⟩ (Sees.e ⟨.s, .s, .s, trivial⟩)
            have h8 := bif_t h7
            exact BackS.by ⟨_, h8, rfl⟩ (Sees.e ⟨.s, .s, .s, trivial⟩)
          have h6 := bif_t h5
          exact BackS.by ⟨_, h6, rfl⟩ (Sees.e ⟨.s, .s, .s, trivial⟩)
        have h4 := bif_t h3
        exact BackS.by ⟨_, h4, rfl⟩ (Sees.e ⟨.s, .s, .s, trivial⟩)
      have h2 := bif_t h1
      exact BackS.by ⟨_, h2, rfl⟩ (Sees.e ⟨.s, .s, .s, trivial⟩)
    rintro s ⟨t5, hj0, rfl⟩
    unfold Arr.Arity.j1 at hj0
    rcases t5 with _ | _
    · have hj1 := bif_f hj0
      obtain ⟨t15, et15, hj2⟩ := letk_elim hj1
      conv => whnf
      refine Nm.mk ⟨t15, et15, ?_⟩
      rcases t15 with _ | _
      · have hj3 := bif_f hj2
        exact BackS.by ⟨hj3, rfl⟩ (Sees.e ⟨.s, trivial⟩)
      have hj3 := bif_t hj2
      have ehj3_0 := Option.some.inj hj3
      subst ehj3_0
      conv => whnf
      exact Returns.pure (r := .tup [J 3, J 3]) rfl rfl rfl rfl ⟨rfl, rfl⟩
    have hj1 := bif_t hj0
    have ehj1_0 := Option.some.inj hj1
    subst ehj1_0
    conv => whnf
    exact Returns.pure (r := .tup [J 2, J 2]) rfl rfl rfl rfl ⟨rfl, rfl⟩
  rintro s ⟨hj0, rfl⟩
  unfold Arr.Arity.j0 at hj0
  obtain ⟨t16, et16, hj1⟩ := bind_elim hj0
  conv => whnf
  refine Gate.go ?_
  conv => whnf
  refine CallN.by (v := .vs 1 (t16.map (eS))) (Arr.Names_ok et16) rfl rfl ?_
  obtain ⟨t18, et18, hj2⟩ := bind_elim hj1
  conv => whnf
  refine Gate.go ?_
  conv => whnf
  refine CallN.by (v := .lit (.bool t18)) (Slcs.Contains___string_string__ok et18) rfl rfl ?_
  rcases t18 with _ | _
  · have hj3 := bif_f hj2
    have ehj3_0 := Option.some.inj hj3
    subst ehj3_0
    conv => whnf
    exact Returns.pure (r := .tup [J 0, J 0]) rfl rfl rfl rfl ⟨rfl, rfl⟩
  have hj3 := bif_t hj2
  have ehj3_0 := Option.some.inj hj3
  subst ehj3_0
  conv => whnf
  exact Returns.pure (r := .tup [J 1, J 1]) rfl rfl rfl rfl ⟨rfl, rfl⟩

noncomputable def Slcs.IndexFunc___quadrat_api.Array_quadrat_api.Array_.s0 (s0 : List api.Array) (t7 : Int) (f1 : api.Array → Option Bool) (t8 : Int) : Option (Int ⊕ Int) :=
  letk (decide (t8 < t7)) fun t9 =>
  bif t9 then
    chk (0 ≤ t8) <|
    Option.bind (s0[t8.toNat]?) fun t14 =>
    Option.bind (f1 t14) fun t16 =>
    bif t16 then
      some (.inr t8)
    else
      letk (IntKind.i64.wrap (t8 + (1 : Int))) fun t18 =>
      some (.inl t18)
  else
    some (.inr (-1))

noncomputable def Slcs.IndexFunc___quadrat_api.Array_quadrat_api.Array_.l0 (s0 : List api.Array) (t7 : Int) (f1 : api.Array → Option Bool) (t8 : Int) : Option Int := loopO (fun v : Int => Slcs.IndexFunc___quadrat_api.Array_quadrat_api.Array_.s0 s0 t7 f1 v) t8
noncomputable def Slcs.IndexFunc___quadrat_api.Array_quadrat_api.Array_ (s0 : List api.Array) (f1 : api.Array → Option Bool) : Option Int :=
  letk ((s0.length : Int)) fun t7 =>
  Slcs.IndexFunc___quadrat_api.Array_quadrat_api.Array_.l0 s0 t7 f1 0

theorem Slcs.IndexFunc___quadrat_api.Array_quadrat_api.Array__ok {s0 : List api.Array} {f1 : api.Array → Option Bool} {r : Int} {f1g : Nat} {f1gc : List AV} (hf1gc : f1gc.all pureQ.pureQ0 = true) (hf1 : ∀ a0 r, f1 a0 = some r → Gives Tryz.prog f1g ([api.Array.enc a0] ++ f1gc) (.lit (.bool r))) (h0 : Slcs.IndexFunc___quadrat_api.Array_quadrat_api.Array_ s0 f1 = some r) : Gives Tryz.prog 78 [.vs 3 (s0.map (api.Array.enc)), .fn (.func f1g) [] f1gc] (J r) := by
  unfold Slcs.IndexFunc___quadrat_api.Array_quadrat_api.Array_ at h0
  refine ACalls.of_swp Tryz.func78 rfl (by decide) rfl (st0 := ⟨19, [(0, .vs 3 (s0.map (api.Array.enc))), (1, .fn (.func f1g) [] f1gc)], []⟩) rfl (bwp_ok (C := []) ?_)
  obtain ⟨t7, et7, h1⟩ := letk_elim h0
  conv => whnf
  refine Nm.mk ⟨t7, by rw [et7, List.length_map], ?_⟩
  conv => whnf
  unfold Slcs.IndexFunc___quadrat_api.Array_quadrat_api.Array_.l0 at h1
  refine LoopB.of (σ := Int) (ρ := Int) (fun v : Int => Slcs.IndexFunc___quadrat_api.Array_quadrat_api.Array_.s0 s0 t7 f1 v) (fun v => (⟨19, [(0, .vs 3 (s0.map (api.Array.enc))), (1, .fn (.func f1g) [] f1gc), (7, J t7), (8, J v)], []⟩ : St)) 0 h1 (BackS.by rfl (Sees.e ⟨.s, (.same _ (fnq hf1gc)), .s, .s, trivial⟩)) ?_
  rintro K1 t8 x1 hs0_0 hl1 hr1
  replace hs0_0 : Slcs.IndexFunc___quadrat_api.Array_quadrat_api.Array_.s0 s0 t7 f1 t8 = some x1 := hs0_0
  unfold Slcs.IndexFunc___quadrat_api.Array_quadrat_api.Array_.s0 at hs0_0
  change bwp _ _ _ _ _ (⟨19, [(0, .vs 3 (s0.map (api.Array.enc))), (1, .fn (.func f1g) [] f1gc), (7, J t7), (8, J t8)], []⟩ : St)
  obtain ⟨t9, et9, hs0_1⟩ := letk_elim hs0_0
  conv => whnf
  refine Nm.mk ⟨t9, et9, ?_⟩
  rcases t9 with _ | _
  · have hs0_2 := bif_f hs0_1
    have ehs0_2u_0 := hr1 _ (Option.some.inj hs0_2).symm
    have hs0_2u := congrArg some ehs0_2u_0
    have ehs0_2u_0 := Option.some.inj hs0_2u
    subst ehs0_2u_0
    conv => whnf
    exact Returns.pure (r := J ((-1))) rfl rfl rfl rfl ⟨rfl, rfl⟩
  have hs0_2 := bif_t hs0_1
  obtain ⟨chs0_3, hs0_3⟩ := chk_elim hs0_2
  obtain ⟨t14, et14, hs0_4⟩ := bind_elim hs0_3
  conv => whnf
  refine Side.mk chs0_3 ?_
  conv => whnf
  refine At.by et14 ?_
  obtain ⟨t16, et16, hs0_5⟩ := bind_elim hs0_4
  conv => whnf
  refine Gate.go ?_
  conv => whnf
  refine CallN.by (v := .lit (.bool t16)) (hf1 _ _ et16) (allq_app rfl hf1gc) rfl ?_
  rcases t16 with _ | _
  · have hs0_6 := bif_f hs0_5
    obtain ⟨t18, et18, hs0_7⟩ := letk_elim hs0_6
    conv => whnf
    refine Nm.mk ⟨t18, et18, ?_⟩
    exact BackS.by ⟨_, hl1 _ (Option.some.inj hs0_7).symm, rfl⟩ (Sees.e ⟨.s, (.same _ (fnq hf1gc)), .s, .s, trivial⟩)
  have hs0_6 := bif_t hs0_5
  have ehs0_6_0 := hr1 _ (Option.some.inj hs0_6).symm
  subst ehs0_6_0
  conv => whnf
  exact Returns.pure (r := J t8) rfl rfl rfl rfl ⟨rfl, rfl⟩

noncomputable def Slcs.ContainsFunc___quadrat_api.Array_quadrat_api.Array_ (s0 : List api.Array) (f1 : api.Array → Option Bool) : Option Bool :=
  Option.bind (Slcs.IndexFunc___quadrat_api.Array_quadrat_api.Array_ s0 f1) fun t7 =>
  letk (decide (t7 ≥ (0 : Int))) fun t8 =>
  some t8

theorem Slcs.ContainsFunc___quadrat_api.Array_quadrat_api.Array__ok {s0 : List api.Array} {f1 : api.Array → Option Bool} {r : Bool} {f1g : Nat} {f1gc : List AV} (hf1gc : f1gc.all pureQ.pureQ0 = true) (hf1 : ∀ a0 r, f1 a0 = some r → Gives Tryz.prog f1g ([api.Array.enc a0] ++ f1gc) (.lit (.bool r))) (h0 : Slcs.ContainsFunc___quadrat_api.Array_quadrat_api.Array_ s0 f1 = some r) : Gives Tryz.prog 37 [.vs 3 (s0.map (api.Array.enc)), .fn (.func f1g) [] f1gc] (.lit (.bool r)) := by
  unfold Slcs.ContainsFunc___quadrat_api.Array_quadrat_api.Array_ at h0
  refine ACalls.of_swp Tryz.func37 rfl (by decide) rfl (st0 := ⟨9, [(0, .vs 3 (s0.map (api.Array.enc))), (1, .fn (.func f1g) [] f1gc)], []⟩) rfl (bwp_ok (C := []) ?_)
  obtain ⟨t7, et7, h1⟩ := bind_elim h0
  conv => whnf
  refine Gate.go ?_
  conv => whnf
  refine CallN.by (v := J t7) (Slcs.IndexFunc___quadrat_api.Array_quadrat_api.Array__ok hf1gc (fun _ r h => hf1 _ r h) et7) (allq_cons rfl (allq_cons (fnq hf1gc) rfl)) rfl ?_
  obtain ⟨t8, et8, h2⟩ := letk_elim h1
  conv => whnf
  refine Nm.mk ⟨t8, et8, ?_⟩
  have eh2_0 := Option.some.inj h2
  subst eh2_0
  conv => whnf
  exact Returns.pure (r := .lit (.bool t8)) rfl rfl rfl rfl ⟨rfl, rfl⟩

noncomputable def Slcs.IndexFunc___int_int_.s0 (s0 : List Int) (t7 : Int) (f1 : Int → Option Bool) (t8 : Int) : Option (Int ⊕ Int) :=
  letk (decide (t8 < t7)) fun t9 =>
  bif t9 then
    chk (0 ≤ t8) <|
    Option.bind (s0[t8.toNat]?) fun t14 =>
    Option.bind (f1 t14) fun t16 =>
    bif t16 then
      some (.inr t8)
    else
      letk (IntKind.i64.wrap (t8 + (1 : Int))) fun t18 =>
      some (.inl t18)
  else
    some (.inr (-1))

noncomputable def Slcs.IndexFunc___int_int_.l0 (s0 : List Int) (t7 : Int) (f1 : Int → Option Bool) (t8 : Int) : Option Int := loopO (fun v : Int => Slcs.IndexFunc___int_int_.s0 s0 t7 f1 v) t8
noncomputable def Slcs.IndexFunc___int_int_ (s0 : List Int) (f1 : Int → Option Bool) : Option Int :=
  letk ((s0.length : Int)) fun t7 =>
  Slcs.IndexFunc___int_int_.l0 s0 t7 f1 0

theorem Slcs.IndexFunc___int_int__ok {s0 : List Int} {f1 : Int → Option Bool} {r : Int} {f1g : Nat} {f1gc : List AV} (hf1gc : f1gc.all pureQ.pureQ0 = true) (hf1 : ∀ a0 r, f1 a0 = some r → Gives Tryz.prog f1g ([J a0] ++ f1gc) (.lit (.bool r))) (h0 : Slcs.IndexFunc___int_int_ s0 f1 = some r) : Gives Tryz.prog 107 [.vs 1 (s0.map (eI .i64)), .fn (.func f1g) [] f1gc] (J r) := by
  unfold Slcs.IndexFunc___int_int_ at h0
  refine ACalls.of_swp Tryz.func107 rfl (by decide) rfl (st0 := ⟨19, [(0, .vs 1 (s0.map (eI .i64))), (1, .fn (.func f1g) [] f1gc)], []⟩) rfl (bwp_ok (C := []) ?_)
  obtain ⟨t7, et7, h1⟩ := letk_elim h0
  conv => whnf
  refine Nm.mk ⟨t7, by rw [et7, List.length_map], ?_⟩
  conv => whnf
  unfold Slcs.IndexFunc___int_int_.l0 at h1
  refine LoopB.of (σ := Int) (ρ := Int) (fun v : Int => Slcs.IndexFunc___int_int_.s0 s0 t7 f1 v) (fun v => (⟨19, [(0, .vs 1 (s0.map (eI .i64))), (1, .fn (.func f1g) [] f1gc), (7, J t7), (8, J v)], []⟩ : St)) 0 h1 (BackS.by rfl (Sees.e ⟨.s, (.same _ (fnq hf1gc)), .s, .s, trivial⟩)) ?_
  rintro K1 t8 x1 hs0_0 hl1 hr1
  replace hs0_0 : Slcs.IndexFunc___int_int_.s0 s0 t7 f1 t8 = some x1 := hs0_0
  unfold Slcs.IndexFunc___int_int_.s0 at hs0_0
  change bwp _ _ _ _ _ (⟨19, [(0, .vs 1 (s0.map (eI .i64))), (1, .fn (.func f1g) [] f1gc), (7, J t7), (8, J t8)], []⟩ : St)
  obtain ⟨t9, et9, hs0_1⟩ := letk_elim hs0_0
  conv => whnf
  refine Nm.mk ⟨t9, et9, ?_⟩
  rcases t9 with _ | _
  · have hs0_2 := bif_f hs0_1
    have ehs0_2u_0 := hr1 _ (Option.some.inj hs0_2).symm
    have hs0_2u := congrArg some ehs0_2u_0
    have ehs0_2u_0 := Option.some.inj hs0_2u
    subst ehs0_2u_0
    conv => whnf
    exact Returns.pure (r := J ((-1))) rfl rfl rfl rfl ⟨rfl, rfl⟩
  have hs0_2 := bif_t hs0_1
  obtain ⟨chs0_3, hs0_3⟩ := chk_elim hs0_2
  obtain ⟨t14, et14, hs0_4⟩ := bind_elim hs0_3
  conv => whnf
  refine Side.mk chs0_3 ?_
  conv => whnf
  refine At.by et14 ?_
  obtain ⟨t16, et16, hs0_5⟩ := bind_elim hs0_4
  conv => whnf
  refine Gate.go ?_
  conv => whnf
  refine CallN.by (v := .lit (.bool t16)) (hf1 _ _ et16) (allq_app rfl hf1gc) rfl ?_
  rcases t16 with _ | _
  · have hs0_6 := bif_f hs0_5
    obtain ⟨t18, et18, hs0_7⟩ := letk_elim hs0_6
    conv => whnf
    refine Nm.mk ⟨t18, et18, ?_⟩
    exact BackS.by ⟨_, hl1 _ (Option.some.inj hs0_7).symm, rfl⟩ (Sees.e ⟨.s, (.same _ (fnq hf1gc)), .s, .s, trivial⟩)
  have hs0_6 := bif_t hs0_5
  have ehs0_6_0 := hr1 _ (Option.some.inj hs0_6).symm
  subst ehs0_6_0
  conv => whnf
  exact Returns.pure (r := J t8) rfl rfl rfl rfl ⟨rfl, rfl⟩

noncomputable def Slcs.ContainsFunc___int_int_ (s0 : List Int) (f1 : Int → Option Bool) : Option Bool :=
  Option.bind (Slcs.IndexFunc___int_int_ s0 f1) fun t7 =>
  letk (decide (t7 ≥ (0 : Int))) fun t8 =>
  some t8

theorem Slcs.ContainsFunc___int_int__ok {s0 : List Int} {f1 : Int → Option Bool} {r : Bool} {f1g : Nat} {f1gc : List AV} (hf1gc : f1gc.all pureQ.pureQ0 = true) (hf1 : ∀ a0 r, f1 a0 = some r → Gives Tryz.prog f1g ([J a0] ++ f1gc) (.lit (.bool r))) (h0 : Slcs.ContainsFunc___int_int_ s0 f1 = some r) : Gives Tryz.prog 52 [.vs 1 (s0.map (eI .i64)), .fn (.func f1g) [] f1gc] (.lit (.bool r)) := by
  unfold Slcs.ContainsFunc___int_int_ at h0
  refine ACalls.of_swp Tryz.func52 rfl (by decide) rfl (st0 := ⟨9, [(0, .vs 1 (s0.map (eI .i64))), (1, .fn (.func f1g) [] f1gc)], []⟩) rfl (bwp_ok (C := []) ?_)
  obtain ⟨t7, et7, h1⟩ := bind_elim h0
  conv => whnf
  refine Gate.go ?_
  conv => whnf
  refine CallN.by (v := J t7) (Slcs.IndexFunc___int_int__ok hf1gc (fun _ r h => hf1 _ r h) et7) (allq_cons rfl (allq_cons (fnq hf1gc) rfl)) rfl ?_
  obtain ⟨t8, et8, h2⟩ := letk_elim h1
  conv => whnf
  refine Nm.mk ⟨t8, et8, ?_⟩
  have eh2_0 := Option.some.inj h2
  subst eh2_0
  conv => whnf
  exact Returns.pure (r := .lit (.bool t8)) rfl rfl rfl rfl ⟨rfl, rfl⟩

noncomputable def Sec.size_1 (n0 : Int) : Option Bool :=
  letk (decide (n0 < (0 : Int))) fun t4 =>
  bif t4 then
    some true
  else
    letk (decide (n0 > (4000 : Int))) fun t7 =>
    some t7

theorem Sec.size_1_ok {n0 : Int} {r : Bool} (h0 : Sec.size_1 n0 = some r) : Gives Tryz.prog 185 [J n0] (.lit (.bool r)) := by
  unfold Sec.size_1 at h0
  refine ACalls.of_swp Tryz.func185 rfl (by decide) rfl (st0 := ⟨9, [(0, J n0)], []⟩) rfl (bwp_ok (C := []) ?_)
  obtain ⟨t4, et4, h1⟩ := letk_elim h0
  conv => whnf
  refine Nm.mk ⟨t4, et4, ?_⟩
  rcases t4 with _ | _
  · have h2 := bif_f h1
    obtain ⟨t7, et7, h3⟩ := letk_elim h2
    conv => whnf
    refine Nm.mk ⟨t7, et7, ?_⟩
    have eh3_0 := Option.some.inj h3
    subst eh3_0
    conv => whnf
    exact Returns.pure (r := .lit (.bool t7)) rfl rfl rfl rfl ⟨rfl, rfl⟩
  have h2 := bif_t h1
  have eh2_0 := Option.some.inj h2
  subst eh2_0
  conv => whnf
  exact Returns.pure (r := .lit (.bool true)) rfl rfl rfl rfl ⟨rfl, rfl⟩

noncomputable def Sec.size.s0 (extents0 : List Int) (t14 n3 t15 : Int) : Option ((Int × Int) ⊕ Int) :=
  letk (decide (t15 < t14)) fun t16 =>
  bif t16 then
    chk (0 ≤ t15) <|
    Option.bind (extents0[t15.toNat]?) fun t17 =>
    letk (IntKind.i64.wrap (n3 * t17)) fun t21 =>
    letk (IntKind.i64.wrap (t15 + (1 : Int))) fun t22 =>
    some (.inl (t21, t22))
  else
    ((
    letk (decide (n3 > (4000 : Int))) fun t24 =>
    bif t24 then
      some (-1)
    else
      some n3)).map .inr

noncomputable def Sec.size.l0 (extents0 : List Int) (t14 n3 t15 : Int) : Option Int := loopO (fun v : Int × Int => Sec.size.s0 extents0 t14 v.1 v.2) (n3, t15)
noncomputable def Sec.size.j0 (extents0 : List Int) : Option Int :=
  letk ((extents0.length : Int)) fun t14 =>
  Sec.size.l0 extents0 t14 1 0

noncomputable def Sec.size (extents0 : List Int) : Option Int :=
  letk ((extents0.length : Int)) fun t7 =>
  letk (decide (t7 > (3 : Int))) fun t8 =>
  bif t8 then
    some (-1)
  else
    Option.bind (Slcs.ContainsFunc___int_int_ extents0 Sec.size_1) fun t11 =>
    bif t11 then
      some (-1)
    else
      Sec.size.j0 extents0

theorem Sec.size_ok {extents0 : List Int} {r : Int} (h0 : Sec.size extents0 = some r) : Gives Tryz.prog 138 [.vs 1 (extents0.map (eI .i64))] (J r) := by
  unfold Sec.size at h0
  refine ACalls.of_swp Tryz.func138 rfl (by decide) rfl (st0 := ⟨26, [(0, .vs 1 (extents0.map (eI .i64)))], []⟩) rfl (bwp_ok (C := [(0, 3)]) ?_)
  conv => whnf
  refine CutN.of (fun s => Sec.size.j0 extents0 = some r ∧ s = (⟨26, [(0, .vs 1 (extents0.map (eI .i64)))], []⟩ : St)) ?_ ?_
  · obtain ⟨t7, et7, h1⟩ := letk_elim h0
    conv => whnf
    refine Nm.mk ⟨t7, by rw [et7, List.length_map], ?_⟩
    obtain ⟨t8, et8, h2⟩ := letk_elim h1
    conv => whnf
    refine Nm.mk ⟨t8, et8, ?_⟩
    rcases t8 with _ | _
    · have h3 := bif_f h2
      obtain ⟨t11, et11, h4⟩ := bind_elim h3
      conv => whnf
      refine Gate.go ?_
      conv => whnf
      refine CallN.by (v := .lit (.bool t11)) (Slcs.ContainsFunc___int_int__ok (show List.all [] pureQ.pureQ0 = true from rfl) (fun _ r h => Sec.size_1_ok h) et11) rfl rfl ?_
      rcases t11 with _ | _
      · have h5 := bif_f h4
        exact BackS.by ⟨h5, rfl⟩ (Sees.e ⟨.s, trivial⟩)
      have h5 := bif_t h4
      have eh5_0 := Option.some.inj h5
      subst eh5_0
      conv => whnf
      exact Returns.pure (r := J ((-1))) rfl rfl rfl rfl ⟨rfl, rfl⟩
    have h3 := bif_t h2
    have eh3_0 := Option.some.inj h3
    subst eh3_0
    conv => whnf
    exact Returns.pure (r := J ((-1))) rfl rfl rfl rfl ⟨rfl, rfl⟩
  rintro s ⟨hj0, rfl⟩
  unfold Sec.size.j0 at hj0
  obtain ⟨t14, et14, hj1⟩ := letk_elim hj0
  conv => whnf
  refine Nm.mk ⟨t14, by rw [et14, List.length_map], ?_⟩
  conv => whnf
  unfold Sec.size.l0 at hj1
  refine LoopB.of (σ := Int × Int) (ρ := Int) (fun v : Int × Int => Sec.size.s0 extents0 t14 v.1 v.2) (fun v => (⟨26, [(3, J v.1), (13, .vs 1 (extents0.map (eI .i64))), (14, J t14), (15, J v.2)], []⟩ : St)) (1, 0) hj1 (BackS.by rfl (Sees.e ⟨.s, .s, .s, .s, trivial⟩)) ?_
  rintro K1 ⟨n3, t15⟩ x1 hs0_0 hl1 hr1
  replace hs0_0 : Sec.size.s0 extents0 t14 n3 t15 = some x1 := hs0_0
  unfold Sec.size.s0 at hs0_0
  change bwp _ _ _ _ _ (⟨26, [(3, J n3), (13, .vs 1 (extents0.map (eI .i64))), (14, J t14), (15, J t15)], []⟩ : St)
  obtain ⟨t16, et16, hs0_1⟩ := letk_elim hs0_0
  conv => whnf
  refine Nm.mk ⟨t16, et16, ?_⟩
  rcases t16 with _ | _
  · have hs0_2 := bif_f hs0_1
    obtain ⟨yhs0_2_0, hs0_2u, ehs0_2_0⟩ := map_elim hs0_2
    have ehs0_2_0 := (hr1 _ ehs0_2_0.symm).symm
    subst ehs0_2_0
    obtain ⟨t24, et24, hs0_2u0⟩ := letk_elim hs0_2u
    conv => whnf
    refine Nm.mk ⟨t24, et24, ?_⟩
    rcases t24 with _ | _
    · have hs0_2u1 := bif_f hs0_2u0
      have ehs0_2u1_0 := Option.some.inj hs0_2u1
      subst ehs0_2u1_0
      conv => whnf
      exact Returns.pure (r := J n3) rfl rfl rfl rfl ⟨rfl, rfl⟩
    have hs0_2u1 := bif_t hs0_2u0
    have ehs0_2u1_0 := Option.some.inj hs0_2u1
    subst ehs0_2u1_0
    conv => whnf
    exact Returns.pure (r := J ((-1))) rfl rfl rfl rfl ⟨rfl, rfl⟩
  have hs0_2 := bif_t hs0_1
  obtain ⟨chs0_3, hs0_3⟩ := chk_elim hs0_2
  obtain ⟨t17, et17, hs0_4⟩ := bind_elim hs0_3
  conv => whnf
  refine Side.mk chs0_3 ?_
  conv => whnf
  refine At.by et17 ?_
  obtain ⟨t21, et21, hs0_5⟩ := letk_elim hs0_4
  conv => whnf
  refine Nm.mk ⟨t21, et21, ?_⟩
  obtain ⟨t22, et22, hs0_6⟩ := letk_elim hs0_5
  conv => whnf
  refine Nm.mk ⟨t22, et22, ?_⟩
  exact BackS.by ⟨_, hl1 _ (Option.some.inj hs0_6).symm, rfl⟩ (Sees.e ⟨.s, .s, .s, .s, trivial⟩)

noncomputable def Sec.Whole.s0 (extents0 : List Int) (t16 t2_0 : Int) (t2_1 t2_2 : List Int) (d4_0 : Int) (d4_1 d4_2 : List Int) (s5 t17 : Int) : Option ((Int × (List Int) × (List Int) × Int × (List Int) × (List Int) × Int × Int) ⊕ (api.Desc × Int)) :=
  letk (decide (t17 < t16)) fun t18 =>
  bif t18 then
    chk (0 ≤ t17) <|
    Option.bind (extents0[t17.toNat]?) fun t19 =>
    chk ((d4_2.length + ([s5]).length) * 8 ≤ 140737488355328) <|
    letk (d4_2 ++ ([s5])) fun t25 =>
    letk (IntKind.i64.wrap (s5 * t19)) fun t29 =>
    letk (IntKind.i64.wrap (t17 + (1 : Int))) fun t30 =>
    some (.inl (t2_0, t2_1, t2_2, d4_0, d4_1, t25, t29, t30))
  else
    some (.inr ((⟨d4_0, d4_1, d4_2⟩ : api.Desc), 0))

noncomputable def Sec.Whole.l0 (extents0 : List Int) (t16 t2_0 : Int) (t2_1 t2_2 : List Int) (d4_0 : Int) (d4_1 d4_2 : List Int) (s5 t17 : Int) : Option (api.Desc × Int) := loopO (fun v : Int × (List Int) × (List Int) × Int × (List Int) × (List Int) × Int × Int => Sec.Whole.s0 extents0 t16 v.1 v.2.1 v.2.2.1 v.2.2.2.1 v.2.2.2.2.1 v.2.2.2.2.2.1 v.2.2.2.2.2.2.1 v.2.2.2.2.2.2.2) (t2_0, t2_1, t2_2, d4_0, d4_1, d4_2, s5, t17)
noncomputable def Sec.Whole (extents0 : List Int) : Option (api.Desc × Int) :=
  Option.bind (Sec.size extents0) fun t9 =>
  letk (decide (t9 < (0 : Int))) fun t10 =>
  bif t10 then
    some ((⟨0, [], []⟩ : api.Desc), 2)
  else
    Option.bind (Slcs.Clone___int_int_ extents0) fun t13 =>
    letk ((extents0.length : Int)) fun t16 =>
    Sec.Whole.l0 extents0 t16 0 ([]) ([]) 0 t13 ([]) 1 0

theorem Sec.Whole_ok {extents0 : List Int} {r : api.Desc × Int} (h0 : Sec.Whole extents0 = some r) : Gives Tryz.prog 105 [.vs 1 (extents0.map (eI .i64))] (.tup [api.Desc.enc r.1, J r.2]) := by
  unfold Sec.Whole at h0
  refine ACalls.of_swp Tryz.func105 rfl (by decide) rfl (st0 := ⟨32, [(0, .vs 1 (extents0.map (eI .i64)))], []⟩) rfl (bwp_ok (C := []) ?_)
  conv => whnf
  refine Nm.mk ⟨[J 0, .nils, .nils], rfl, ?_⟩
  obtain ⟨t9, et9, h1⟩ := bind_elim h0
  conv => whnf
  refine Gate.go ?_
  conv => whnf
  refine CallN.by (v := J t9) (Sec.size_ok et9) rfl rfl ?_
  obtain ⟨t10, et10, h2⟩ := letk_elim h1
  conv => whnf
  refine Nm.mk ⟨t10, et10, ?_⟩
  rcases t10 with _ | _
  · have h3 := bif_f h2
    obtain ⟨t13, et13, h4⟩ := bind_elim h3
    conv => whnf
    refine Gate.go ?_
    conv => whnf
    refine CallN.fresh (s := 1) (es := t13.map (eI .i64)) (Slcs.Clone___int_int__ok et13) rfl ?_
    conv => whnf
    refine Gate.weak (Sees.of (Weak.objs (k := 32) (keep := [0]) (frz := [1]) (m := 0) (ts := [(0, .vs 1 (extents0.map (eI .i64))), (2, .ptr 0 0), (13, .vs 1 (t13.map (eI .i64)))]) (hs := [.box [J 0, .nils, .nils]]) rfl (by decide) rfl rfl ⟨⟨_, rfl, WO.refl rfl⟩, ⟨rfl, fun _ h => by cases h⟩⟩ ⟨.s, (.ptr _ _ 0 rfl), (WV.all (k := 1) (by decide) rfl), trivial⟩)) ?_
    conv => whnf
    refine Nm.mk ⟨[J 0, .vs 1 (t13.map (eI .i64)), .nils], rfl, ?_⟩
    conv => whnf
    refine Nm.mk ⟨[J 0, .nils, .nils], rfl, ?_⟩
    conv => whnf
    refine Nm.mk ⟨[J 0, .vs 1 (t13.map (eI .i64)), .nils], rfl, ?_⟩
    obtain ⟨t16, et16, h5⟩ := letk_elim h4
    conv => whnf
    refine Nm.mk ⟨t16, by rw [et16, List.length_map], ?_⟩
    conv => whnf
    unfold Sec.Whole.l0 at h5
    refine LoopB.of (σ := Int × (List Int) × (List Int) × Int × (List Int) × (List Int) × Int × Int) (ρ := api.Desc × Int) (fun v : Int × (List Int) × (List Int) × Int × (List Int) × (List Int) × Int × Int => Sec.Whole.s0 extents0 t16 v.1 v.2.1 v.2.2.1 v.2.2.2.1 v.2.2.2.2.1 v.2.2.2.2.2.1 v.2.2.2.2.2.2.1 v.2.2.2.2.2.2.2) (fun v => (⟨32, [(2, .ptr 0 0), (4, .ptr 1 0), (5, J v.2.2.2.2.2.2.1), (15, .vs 1 (extents0.map (eI .i64))), (16, J t16), (17, J v.2.2.2.2.2.2.2)], [.box [J v.1, .vs 1 (v.2.1.map (eI .i64)), .vs 1 (v.2.2.1.map (eI .i64))], .box [J v.2.2.2.1, .vs 1 (v.2.2.2.2.1.map (eI .i64)), .ref 2 0 ((v.2.2.2.2.2.1.map (eI .i64)).length)], .arr 1 (v.2.2.2.2.2.1.map (eI .i64))]⟩ : St)) (0, [], [], 0, t13, [], 1, 0) h5 (BackS.by rfl (Sees.of (Weak.objs (keep := [0, 1]) (frz := []) (m := 1) rfl (by decide) rfl rfl ⟨⟨_, rfl, WO.boxs ⟨.s, (.nilsVs _), (.nilsVs _), trivial⟩⟩, ⟨⟨_, rfl, WO.boxs ⟨.s, .s, (.nilsRef 2 (by decide) (by decide)), trivial⟩⟩, ⟨rfl, fun ob ho => by simp only [List.mem_cons, List.not_mem_nil, or_false] at ho; exact ⟨_, ho⟩⟩⟩⟩ ⟨(.ptr _ _ 0 rfl), (.ptr _ _ 1 rfl), .s, .s, .s, .s, trivial⟩))) ?_
    rintro K1 ⟨t2_0, t2_1, t2_2, d4_0, d4_1, d4_2, s5, t17⟩ x1 hs0_0 hl1 hr1
    replace hs0_0 : Sec.Whole.s0 extents0 t16 t2_0 t2_1 t2_2 d4_0 d4_1 d4_2 s5 t17 = some x1 := hs0_0
    unfold Sec.Whole.s0 at hs0_0
    change bwp _ _ _ _ _ (⟨32, [(2, .ptr 0 0), (4, .ptr 1 0), (5, J s5), (15, .vs 1 (extents0.map (eI .i64))), (16, J t16), (17, J t17)], [.box [J t2_0, .vs 1 (t2_1.map (eI .i64)), .vs 1 (t2_2.map (eI .i64))], .box [J d4_0, .vs 1 (d4_1.map (eI .i64)), .ref 2 0 ((d4_2.map (eI .i64)).length)], .arr 1 (d4_2.map (eI .i64))]⟩ : St)
    obtain ⟨t18, et18, hs0_1⟩ := letk_elim hs0_0
    conv => whnf
    refine Nm.mk ⟨t18, et18, ?_⟩
    rcases t18 with _ | _
    · have hs0_2 := bif_f hs0_1
      have ehs0_2u_0 := hr1 _ (Option.some.inj hs0_2).symm
      have hs0_2u := congrArg some ehs0_2u_0
      conv => whnf
      refine Nm.mk ⟨[J d4_0, .vs 1 (d4_1.map (eI .i64)), .ref 2 0 ((d4_2.map (eI .i64)).length)], rfl, ?_⟩
      have ehs0_2u_0 := Option.some.inj hs0_2u
      subst ehs0_2u_0
      conv => whnf
      exact Returns.frozen (r := .tup [api.Desc.enc ((⟨d4_0, d4_1, d4_2⟩ : api.Desc)), J 0]) [2] rfl rfl (WV.tups ⟨(WV.aggs ⟨.s, .s, (WV.all (k := 2) (by decide) rfl), trivial⟩), .s, trivial⟩) ⟨rfl, rfl⟩
    have hs0_2 := bif_t hs0_1
    obtain ⟨chs0_3, hs0_3⟩ := chk_elim hs0_2
    obtain ⟨t19, et19, hs0_4⟩ := bind_elim hs0_3
    conv => whnf
    refine Side.mk chs0_3 ?_
    conv => whnf
    refine At.by et19 ?_
    conv => whnf
    refine Gate.go ?_
    conv => whnf
    refine Nm.mk ⟨([s5]).map (eI .i64), rfl, ?_⟩
    obtain ⟨chs0_5, hs0_5⟩ := chk_elim hs0_4
    obtain ⟨t25, et25, hs0_6⟩ := letk_elim hs0_5
    conv => whnf
    refine Gate.go ?_
    conv => whnf
    refine Side.mk (full_le _) ?_
    conv => whnf
    refine Side.mk ⟨full_le _, one_map (fun _ _ hc => by simp only [AV.cells, List.mem_singleton] at hc; subst hc; rfl)⟩ ?_
    conv => whnf
    refine Side.mk (side_rr (by decide) chs0_5) ?_
    conv => whnf
    refine Nm.mk ⟨t25.map (eI .i64), by rw [et25]; exact app_rr (m := [s5]), ?_⟩
    conv => whnf
    refine Nm.mk ⟨[J d4_0, .vs 1 (d4_1.map (eI .i64)), .ref 4 0 ((t25.map (eI .i64)).length)], rfl, ?_⟩
    obtain ⟨t29, et29, hs0_7⟩ := letk_elim hs0_6
    conv => whnf
    refine Nm.mk ⟨t29, et29, ?_⟩
    obtain ⟨t30, et30, hs0_8⟩ := letk_elim hs0_7
    conv => whnf
    refine Nm.mk ⟨t30, et30, ?_⟩
    exact BackS.by ⟨_, hl1 _ (Option.some.inj hs0_8).symm, rfl⟩ (Sees.of (Weak.objs (keep := [0, 1, 4]) (frz := []) (m := 0) rfl (by decide) rfl rfl ⟨⟨_, rfl, WO.boxs ⟨.s, .s, .s, trivial⟩⟩, ⟨⟨_, rfl, WO.boxs ⟨.s, .s, (.ref _ _ _ 2 rfl), trivial⟩⟩, ⟨⟨_, rfl, .arr _ _⟩, ⟨rfl, fun _ h => by cases h⟩⟩⟩⟩ ⟨(.ptr _ _ 0 rfl), (.ptr _ _ 1 rfl), .s, .s, .s, .s, trivial⟩))
  have h3 := bif_t h2
  conv => whnf
  refine Gate.go ?_
  conv => whnf
  refine Nm.mk ⟨[J 0, .nils, .nils], rfl, ?_⟩
  conv => whnf
  refine Nm.mk ⟨[J 0, .nils, .nils], rfl, ?_⟩
  have eh3_0 := Option.some.inj h3
  subst eh3_0
  conv => whnf
  exact Returns.frozen (r := .tup [api.Desc.enc ((⟨0, [], []⟩ : api.Desc)), J 2]) [] rfl rfl (WV.tups ⟨(WV.aggs ⟨.s, (.nilsVs _), (.nilsVs _), trivial⟩), .s, trivial⟩) ⟨rfl, rfl⟩

noncomputable def Sec.isNumber (n0 : Int) : Option Bool :=
  letk (decide (n0 ≥ ((-2147483648) : Int))) fun t4 =>
  bif t4 then
    letk (decide (n0 ≤ (2147483648 : Int))) fun t7 =>
    some t7
  else
    some false

theorem Sec.isNumber_ok {n0 : Int} {r : Bool} (h0 : Sec.isNumber n0 = some r) : Gives Tryz.prog 187 [J n0] (.lit (.bool r)) := by
  unfold Sec.isNumber at h0
  refine ACalls.of_swp Tryz.func187 rfl (by decide) rfl (st0 := ⟨9, [(0, J n0)], []⟩) rfl (bwp_ok (C := []) ?_)
  obtain ⟨t4, et4, h1⟩ := letk_elim h0
  conv => whnf
  refine Nm.mk ⟨t4, et4, ?_⟩
  rcases t4 with _ | _
  · have h2 := bif_f h1
    have eh2_0 := Option.some.inj h2
    subst eh2_0
    conv => whnf
    exact Returns.pure (r := .lit (.bool false)) rfl rfl rfl rfl ⟨rfl, rfl⟩
  have h2 := bif_t h1
  obtain ⟨t7, et7, h3⟩ := letk_elim h2
  conv => whnf
  refine Nm.mk ⟨t7, et7, ?_⟩
  have eh3_0 := Option.some.inj h3
  subst eh3_0
  conv => whnf
  exact Returns.pure (r := .lit (.bool t7)) rfl rfl rfl rfl ⟨rfl, rfl⟩

noncomputable def Sec.Valid_1 (s0 : Int) : Option Bool :=
  Option.bind (Sec.isNumber s0) fun t4 =>
  letk (!t4) fun t5 =>
  some t5

theorem Sec.Valid_1_ok {s0 : Int} {r : Bool} (h0 : Sec.Valid_1 s0 = some r) : Gives Tryz.prog 186 [J s0] (.lit (.bool r)) := by
  unfold Sec.Valid_1 at h0
  refine ACalls.of_swp Tryz.func186 rfl (by decide) rfl (st0 := ⟨6, [(0, J s0)], []⟩) rfl (bwp_ok (C := []) ?_)
  obtain ⟨t4, et4, h1⟩ := bind_elim h0
  conv => whnf
  refine Gate.go ?_
  conv => whnf
  refine CallN.by (v := .lit (.bool t4)) (Sec.isNumber_ok et4) rfl rfl ?_
  obtain ⟨t5, et5, h2⟩ := letk_elim h1
  conv => whnf
  refine Nm.mk ⟨t5, et5, ?_⟩
  have eh2_0 := Option.some.inj h2
  subst eh2_0
  conv => whnf
  exact Returns.pure (r := .lit (.bool t5)) rfl rfl rfl rfl ⟨rfl, rfl⟩

noncomputable def Sec.ends.s0 (d0 : api.Desc) (t13 d1_0 : Int) (d1_1 d1_2 : List Int) (least2 greatest3 t14 : Int) : Option ((Int × (List Int) × (List Int) × Int × Int × Int) ⊕ (Int × Int)) :=
  letk (decide (t14 < t13)) fun t15 =>
  bif t15 then
    chk (0 ≤ t14) <|
    Option.bind (d0.Strides[t14.toNat]?) fun t17 =>
    chk (0 ≤ t14) <|
    Option.bind (d1_1[t14.toNat]?) fun t23 =>
    letk (IntKind.i64.wrap (t23 - (1 : Int))) fun t25 =>
    letk (IntKind.i64.wrap (t17 * t25)) fun t26 =>
    letk (if 0 < t26 then 0 else t26) fun t29 =>
    letk (IntKind.i64.wrap (least2 + t29)) fun t30 =>
    letk (if 0 > t26 then 0 else t26) fun t33 =>
    letk (IntKind.i64.wrap (greatest3 + t33)) fun t34 =>
    letk (IntKind.i64.wrap (t14 + (1 : Int))) fun t35 =>
    some (.inl (d1_0, d1_1, d1_2, t30, t34, t35))
  else
    some (.inr (least2, greatest3))

noncomputable def Sec.ends.l0 (d0 : api.Desc) (t13 d1_0 : Int) (d1_1 d1_2 : List Int) (least2 greatest3 t14 : Int) : Option (Int × Int) := loopO (fun v : Int × (List Int) × (List Int) × Int × Int × Int => Sec.ends.s0 d0 t13 v.1 v.2.1 v.2.2.1 v.2.2.2.1 v.2.2.2.2.1 v.2.2.2.2.2) (d1_0, d1_1, d1_2, least2, greatest3, t14)
noncomputable def Sec.ends (d0 : api.Desc) : Option (Int × Int) :=
  letk ((d0.Strides.length : Int)) fun t13 =>
  Sec.ends.l0 d0 t13 d0.Base d0.Extents d0.Strides d0.Base d0.Base 0

theorem Sec.ends_ok {d0 : api.Desc} {r : Int × Int} (h0 : Sec.ends d0 = some r) : Gives Tryz.prog 188 [api.Desc.enc d0] (.tup [J r.1, J r.2]) := by
  unfold Sec.ends at h0
  refine ACalls.of_swp Tryz.func188 rfl (by decide) rfl (st0 := ⟨38, [(0, api.Desc.enc d0)], []⟩) rfl (bwp_ok (C := []) ?_)
  conv => whnf
  refine Nm.mk ⟨[J d0.Base, .vs 1 (d0.Extents.map (eI .i64)), .vs 1 (d0.Strides.map (eI .i64))], rfl, ?_⟩
  conv => whnf
  refine DrawB.ofG [none, none, none, none, none, none] Tryz_mixed (by kernel_rfl) (by kernel_rfl) ?_
  conv => whnf
  refine DNodeB.of (.ptr 0 0) ?_ ?_
  · conv => whnf
    rfl
  conv => whnf
  refine DNodeB.of (J d0.Base) ?_ ?_
  · conv => whnf
    rfl
  conv => whnf
  refine DNodeB.of (.ptr 0 0) ?_ ?_
  · conv => whnf
    rfl
  conv => whnf
  refine DNodeB.of (J d0.Base) ?_ ?_
  · conv => whnf
    rfl
  conv => whnf
  refine DNodeB.of (J d0.Base) ?_ ?_
  · conv => whnf
    rfl
  conv => whnf
  refine DNodeB.of (J d0.Base) ?_ ?_
  · conv => whnf
    rfl
  obtain ⟨t13, et13, h1⟩ := letk_elim h0
  conv => whnf
  refine Nm.mk ⟨t13, by rw [et13, List.length_map], ?_⟩
  conv => whnf
  unfold Sec.ends.l0 at h1
  refine LoopB.of (σ := Int × (List Int) × (List Int) × Int × Int × Int) (ρ := Int × Int) (fun v : Int × (List Int) × (List Int) × Int × Int × Int => Sec.ends.s0 d0 t13 v.1 v.2.1 v.2.2.1 v.2.2.2.1 v.2.2.2.2.1 v.2.2.2.2.2) (fun v => (⟨38, [(1, .ptr 0 0), (2, J v.2.2.2.1), (3, J v.2.2.2.2.1), (12, .vs 1 (d0.Strides.map (eI .i64))), (13, J t13), (14, J v.2.2.2.2.2)], [.box [J v.1, .vs 1 (v.2.1.map (eI .i64)), .vs 1 (v.2.2.1.map (eI .i64))]]⟩ : St)) (d0.Base, d0.Extents, d0.Strides, d0.Base, d0.Base, 0) h1 (BackS.by rfl (Sees.of (Weak.objs (keep := [0]) (frz := []) (m := 0) rfl (by decide) rfl rfl ⟨⟨_, rfl, WO.boxs ⟨.s, .s, .s, trivial⟩⟩, ⟨rfl, fun _ h => by cases h⟩⟩ ⟨(.ptr _ _ 0 rfl), .s, .s, .s, .s, .s, trivial⟩))) ?_
  rintro K1 ⟨d1_0, d1_1, d1_2, least2, greatest3, t14⟩ x1 hs0_0 hl1 hr1
  replace hs0_0 : Sec.ends.s0 d0 t13 d1_0 d1_1 d1_2 least2 greatest3 t14 = some x1 := hs0_0
  unfold Sec.ends.s0 at hs0_0
  change bwp _ _ _ _ _ (⟨38, [(1, .ptr 0 0), (2, J least2), (3, J greatest3), (12, .vs 1 (d0.Strides.map (eI .i64))), (13, J t13), (14, J t14)], [.box [J d1_0, .vs 1 (d1_1.map (eI .i64)), .vs 1 (d1_2.map (eI .i64))]]⟩ : St)
  obtain ⟨t15, et15, hs0_1⟩ := letk_elim hs0_0
  conv => whnf
  refine Nm.mk ⟨t15, et15, ?_⟩
  rcases t15 with _ | _
  · have hs0_2 := bif_f hs0_1
    have ehs0_2u_0 := hr1 _ (Option.some.inj hs0_2).symm
    have hs0_2u := congrArg some ehs0_2u_0
    have ehs0_2u_0 := Option.some.inj hs0_2u
    subst ehs0_2u_0
    conv => whnf
    exact Returns.pure (r := .tup [J least2, J greatest3]) rfl rfl rfl rfl ⟨rfl, rfl⟩
  have hs0_2 := bif_t hs0_1
  obtain ⟨chs0_3, hs0_3⟩ := chk_elim hs0_2
  obtain ⟨t17, et17, hs0_4⟩ := bind_elim hs0_3
  conv => whnf
  refine Side.mk chs0_3 ?_
  conv => whnf
  refine At.by et17 ?_
  obtain ⟨chs0_5, hs0_5⟩ := chk_elim hs0_4
  obtain ⟨t23, et23, hs0_6⟩ := bind_elim hs0_5
  conv => whnf
  refine Side.mk chs0_5 ?_
  conv => whnf
  refine At.by et23 ?_
  obtain ⟨t25, et25, hs0_7⟩ := letk_elim hs0_6
  conv => whnf
  refine Nm.mk ⟨t25, et25, ?_⟩
  obtain ⟨t26, et26, hs0_8⟩ := letk_elim hs0_7
  conv => whnf
  refine Nm.mk ⟨t26, et26, ?_⟩
  obtain ⟨t29, et29, hs0_9⟩ := letk_elim hs0_8
  conv => whnf
  refine Nm.mk ⟨t29, et29, ?_⟩
  obtain ⟨t30, et30, hs0_10⟩ := letk_elim hs0_9
  conv => whnf
  refine Nm.mk ⟨t30, et30, ?_⟩
  obtain ⟨t33, et33, hs0_11⟩ := letk_elim hs0_10
  conv => whnf
  refine Nm.mk ⟨t33, et33, ?_⟩
  obtain ⟨t34, et34, hs0_12⟩ := letk_elim hs0_11
  conv => whnf
  refine Nm.mk ⟨t34, et34, ?_⟩
  obtain ⟨t35, et35, hs0_13⟩ := letk_elim hs0_12
  conv => whnf
  refine Nm.mk ⟨t35, et35, ?_⟩
  exact BackS.by ⟨_, hl1 _ (Option.some.inj hs0_13).symm, rfl⟩ (Sees.of (Weak.objs (keep := [0]) (frz := []) (m := 0) rfl (by decide) rfl rfl ⟨⟨_, rfl, WO.boxs ⟨.s, .s, .s, trivial⟩⟩, ⟨rfl, fun _ h => by cases h⟩⟩ ⟨(.ptr _ _ 0 rfl), .s, .s, .s, .s, .s, trivial⟩))

noncomputable def Sec.Valid.j0 (t8 d1_0 : Int) (d1_1 d1_2 : List Int) : Option Bool :=
  letk (t8 == (0 : Int)) fun t31 =>
  bif t31 then
    some true
  else
    letk (decide (d1_0 > (2147483648 : Int))) fun t34 =>
    bif t34 then
      some false
    else
      Option.bind (Sec.ends (⟨d1_0, d1_1, d1_2⟩ : api.Desc)) fun (t37_0, t37_1) =>
      letk (decide (t37_0 ≥ (0 : Int))) fun t41 =>
      bif t41 then
        letk (decide (t37_1 ≤ (2147483648 : Int))) fun t44 =>
        some t44
      else
        some false

noncomputable def Sec.Valid (d0 : api.Desc) : Option Bool :=
  Option.bind (Sec.size d0.Extents) fun t8 =>
  letk (decide (t8 < (0 : Int))) fun t10 =>
  bif t10 then
    some false
  else
    letk ((d0.Strides.length : Int)) fun t14 =>
    letk ((d0.Extents.length : Int)) fun t17 =>
    letk (t14 != t17) fun t18 =>
    bif t18 then
      some false
    else
      letk (decide (d0.Base < (0 : Int))) fun t23 =>
      bif t23 then
        some false
      else
        Option.bind (Slcs.ContainsFunc___int_int_ d0.Strides Sec.Valid_1) fun t28 =>
        bif t28 then
          some false
        else
          Sec.Valid.j0 t8 d0.Base d0.Extents d0.Strides

theorem Sec.Valid_ok {d0 : api.Desc} {r : Bool} (h0 : Sec.Valid d0 = some r) : Gives Tryz.prog 139 [api.Desc.enc d0] (.lit (.bool r)) := by
  unfold Sec.Valid at h0
  refine ACalls.of_swp Tryz.func139 rfl (by decide) rfl (st0 := ⟨46, [(0, api.Desc.enc d0)], []⟩) rfl (bwp_ok (C := [(0, 4)]) ?_)
  conv => whnf
  refine Nm.mk ⟨[J d0.Base, .vs 1 (d0.Extents.map (eI .i64)), .vs 1 (d0.Strides.map (eI .i64))], rfl, ?_⟩
  obtain ⟨t8, et8, h1⟩ := bind_elim h0
  conv => whnf
  refine Gate.go ?_
  conv => whnf
  refine CallN.by (v := J t8) (Sec.size_ok et8) rfl rfl ?_
  conv => whnf
  refine CutN.of (fun s => ∃ (d1_0 : Int) (d1_1 d1_2 : List Int), Sec.Valid.j0 t8 d1_0 d1_1 d1_2 = some r ∧ s = (⟨46, [(1, .ptr 0 0), (3, J t8)], [.box [J d1_0, .vs 1 (d1_1.map (eI .i64)), .vs 1 (d1_2.map (eI .i64))]]⟩ : St)) ?_ ?_
  · obtain ⟨t10, et10, h2⟩ := letk_elim h1
    conv => whnf
    refine Nm.mk ⟨t10, et10, ?_⟩
    rcases t10 with _ | _
    · have h3 := bif_f h2
      obtain ⟨t14, et14, h4⟩ := letk_elim h3
      conv => whnf
      refine Nm.mk ⟨t14, by rw [et14, List.length_map], ?_⟩
      obtain ⟨t17, et17, h5⟩ := letk_elim h4
      conv => whnf
      refine Nm.mk ⟨t17, by rw [et17, List.length_map], ?_⟩
      obtain ⟨t18, et18, h6⟩ := letk_elim h5
      conv => whnf
      refine Nm.mk ⟨t18, et18, ?_⟩
      rcases t18 with _ | _
      · have h7 := bif_f h6
        obtain ⟨t23, et23, h8⟩ := letk_elim h7
        conv => whnf
        refine Nm.mk ⟨t23, et23, ?_⟩
        rcases t23 with _ | _
        · have h9 := bif_f h8
          obtain ⟨t28, et28, h10⟩ := bind_elim h9
          conv => whnf
          refine Gate.go ?_
          conv => whnf
          refine CallN.by (v := .lit (.bool t28)) (Slcs.ContainsFunc___int_int__ok (show List.all [] pureQ.pureQ0 = true from rfl) (fun _ r h => Sec.Valid_1_ok h) et28) rfl rfl ?_
          rcases t28 with _ | _
          · have h11 := bif_f h10
            exact BackS.by ⟨_, _, _, h11, rfl⟩ (Sees.of (Weak.objs (keep := [0]) (frz := []) (m := 0) rfl (by decide) rfl rfl ⟨⟨_, rfl, WO.boxs ⟨.s, .s, .s, trivial⟩⟩, ⟨rfl, fun _ h => by cases h⟩⟩ ⟨(.ptr _ _ 0 rfl), .s, trivial⟩))
          have h11 := bif_t h10
          have eh11_0 := Option.some.inj h11
          subst eh11_0
          conv => whnf
          exact Returns.pure (r := .lit (.bool false)) rfl rfl rfl rfl ⟨rfl, rfl⟩
        have h9 := bif_t h8
        have eh9_0 := Option.some.inj h9
        subst eh9_0
        conv => whnf
        exact Returns.pure (r := .lit (.bool false)) rfl rfl rfl rfl ⟨rfl, rfl⟩
      have h7 := bif_t h6
      have eh7_0 := Option.some.inj h7
      subst eh7_0
      conv => whnf
      exact Returns.pure (r := .lit (.bool false)) rfl rfl rfl rfl ⟨rfl, rfl⟩
    have h3 := bif_t h2
    have eh3_0 := Option.some.inj h3
    subst eh3_0
    conv => whnf
    exact Returns.pure (r := .lit (.bool false)) rfl rfl rfl rfl ⟨rfl, rfl⟩
  rintro s ⟨d1_0, d1_1, d1_2, hj0, rfl⟩
  unfold Sec.Valid.j0 at hj0
  obtain ⟨t31, et31, hj1⟩ := letk_elim hj0
  conv => whnf
  refine Nm.mk ⟨t31, et31, ?_⟩
  rcases t31 with _ | _
  · have hj2 := bif_f hj1
    obtain ⟨t34, et34, hj3⟩ := letk_elim hj2
    conv => whnf
    refine Nm.mk ⟨t34, et34, ?_⟩
    rcases t34 with _ | _
    · have hj4 := bif_f hj3
      obtain ⟨⟨t37_0, t37_1⟩, et37, hj5⟩ := bind_elim hj4
      conv => whnf
      refine Gate.go ?_
      conv => whnf
      refine CallN.by (v := .tup [J t37_0, J t37_1]) (Sec.ends_ok et37) rfl rfl ?_
      obtain ⟨t41, et41, hj6⟩ := letk_elim hj5
      conv => whnf
      refine Nm.mk ⟨t41, et41, ?_⟩
      rcases t41 with _ | _
      · have hj7 := bif_f hj6
        have ehj7_0 := Option.some.inj hj7
        subst ehj7_0
        conv => whnf
        exact Returns.pure (r := .lit (.bool false)) rfl rfl rfl rfl ⟨rfl, rfl⟩
      have hj7 := bif_t hj6
      obtain ⟨t44, et44, hj8⟩ := letk_elim hj7
      conv => whnf
      refine Nm.mk ⟨t44, et44, ?_⟩
      have ehj8_0 := Option.some.inj hj8
      subst ehj8_0
      conv => whnf
      exact Returns.pure (r := .lit (.bool t44)) rfl rfl rfl rfl ⟨rfl, rfl⟩
    have hj4 := bif_t hj3
    have ehj4_0 := Option.some.inj hj4
    subst ehj4_0
    conv => whnf
    exact Returns.pure (r := .lit (.bool false)) rfl rfl rfl rfl ⟨rfl, rfl⟩
  have hj2 := bif_t hj1
  have ehj2_0 := Option.some.inj hj2
  subst ehj2_0
  conv => whnf
  exact Returns.pure (r := .lit (.bool true)) rfl rfl rfl rfl ⟨rfl, rfl⟩

noncomputable def Sec.Size (d0 : api.Desc) : Option (Int × Int) :=
  Option.bind (Sec.Valid (⟨d0.Base, d0.Extents, d0.Strides⟩ : api.Desc)) fun t5 =>
  letk (!t5) fun t6 =>
  bif t6 then
    some (0, 2)
  else
    Option.bind (Sec.size d0.Extents) fun t9 =>
    some (t9, 0)

theorem Sec.Size_ok {d0 : api.Desc} {r : Int × Int} (h0 : Sec.Size d0 = some r) : Gives Tryz.prog 106 [api.Desc.enc d0] (.tup [J r.1, J r.2]) := by
  unfold Sec.Size at h0
  refine ACalls.of_swp Tryz.func106 rfl (by decide) rfl (st0 := ⟨10, [(0, api.Desc.enc d0)], []⟩) rfl (bwp_ok (C := []) ?_)
  conv => whnf
  refine Nm.mk ⟨[J d0.Base, .vs 1 (d0.Extents.map (eI .i64)), .vs 1 (d0.Strides.map (eI .i64))], rfl, ?_⟩
  obtain ⟨t5, et5, h1⟩ := bind_elim h0
  conv => whnf
  refine Gate.go ?_
  conv => whnf
  refine CallN.by (v := .lit (.bool t5)) (Sec.Valid_ok et5) rfl rfl ?_
  obtain ⟨t6, et6, h2⟩ := letk_elim h1
  conv => whnf
  refine Nm.mk ⟨t6, et6, ?_⟩
  rcases t6 with _ | _
  · have h3 := bif_f h2
    obtain ⟨t9, et9, h4⟩ := bind_elim h3
    conv => whnf
    refine Gate.go ?_
    conv => whnf
    refine CallN.by (v := J t9) (Sec.size_ok et9) rfl rfl ?_
    have eh4_0 := Option.some.inj h4
    subst eh4_0
    conv => whnf
    exact Returns.pure (r := .tup [J t9, J 0]) rfl rfl rfl rfl ⟨rfl, rfl⟩
  have h3 := bif_t h2
  have eh3_0 := Option.some.inj h3
  subst eh3_0
  conv => whnf
  exact Returns.pure (r := .tup [J 0, J 2]) rfl rfl rfl rfl ⟨rfl, rfl⟩

noncomputable def Arr.size (shape0 : List Int) : Option Int :=
  Option.bind (Sec.Whole shape0) fun (t9_0, t9_1) =>
  letk (t9_1 != (0 : Int)) fun t13 =>
  bif t13 then
    some (-1)
  else
    Option.bind (Sec.Size (⟨t9_0.Base, t9_0.Extents, t9_0.Strides⟩ : api.Desc)) fun (t16_0, t16_1) =>
    some t16_0

theorem Arr.size_ok {shape0 : List Int} {r : Int} (h0 : Arr.size shape0 = some r) : Gives Tryz.prog 51 [.vs 1 (shape0.map (eI .i64))] (J r) := by
  unfold Arr.size at h0
  refine ACalls.of_swp Tryz.func51 rfl (by decide) rfl (st0 := ⟨20, [(0, .vs 1 (shape0.map (eI .i64)))], []⟩) rfl (bwp_ok (C := []) ?_)
  obtain ⟨⟨t9_0, t9_1⟩, et9, h1⟩ := bind_elim h0
  conv => whnf
  refine Gate.go ?_
  conv => whnf
  refine CallN.by (v := .tup [api.Desc.enc t9_0, J t9_1]) (Sec.Whole_ok et9) rfl rfl ?_
  conv => whnf
  refine Nm.mk ⟨[J 0, .nils, .nils], rfl, ?_⟩
  conv => whnf
  refine Nm.mk ⟨[J t9_0.Base, .vs 1 (t9_0.Extents.map (eI .i64)), .vs 1 (t9_0.Strides.map (eI .i64))], rfl, ?_⟩
  obtain ⟨t13, et13, h2⟩ := letk_elim h1
  conv => whnf
  refine Nm.mk ⟨t13, et13, ?_⟩
  rcases t13 with _ | _
  · have h3 := bif_f h2
    obtain ⟨⟨t16_0, t16_1⟩, et16, h4⟩ := bind_elim h3
    conv => whnf
    refine Gate.go ?_
    conv => whnf
    refine CallN.by (v := .tup [J t16_0, J t16_1]) (Sec.Size_ok et16) rfl rfl ?_
    have eh4_0 := Option.some.inj h4
    subst eh4_0
    conv => whnf
    exact Returns.pure (r := J t16_0) rfl rfl rfl rfl ⟨rfl, rfl⟩
  have h3 := bif_t h2
  have eh3_0 := Option.some.inj h3
  subst eh3_0
  conv => whnf
  exact Returns.pure (r := J ((-1))) rfl rfl rfl rfl ⟨rfl, rfl⟩

noncomputable def Arr.bytes (kind0 : Int) : Option Int :=
  letk (kind0 == (3 : Int)) fun t5 =>
  bif t5 then
    some 4
  else
    letk (kind0 == (4 : Int)) fun t7 =>
    bif t7 then
      some 8
    else
      some 0

theorem Arr.bytes_ok {kind0 r : Int} (h0 : Arr.bytes kind0 = some r) : Gives Tryz.prog 109 [J kind0] (J r) := by
  unfold Arr.bytes at h0
  refine ACalls.of_swp Tryz.func109 rfl (by decide) rfl (st0 := ⟨8, [(0, J kind0)], []⟩) rfl (bwp_ok (C := []) ?_)
  obtain ⟨t5, et5, h1⟩ := letk_elim h0
  conv => whnf
  refine Nm.mk ⟨t5, et5, ?_⟩
  rcases t5 with _ | _
  · have h2 := bif_f h1
    obtain ⟨t7, et7, h3⟩ := letk_elim h2
    conv => whnf
    refine Nm.mk ⟨t7, et7, ?_⟩
    rcases t7 with _ | _
    · have h4 := bif_f h3
      have eh4_0 := Option.some.inj h4
      subst eh4_0
      conv => whnf
      exact Returns.pure (r := J 0) rfl rfl rfl rfl ⟨rfl, rfl⟩
    have h4 := bif_t h3
    have eh4_0 := Option.some.inj h4
    subst eh4_0
    conv => whnf
    exact Returns.pure (r := J 8) rfl rfl rfl rfl ⟨rfl, rfl⟩
  have h2 := bif_t h1
  have eh2_0 := Option.some.inj h2
  subst eh2_0
  conv => whnf
  exact Returns.pure (r := J 4) rfl rfl rfl rfl ⟨rfl, rfl⟩

noncomputable def Flt.of (kind0 : Int) : Option (float.shape × Bool) :=
  letk (kind0 == (2 : Int)) fun t6 =>
  bif t6 then
    some ((⟨11, 5⟩ : float.shape), true)
  else
    letk (kind0 == (4 : Int)) fun t9 =>
    bif t9 then
      some ((⟨24, 8⟩ : float.shape), true)
    else
      letk (kind0 == (8 : Int)) fun t12 =>
      bif t12 then
        some ((⟨53, 11⟩ : float.shape), true)
      else
        some ((⟨0, 0⟩ : float.shape), false)

theorem Flt.of_ok {kind0 : Int} {r : float.shape × Bool} (h0 : Flt.of kind0 = some r) : Gives Tryz.prog 140 [J kind0] (.tup [float.shape.enc r.1, .lit (.bool r.2)]) := by
  unfold Flt.of at h0
  refine ACalls.of_swp Tryz.func140 rfl (by decide) rfl (st0 := ⟨15, [(0, J kind0)], []⟩) rfl (bwp_ok (C := []) ?_)
  conv => whnf
  refine Nm.mk ⟨[J 0, J 0], rfl, ?_⟩
  obtain ⟨t6, et6, h1⟩ := letk_elim h0
  conv => whnf
  refine Nm.mk ⟨t6, et6, ?_⟩
  rcases t6 with _ | _
  · have h2 := bif_f h1
    obtain ⟨t9, et9, h3⟩ := letk_elim h2
    conv => whnf
    refine Nm.mk ⟨t9, et9, ?_⟩
    rcases t9 with _ | _
    · have h4 := bif_f h3
      obtain ⟨t12, et12, h5⟩ := letk_elim h4
      conv => whnf
      refine Nm.mk ⟨t12, et12, ?_⟩
      rcases t12 with _ | _
      · have h6 := bif_f h5
        conv => whnf
        refine Gate.go ?_
        conv => whnf
        refine Nm.mk ⟨[J 0, J 0], rfl, ?_⟩
        conv => whnf
        refine Nm.mk ⟨[J 0, J 0], rfl, ?_⟩
        have eh6_0 := Option.some.inj h6
        subst eh6_0
        conv => whnf
        exact Returns.pure (r := .tup [float.shape.enc ((⟨0, 0⟩ : float.shape)), .lit (.bool false)]) rfl rfl rfl rfl ⟨rfl, rfl⟩
      have h6 := bif_t h5
      conv => whnf
      refine Gate.go ?_
      conv => whnf
      refine Nm.mk ⟨[J 53, J 11], rfl, ?_⟩
      conv => whnf
      refine Nm.mk ⟨[J 53, J 11], rfl, ?_⟩
      have eh6_0 := Option.some.inj h6
      subst eh6_0
      conv => whnf
      exact Returns.pure (r := .tup [float.shape.enc ((⟨53, 11⟩ : float.shape)), .lit (.bool true)]) rfl rfl rfl rfl ⟨rfl, rfl⟩
    have h4 := bif_t h3
    conv => whnf
    refine Gate.go ?_
    conv => whnf
    refine Nm.mk ⟨[J 24, J 8], rfl, ?_⟩
    conv => whnf
    refine Nm.mk ⟨[J 24, J 8], rfl, ?_⟩
    have eh4_0 := Option.some.inj h4
    subst eh4_0
    conv => whnf
    exact Returns.pure (r := .tup [float.shape.enc ((⟨24, 8⟩ : float.shape)), .lit (.bool true)]) rfl rfl rfl rfl ⟨rfl, rfl⟩
  have h2 := bif_t h1
  conv => whnf
  refine Gate.go ?_
  conv => whnf
  refine Nm.mk ⟨[J 11, J 5], rfl, ?_⟩
  conv => whnf
  refine Nm.mk ⟨[J 11, J 5], rfl, ?_⟩
  have eh2_0 := Option.some.inj h2
  subst eh2_0
  conv => whnf
  exact Returns.pure (r := .tup [float.shape.enc ((⟨11, 5⟩ : float.shape)), .lit (.bool true)]) rfl rfl rfl rfl ⟨rfl, rfl⟩

noncomputable def Flt.shape.top (s0 : float.shape) : Option Int :=
  chk (0 ≤ s0.w) <|
  letk (IntKind.u64.wrap ((1 : Int) * 2 ^ (min s0.w.toNat (IntKind.u64).bits))) fun t5 =>
  letk (IntKind.u64.wrap (t5 - (1 : Int))) fun t6 =>
  some t6

theorem Flt.shape.top_ok {s0 : float.shape} {r : Int} (h0 : Flt.shape.top s0 = some r) : Gives Tryz.prog 189 [float.shape.enc s0] (U r) := by
  unfold Flt.shape.top at h0
  refine ACalls.of_swp Tryz.func189 rfl (by decide) rfl (st0 := ⟨7, [(0, float.shape.enc s0)], []⟩) rfl (bwp_ok (C := []) ?_)
  conv => whnf
  refine Nm.mk ⟨[J s0.p, J s0.w], rfl, ?_⟩
  obtain ⟨ch1, h1⟩ := chk_elim h0
  obtain ⟨t5, et5, h2⟩ := letk_elim h1
  conv => whnf
  refine Side.mk ch1 ?_
  conv => whnf
  refine Nm.mk ⟨t5, et5, ?_⟩
  obtain ⟨t6, et6, h3⟩ := letk_elim h2
  conv => whnf
  refine Nm.mk ⟨t6, et6, ?_⟩
  have eh3_0 := Option.some.inj h3
  subst eh3_0
  conv => whnf
  exact Returns.pure (r := U t6) rfl rfl rfl rfl ⟨rfl, rfl⟩

noncomputable def Flt.shape.bias (s0 : float.shape) : Option Int :=
  letk (IntKind.i64.wrap (s0.w - (1 : Int))) fun t5 =>
  chk (0 ≤ t5) <|
  letk (IntKind.i64.wrap ((1 : Int) * 2 ^ (min t5.toNat (IntKind.i64).bits))) fun t6 =>
  letk (IntKind.i64.wrap (t6 - (1 : Int))) fun t7 =>
  some t7

theorem Flt.shape.bias_ok {s0 : float.shape} {r : Int} (h0 : Flt.shape.bias s0 = some r) : Gives Tryz.prog 191 [float.shape.enc s0] (J r) := by
  unfold Flt.shape.bias at h0
  refine ACalls.of_swp Tryz.func191 rfl (by decide) rfl (st0 := ⟨8, [(0, float.shape.enc s0)], []⟩) rfl (bwp_ok (C := []) ?_)
  conv => whnf
  refine Nm.mk ⟨[J s0.p, J s0.w], rfl, ?_⟩
  obtain ⟨t5, et5, h1⟩ := letk_elim h0
  conv => whnf
  refine Nm.mk ⟨t5, et5, ?_⟩
  obtain ⟨ch2, h2⟩ := chk_elim h1
  obtain ⟨t6, et6, h3⟩ := letk_elim h2
  conv => whnf
  refine Side.mk ch2 ?_
  conv => whnf
  refine Nm.mk ⟨t6, et6, ?_⟩
  obtain ⟨t7, et7, h4⟩ := letk_elim h3
  conv => whnf
  refine Nm.mk ⟨t7, et7, ?_⟩
  have eh4_0 := Option.some.inj h4
  subst eh4_0
  conv => whnf
  exact Returns.pure (r := J t7) rfl rfl rfl rfl ⟨rfl, rfl⟩

noncomputable def Flt.shape.least (s0 : float.shape) : Option Int :=
  Option.bind (Flt.shape.bias (⟨s0.p, s0.w⟩ : float.shape)) fun t4 =>
  letk (IntKind.i64.wrap ((2 : Int) - t4)) fun t5 =>
  letk (IntKind.i64.wrap (t5 - s0.p)) fun t8 =>
  some t8

theorem Flt.shape.least_ok {s0 : float.shape} {r : Int} (h0 : Flt.shape.least s0 = some r) : Gives Tryz.prog 190 [float.shape.enc s0] (J r) := by
  unfold Flt.shape.least at h0
  refine ACalls.of_swp Tryz.func190 rfl (by decide) rfl (st0 := ⟨9, [(0, float.shape.enc s0)], []⟩) rfl (bwp_ok (C := []) ?_)
  conv => whnf
  refine Nm.mk ⟨[J s0.p, J s0.w], rfl, ?_⟩
  conv => whnf
  refine DrawB.ofG [none, none, none, none, none, none, none] Tryz_mixed (by kernel_rfl) (by kernel_rfl) ?_
  conv => whnf
  refine DNodeB.of (.agg [J s0.p, J s0.w]) ?_ ?_
  · conv => whnf
    rfl
  obtain ⟨t4, et4, h1⟩ := bind_elim h0
  conv => whnf
  refine DNodeB.of (J t4) ?_ ?_
  · conv => whnf
    refine CallN.by (v := J t4) (Flt.shape.bias_ok et4) rfl rfl ?_
    conv => whnf
    rfl
  obtain ⟨t5, et5, h2⟩ := letk_elim h1
  conv => whnf
  refine DNodeB.of (J t5) ?_ ?_
  · conv => whnf
    refine Nm.mk ⟨t5, et5, ?_⟩
    conv => whnf
    rfl
  conv => whnf
  refine DNodeB.of (.ptr 0 0) ?_ ?_
  · conv => whnf
    rfl
  conv => whnf
  refine DNodeB.of (J s0.p) ?_ ?_
  · conv => whnf
    rfl
  obtain ⟨t8, et8, h3⟩ := letk_elim h2
  conv => whnf
  refine DNodeB.of (J t8) ?_ ?_
  · conv => whnf
    refine Nm.mk ⟨t8, et8, ?_⟩
    conv => whnf
    rfl
  conv => whnf
  refine DNodeB.of (J t8) ?_ ?_
  · conv => whnf
    rfl
  have eh3_0 := Option.some.inj h3
  subst eh3_0
  conv => whnf
  exact Returns.pure (r := J t8) rfl rfl rfl rfl ⟨rfl, rfl⟩

noncomputable def Flt.shape.read.j2 (t41 t48 s2_0_1 s2_1_1 t4_0_1 t4_1_1 t4_2_1 t4_3_1 x8_0 x8_1 x8_2 x8_3 : Int) (t83 : Bool) : Option (float.number × Bool) :=
  bif t83 then
    some ((⟨0, x8_1, x8_2, x8_3⟩ : float.number), true)
  else
    letk (t41 == (0 : Int)) fun t93 =>
    bif t93 then
      Option.bind (Flt.shape.least (⟨s2_0_1, s2_1_1⟩ : float.shape)) fun t96 =>
      some ((⟨1, x8_1, t48, t96⟩ : float.number), true)
    else
      letk (IntKind.i64.wrap (s2_0_1 - (1 : Int))) fun t52 =>
      chk (0 ≤ t52) <|
      letk (IntKind.u64.wrap ((1 : Int) * 2 ^ (min t52.toNat (IntKind.u64).bits))) fun t53 =>
      letk (IntKind.u64.wrap (BitVec.ofInt (IntKind.u64).bits t48 ||| BitVec.ofInt (IntKind.u64).bits t53).toNat) fun t54 =>
      letk (IntKind.i64.wrap t41) fun t56 =>
      Option.bind (Flt.shape.bias (⟨s2_0_1, s2_1_1⟩ : float.shape)) fun t58 =>
      letk (IntKind.i64.wrap (t56 - t58)) fun t59 =>
      letk (IntKind.i64.wrap (t59 - s2_0_1)) fun t62 =>
      letk (IntKind.i64.wrap (t62 + (1 : Int))) fun t63 =>
      some ((⟨1, x8_1, t54, t63⟩ : float.number), true)

noncomputable def Flt.shape.read.j1 (t41 t48 s2_0_1 s2_1_1 t4_0_1 t4_1_1 t4_2_1 t4_3_1 x8_0 x8_1 x8_2 x8_3 : Int) (t67 : Bool) : Option (float.number × Bool) :=
  bif t67 then
    some ((⟨2, x8_1, x8_2, x8_3⟩ : float.number), true)
  else
    Option.bind (Flt.shape.top (⟨s2_0_1, s2_1_1⟩ : float.shape)) fun t80 =>
    letk (t41 == t80) fun t81 =>
    bif t81 then
      some ((⟨3, x8_1, x8_2, x8_3⟩ : float.number), true)
    else
      letk (t41 == (0 : Int)) fun t85 =>
      bif t85 then
        letk (t48 == (0 : Int)) fun t88 =>
        Flt.shape.read.j2 t41 t48 s2_0_1 s2_1_1 t4_0_1 t4_1_1 t4_2_1 t4_3_1 x8_0 x8_1 x8_2 x8_3 t88
      else
        Flt.shape.read.j2 t41 t48 s2_0_1 s2_1_1 t4_0_1 t4_1_1 t4_2_1 t4_3_1 x8_0 x8_1 x8_2 x8_3 false

noncomputable def Flt.shape.read.j0 (t12 t17 s2_0 s2_1 t4_0 t4_1 t4_2 t4_3 : Int) : Option (float.number × Bool) :=
  letk (IntKind.i64.wrap (t17 - (1 : Int))) fun t29 =>
  chk (0 ≤ t29) <|
  letk ((IntKind.u64, t12.fdiv (2 ^ (min t29.toNat (IntKind.u64).bits))).2) fun t30 =>
  letk (IntKind.u64.wrap (BitVec.ofInt (IntKind.u64).bits t30 &&& BitVec.ofInt (IntKind.u64).bits (1 : Int)).toNat) fun t31 =>
  letk (IntKind.i64.wrap t31) fun t32 =>
  letk (IntKind.i64.wrap (s2_0 - (1 : Int))) fun t37 =>
  chk (0 ≤ t37) <|
  letk ((IntKind.u64, t12.fdiv (2 ^ (min t37.toNat (IntKind.u64).bits))).2) fun t38 =>
  Option.bind (Flt.shape.top (⟨s2_0, s2_1⟩ : float.shape)) fun t40 =>
  letk (IntKind.u64.wrap (BitVec.ofInt (IntKind.u64).bits t38 &&& BitVec.ofInt (IntKind.u64).bits t40).toNat) fun t41 =>
  letk (IntKind.i64.wrap (s2_0 - (1 : Int))) fun t45 =>
  chk (0 ≤ t45) <|
  letk (IntKind.u64.wrap ((1 : Int) * 2 ^ (min t45.toNat (IntKind.u64).bits))) fun t46 =>
  letk (IntKind.u64.wrap (t46 - (1 : Int))) fun t47 =>
  letk (IntKind.u64.wrap (BitVec.ofInt (IntKind.u64).bits t12 &&& BitVec.ofInt (IntKind.u64).bits t47).toNat) fun t48 =>
  Option.bind (Flt.shape.top (⟨s2_0, s2_1⟩ : float.shape)) fun t70 =>
  letk (t41 == t70) fun t71 =>
  bif t71 then
    letk (t48 == (0 : Int)) fun t74 =>
    Flt.shape.read.j1 t41 t48 s2_0 s2_1 t4_0 t4_1 t4_2 t4_3 0 t32 0 0 t74
  else
    Flt.shape.read.j1 t41 t48 s2_0 s2_1 t4_0 t4_1 t4_2 t4_3 0 t32 0 0 false

noncomputable def Flt.shape.read.j3 (s0 : float.shape) (t12 t17 : Int) (t25 : Bool) : Option (float.number × Bool) :=
  bif t25 then
    some ((⟨0, 0, 0, 0⟩ : float.number), false)
  else
    Flt.shape.read.j0 t12 t17 s0.p s0.w 0 0 0 0

noncomputable def Flt.shape.read (s0 : float.shape) (a1 : Int) : Option (float.number × Bool) :=
  letk (IntKind.u64.wrap a1) fun t12 =>
  letk (IntKind.i64.wrap (s0.p + s0.w)) fun t17 =>
  letk (decide (t17 < (64 : Int))) fun t19 =>
  bif t19 then
    chk (0 ≤ t17) <|
    letk ((IntKind.u64, t12.fdiv (2 ^ (min t17.toNat (IntKind.u64).bits))).2) fun t23 =>
    letk (t23 != (0 : Int)) fun t24 =>
    Flt.shape.read.j3 s0 t12 t17 t24
  else
    Flt.shape.read.j3 s0 t12 t17 false

theorem Flt.shape.read_ok {s0 : float.shape} {a1 : Int} {r : float.number × Bool} (h0 : Flt.shape.read s0 a1 = some r) : Gives Tryz.prog 141 [float.shape.enc s0, J a1] (.tup [float.number.enc r.1, .lit (.bool r.2)]) := by
  unfold Flt.shape.read at h0
  refine ACalls.of_swp Tryz.func141 rfl (by decide) rfl (st0 := ⟨101, [(0, float.shape.enc s0), (1, J a1)], []⟩) rfl (bwp_ok (C := [(0, 5), (77, 19), (93, 27), (35, 9)]) ?_)
  conv => whnf
  refine Nm.mk ⟨[J s0.p, J s0.w], rfl, ?_⟩
  conv => whnf
  refine Nm.mk ⟨[J 0, J 0, U 0, J 0], rfl, ?_⟩
  obtain ⟨t12, et12, h1⟩ := letk_elim h0
  conv => whnf
  refine Nm.mk ⟨t12, et12, ?_⟩
  obtain ⟨t17, et17, h2⟩ := letk_elim h1
  conv => whnf
  refine Nm.mk ⟨t17, et17, ?_⟩
  conv => whnf
  refine CutN.of (fun s => ∃ (s2_0 s2_1 t4_0 t4_1 t4_2 t4_3 : Int), Flt.shape.read.j0 t12 t17 s2_0 s2_1 t4_0 t4_1 t4_2 t4_3 = some r ∧ s = (⟨101, [(2, .ptr 0 0), (4, .ptr 1 0), (6, U t12), (7, J t17)], [.box [J s2_0, J s2_1], .box [J t4_0, J t4_1, U t4_2, J t4_3]]⟩ : St)) ?_ ?_
  · conv => whnf
    refine CutN.of (fun s => ∃ (t25 : Bool), Flt.shape.read.j3 s0 t12 t17 t25 = some r ∧ s = (⟨101, [(2, .ptr 0 0), (4, .ptr 1 0), (6, U t12), (7, J t17), (25, .lit (.bool t25))], [.box [J s0.p, J s0.w], .box [J 0, J 0, U 0, J 0]]⟩ : St)) ?_ ?_
    · obtain ⟨t19, et19, h3⟩ := letk_elim h2
      conv => whnf
      refine Nm.mk ⟨t19, et19, ?_⟩
      rcases t19 with _ | _
      · have h4 := bif_f h3
        exact BackS.by ⟨_, h4, rfl⟩ (Sees.of (Weak.objs (keep := [0, 1]) (frz := []) (m := 0) rfl (by decide) rfl rfl ⟨⟨_, rfl, WO.boxs ⟨.s, .s, trivial⟩⟩, ⟨⟨_, rfl, WO.boxs ⟨.s, .s, .s, .s, trivial⟩⟩, ⟨rfl, fun _ h => by cases h⟩⟩⟩ ⟨(.ptr _ _ 0 rfl), (.ptr _ _ 1 rfl), .s, .s, .s, trivial⟩))
      have h4 := bif_t h3
      obtain ⟨ch5, h5⟩ := chk_elim h4
      obtain ⟨t23, et23, h6⟩ := letk_elim h5
      conv => whnf
      refine Side.mk ch5 ?_
      conv => whnf
      refine Nm.mk ⟨t23, et23, ?_⟩
      obtain ⟨t24, et24, h7⟩ := letk_elim h6
      conv => whnf
      refine Nm.mk ⟨t24, et24, ?_⟩
      exact BackS.by ⟨_, h7, rfl⟩ (Sees.of (Weak.objs (keep := [0, 1]) (frz := []) (m := 0) rfl (by decide) rfl rfl ⟨⟨_, rfl, WO.boxs ⟨.s, .s, trivial⟩⟩, ⟨⟨_, rfl, WO.boxs ⟨.s, .s, .s, .s, trivial⟩⟩, ⟨rfl, fun _ h => by cases h⟩⟩⟩ ⟨(.ptr _ _ 0 rfl), (.ptr _ _ 1 rfl), .s, .s, .s, trivial⟩))
    rintro s ⟨t25, hj0, rfl⟩
    unfold Flt.shape.read.j3 at hj0
    rcases t25 with _ | _
    · have hj1 := bif_f hj0
      exact BackS.by ⟨_, _, _, _, _, _, hj1, rfl⟩ (Sees.of (Weak.objs (keep := [0, 1]) (frz := []) (m := 0) rfl (by decide) rfl rfl ⟨⟨_, rfl, WO.boxs ⟨.s, .s, trivial⟩⟩, ⟨⟨_, rfl, WO.boxs ⟨.s, .s, .s, .s, trivial⟩⟩, ⟨rfl, fun _ h => by cases h⟩⟩⟩ ⟨(.ptr _ _ 0 rfl), (.ptr _ _ 1 rfl), .s, .s, trivial⟩))
    have hj1 := bif_t hj0
    conv => whnf
    refine Gate.go ?_
    conv => whnf
    refine Nm.mk ⟨[J 0, J 0, U 0, J 0], rfl, ?_⟩
    conv => whnf
    refine Nm.mk ⟨[J 0, J 0, U 0, J 0], rfl, ?_⟩
    have ehj1_0 := Option.some.inj hj1
    subst ehj1_0
    conv => whnf
    exact Returns.pure (r := .tup [float.number.enc ((⟨0, 0, 0, 0⟩ : float.number)), .lit (.bool false)]) rfl rfl rfl rfl ⟨rfl, rfl⟩
  rintro s ⟨s2_0, s2_1, t4_0, t4_1, t4_2, t4_3, hj0, rfl⟩
  unfold Flt.shape.read.j0 at hj0
  obtain ⟨t29, et29, hj1⟩ := letk_elim hj0
  conv => whnf
  refine Nm.mk ⟨t29, et29, ?_⟩
  obtain ⟨chj2, hj2⟩ := chk_elim hj1
  obtain ⟨t30, et30, hj3⟩ := letk_elim hj2
  conv => whnf
  refine Side.mk chj2 ?_
  conv => whnf
  refine Nm.mk ⟨t30, et30, ?_⟩
  obtain ⟨t31, et31, hj4⟩ := letk_elim hj3
  conv => whnf
  refine Nm.mk ⟨t31, et31, ?_⟩
  obtain ⟨t32, et32, hj5⟩ := letk_elim hj4
  conv => whnf
  refine Nm.mk ⟨t32, et32, ?_⟩
  conv => whnf
  refine Gate.go ?_
  conv => whnf
  refine Nm.mk ⟨[J 0, J t32, U 0, J 0], rfl, ?_⟩
  conv => whnf
  refine Nm.mk ⟨[J 0, J 0, U 0, J 0], rfl, ?_⟩
  conv => whnf
  refine Nm.mk ⟨[J 0, J t32, U 0, J 0], rfl, ?_⟩
  conv => whnf
  refine DrawB.sees (Sees.of (Weak.objs (k := 101) (keep := [0, 1, 2]) (frz := []) (m := 0) (ts := [(2, .ptr 0 0), (4, .ptr 1 0), (6, U t12), (8, .ptr 2 0)]) (hs := [.box [J s2_0, J s2_1], .box [J t4_0, J t4_1, U t4_2, J t4_3], .box [J 0, J t32, U 0, J 0]]) rfl (by decide) rfl rfl ⟨⟨_, rfl, WO.refl rfl⟩, ⟨⟨_, rfl, WO.refl rfl⟩, ⟨⟨_, rfl, WO.refl rfl⟩, ⟨rfl, fun _ h => by cases h⟩⟩⟩⟩ ⟨(.ptr _ _ 0 rfl), (.ptr _ _ 1 rfl), .s, (.ptr _ _ 2 rfl), trivial⟩)) ?_
  refine DrawB.ofG [none, none, none, none, none, none, none, none, none, none, none, none, none, none, none, none, none] Tryz_mixed (by kernel_rfl) (by kernel_rfl) ?_
  conv => whnf
  refine DNodeB.of (U t12) ?_ ?_
  · conv => whnf
    rfl
  conv => whnf
  refine DNodeB.of (.ptr 0 0) ?_ ?_
  · conv => whnf
    rfl
  conv => whnf
  refine DNodeB.of (J s2_0) ?_ ?_
  · conv => whnf
    rfl
  obtain ⟨t37, et37, hj6⟩ := letk_elim hj5
  conv => whnf
  refine DNodeB.of (J t37) ?_ ?_
  · conv => whnf
    refine Nm.mk ⟨t37, et37, ?_⟩
    conv => whnf
    rfl
  obtain ⟨chj7, hj7⟩ := chk_elim hj6
  obtain ⟨t38, et38, hj8⟩ := letk_elim hj7
  conv => whnf
  refine DNodeB.of (U t38) ?_ ?_
  · conv => whnf
    refine Side.mk chj7 ?_
    conv => whnf
    refine Nm.mk ⟨t38, et38, ?_⟩
    conv => whnf
    rfl
  conv => whnf
  refine DNodeB.of (.agg [J s2_0, J s2_1]) ?_ ?_
  · conv => whnf
    rfl
  obtain ⟨t40, et40, hj9⟩ := bind_elim hj8
  conv => whnf
  refine DNodeB.of (U t40) ?_ ?_
  · conv => whnf
    refine CallN.by (v := U t40) (Flt.shape.top_ok et40) rfl rfl ?_
    conv => whnf
    rfl
  obtain ⟨t41, et41, hj10⟩ := letk_elim hj9
  conv => whnf
  refine DNodeB.of (U t41) ?_ ?_
  · conv => whnf
    refine Nm.mk ⟨t41, et41, ?_⟩
    conv => whnf
    rfl
  conv => whnf
  refine DNodeB.of (U t12) ?_ ?_
  · conv => whnf
    rfl
  conv => whnf
  refine DNodeB.of (.ptr 0 0) ?_ ?_
  · conv => whnf
    rfl
  conv => whnf
  refine DNodeB.of (J s2_0) ?_ ?_
  · conv => whnf
    rfl
  obtain ⟨t45, et45, hj11⟩ := letk_elim hj10
  conv => whnf
  refine DNodeB.of (J t45) ?_ ?_
  · conv => whnf
    refine Nm.mk ⟨t45, et45, ?_⟩
    conv => whnf
    rfl
  obtain ⟨chj12, hj12⟩ := chk_elim hj11
  obtain ⟨t46, et46, hj13⟩ := letk_elim hj12
  conv => whnf
  refine DNodeB.of (U t46) ?_ ?_
  · conv => whnf
    refine Side.mk chj12 ?_
    conv => whnf
    refine Nm.mk ⟨t46, et46, ?_⟩
    conv => whnf
    rfl
  obtain ⟨t47, et47, hj14⟩ := letk_elim hj13
  conv => whnf
  refine DNodeB.of (U t47) ?_ ?_
  · conv => whnf
    refine Nm.mk ⟨t47, et47, ?_⟩
    conv => whnf
    rfl
  obtain ⟨t48, et48, hj15⟩ := letk_elim hj14
  conv => whnf
  refine DNodeB.of (U t48) ?_ ?_
  · conv => whnf
    refine Nm.mk ⟨t48, et48, ?_⟩
    conv => whnf
    rfl
  conv => whnf
  refine DNodeB.of (U t41) ?_ ?_
  · conv => whnf
    rfl
  conv => whnf
  refine DNodeB.of (U t48) ?_ ?_
  · conv => whnf
    rfl
  conv => whnf
  refine CutN.of (fun s => ∃ (s2_0_1 s2_1_1 t4_0_1 t4_1_1 t4_2_1 t4_3_1 x8_0 x8_1 x8_2 x8_3 : Int) (t67 : Bool), Flt.shape.read.j1 t41 t48 s2_0_1 s2_1_1 t4_0_1 t4_1_1 t4_2_1 t4_3_1 x8_0 x8_1 x8_2 x8_3 t67 = some r ∧ s = (⟨101, [(2, .ptr 0 0), (4, .ptr 1 0), (8, .ptr 2 0), (9, U t41), (10, U t48), (67, .lit (.bool t67))], [.box [J s2_0_1, J s2_1_1], .box [J t4_0_1, J t4_1_1, U t4_2_1, J t4_3_1], .box [J x8_0, J x8_1, U x8_2, J x8_3]]⟩ : St)) ?_ ?_
  · obtain ⟨t70, et70, hj16⟩ := bind_elim hj15
    conv => whnf
    refine Gate.go ?_
    conv => whnf
    refine CallN.by (v := U t70) (Flt.shape.top_ok et70) rfl rfl ?_
    obtain ⟨t71, et71, hj17⟩ := letk_elim hj16
    conv => whnf
    refine Nm.mk ⟨t71, et71, ?_⟩
    rcases t71 with _ | _
    · have hj18 := bif_f hj17
      exact BackS.by ⟨_, _, _, _, _, _, _, _, _, _, _, hj18, rfl⟩ (Sees.of (Weak.objs (keep := [0, 1, 2]) (frz := []) (m := 0) rfl (by decide) rfl rfl ⟨⟨_, rfl, WO.boxs ⟨.s, .s, trivial⟩⟩, ⟨⟨_, rfl, WO.boxs ⟨.s, .s, .s, .s, trivial⟩⟩, ⟨⟨_, rfl, WO.boxs ⟨.s, .s, .s, .s, trivial⟩⟩, ⟨rfl, fun _ h => by cases h⟩⟩⟩⟩ ⟨(.ptr _ _ 0 rfl), (.ptr _ _ 1 rfl), (.ptr _ _ 2 rfl), .s, .s, .s, trivial⟩))
    have hj18 := bif_t hj17
    obtain ⟨t74, et74, hj19⟩ := letk_elim hj18
    conv => whnf
    refine Nm.mk ⟨t74, et74, ?_⟩
    exact BackS.by ⟨_, _, _, _, _, _, _, _, _, _, _, hj19, rfl⟩ (Sees.of (Weak.objs (keep := [0, 1, 2]) (frz := []) (m := 0) rfl (by decide) rfl rfl ⟨⟨_, rfl, WO.boxs ⟨.s, .s, trivial⟩⟩, ⟨⟨_, rfl, WO.boxs ⟨.s, .s, .s, .s, trivial⟩⟩, ⟨⟨_, rfl, WO.boxs ⟨.s, .s, .s, .s, trivial⟩⟩, ⟨rfl, fun _ h => by cases h⟩⟩⟩⟩ ⟨(.ptr _ _ 0 rfl), (.ptr _ _ 1 rfl), (.ptr _ _ 2 rfl), .s, .s, .s, trivial⟩))
  rintro s ⟨s2_0_1, s2_1_1, t4_0_1, t4_1_1, t4_2_1, t4_3_1, x8_0, x8_1, x8_2, x8_3, t67, hj0, rfl⟩
  unfold Flt.shape.read.j1 at hj0
  rcases t67 with _ | _
  · have hj1 := bif_f hj0
    obtain ⟨t80, et80, hj2⟩ := bind_elim hj1
    conv => whnf
    refine Gate.go ?_
    conv => whnf
    refine CallN.by (v := U t80) (Flt.shape.top_ok et80) rfl rfl ?_
    obtain ⟨t81, et81, hj3⟩ := letk_elim hj2
    conv => whnf
    refine Nm.mk ⟨t81, et81, ?_⟩
    rcases t81 with _ | _
    · have hj4 := bif_f hj3
      conv => whnf
      refine CutN.of (fun s => ∃ (t83 : Bool), Flt.shape.read.j2 t41 t48 s2_0_1 s2_1_1 t4_0_1 t4_1_1 t4_2_1 t4_3_1 x8_0 x8_1 x8_2 x8_3 t83 = some r ∧ s = (⟨101, [(2, .ptr 0 0), (4, .ptr 1 0), (8, .ptr 2 0), (9, U t41), (10, U t48), (83, .lit (.bool t83))], [.box [J s2_0_1, J s2_1_1], .box [J t4_0_1, J t4_1_1, U t4_2_1, J t4_3_1], .box [J x8_0, J x8_1, U x8_2, J x8_3]]⟩ : St)) ?_ ?_
      · obtain ⟨t85, et85, hj5⟩ := letk_elim hj4
        conv => whnf
        refine Nm.mk ⟨t85, et85, ?_⟩
        rcases t85 with _ | _
        · have hj6 := bif_f hj5
          exact BackS.by ⟨_, hj6, rfl⟩ (Sees.of (Weak.objs (keep := [0, 1, 2]) (frz := []) (m := 0) rfl (by decide) rfl rfl ⟨⟨_, rfl, WO.boxs ⟨.s, .s, trivial⟩⟩, ⟨⟨_, rfl, WO.boxs ⟨.s, .s, .s, .s, trivial⟩⟩, ⟨⟨_, rfl, WO.boxs ⟨.s, .s, .s, .s, trivial⟩⟩, ⟨rfl, fun _ h => by cases h⟩⟩⟩⟩ ⟨(.ptr _ _ 0 rfl), (.ptr _ _ 1 rfl), (.ptr _ _ 2 rfl), .s, .s, .s, trivial⟩))
        have hj6 := bif_t hj5
        obtain ⟨t88, et88, hj7⟩ := letk_elim hj6
        conv => whnf
        refine Nm.mk ⟨t88, et88, ?_⟩
        exact BackS.by ⟨_, hj7, rfl⟩ (Sees.of (Weak.objs (keep := [0, 1, 2]) (frz := []) (m := 0) rfl (by decide) rfl rfl ⟨⟨_, rfl, WO.boxs ⟨.s, .s, trivial⟩⟩, ⟨⟨_, rfl, WO.boxs ⟨.s, .s, .s, .s, trivial⟩⟩, ⟨⟨_, rfl, WO.boxs ⟨.s, .s, .s, .s, trivial⟩⟩, ⟨rfl, fun _ h => by cases h⟩⟩⟩⟩ ⟨(.ptr _ _ 0 rfl), (.ptr _ _ 1 rfl), (.ptr _ _ 2 rfl), .s, .s, .s, trivial⟩))
      rintro s ⟨t83, hj0, rfl⟩
      unfold Flt.shape.read.j2 at hj0
      rcases t83 with _ | _
      · have hj1 := bif_f hj0
        obtain ⟨t93, et93, hj2⟩ := letk_elim hj1
        conv => whnf
        refine Nm.mk ⟨t93, et93, ?_⟩
        rcases t93 with _ | _
        · have hj3 := bif_f hj2
          conv => whnf
          refine DrawB.sees (Sees.of (Weak.objs (k := 101) (keep := [0, 1, 2]) (frz := []) (m := 0) (ts := [(2, .ptr 0 0), (4, .ptr 1 0), (8, .ptr 2 0), (9, U t41), (10, U t48)]) (hs := [.box [J s2_0_1, J s2_1_1], .box [J t4_0_1, J t4_1_1, U t4_2_1, J t4_3_1], .box [J x8_0, J x8_1, U x8_2, J x8_3]]) rfl (by decide) rfl rfl ⟨⟨_, rfl, WO.refl rfl⟩, ⟨⟨_, rfl, WO.refl rfl⟩, ⟨⟨_, rfl, WO.refl rfl⟩, ⟨rfl, fun _ h => by cases h⟩⟩⟩⟩ ⟨(.ptr _ _ 0 rfl), (.ptr _ _ 1 rfl), (.ptr _ _ 2 rfl), .s, .s, trivial⟩)) ?_
          refine DrawB.ofFN 0 [.box [J s2_0_1, J s2_1_1], .box [J t4_0_1, J t4_1_1, U t4_2_1, J t4_3_1], .box [J x8_0, J x8_1, U x8_2, J x8_3]] 3 3 [[], [0], [0], [], [], [], [], [], [0], [], [], [0], [0], [], [], [2], [2], [2], [2], [2], [2]] [[], [], [], [], [], [], [], [], [], [], [], [], [], [], [], [], [2], [], [2], [], [2]] [none, none, none, none, none, none, none, none, none, none, none, none, none, none, none, none, none, none, none, none, none] Tryz_mixed (by kernel_rfl) rfl rfl rfl (by kernel_rfl) ?_
          conv => whnf
          refine FNode.no (W := []) (U t48) ?_ rfl ?_
          · conv => whnf
            rfl
          conv => whnf
          refine FNode.rd (F := [0]) (W := []) (.ptr 0 0) ?_ rfl rfl ?_
          · conv => whnf
            rfl
          conv => whnf
          refine FNode.rd (F := [0]) (W := []) (J s2_0_1) ?_ rfl rfl ?_
          · conv => whnf
            rfl
          obtain ⟨t52, et52, hj4⟩ := letk_elim hj3
          conv => whnf
          refine FNode.no (W := []) (J t52) ?_ rfl ?_
          · conv => whnf
            refine Nm.mk ⟨t52, et52, ?_⟩
            conv => whnf
            rfl
          obtain ⟨chj5, hj5⟩ := chk_elim hj4
          obtain ⟨t53, et53, hj6⟩ := letk_elim hj5
          conv => whnf
          refine FNode.no (W := []) (U t53) ?_ rfl ?_
          · conv => whnf
            refine Side.mk chj5 ?_
            conv => whnf
            refine Nm.mk ⟨t53, et53, ?_⟩
            conv => whnf
            rfl
          obtain ⟨t54, et54, hj7⟩ := letk_elim hj6
          conv => whnf
          refine FNode.no (W := []) (U t54) ?_ rfl ?_
          · conv => whnf
            refine Nm.mk ⟨t54, et54, ?_⟩
            conv => whnf
            rfl
          conv => whnf
          refine FNode.no (W := []) (U t41) ?_ rfl ?_
          · conv => whnf
            rfl
          obtain ⟨t56, et56, hj8⟩ := letk_elim hj7
          conv => whnf
          refine FNode.no (W := []) (J t56) ?_ rfl ?_
          · conv => whnf
            refine Nm.mk ⟨t56, et56, ?_⟩
            conv => whnf
            rfl
          conv => whnf
          refine FNode.rd (F := [0]) (W := []) (.agg [J s2_0_1, J s2_1_1]) ?_ rfl rfl ?_
          · conv => whnf
            rfl
          obtain ⟨t58, et58, hj9⟩ := bind_elim hj8
          conv => whnf
          refine FNode.no (W := []) (J t58) ?_ rfl ?_
          · conv => whnf
            refine CallN.by (v := J t58) (Flt.shape.bias_ok et58) rfl rfl ?_
            conv => whnf
            rfl
          obtain ⟨t59, et59, hj10⟩ := letk_elim hj9
          conv => whnf
          refine FNode.no (W := []) (J t59) ?_ rfl ?_
          · conv => whnf
            refine Nm.mk ⟨t59, et59, ?_⟩
            conv => whnf
            rfl
          conv => whnf
          refine FNode.rd (F := [0]) (W := []) (.ptr 0 0) ?_ rfl rfl ?_
          · conv => whnf
            rfl
          conv => whnf
          refine FNode.rd (F := [0]) (W := []) (J s2_0_1) ?_ rfl rfl ?_
          · conv => whnf
            rfl
          obtain ⟨t62, et62, hj11⟩ := letk_elim hj10
          conv => whnf
          refine FNode.no (W := []) (J t62) ?_ rfl ?_
          · conv => whnf
            refine Nm.mk ⟨t62, et62, ?_⟩
            conv => whnf
            rfl
          obtain ⟨t63, et63, hj12⟩ := letk_elim hj11
          conv => whnf
          refine FNode.no (W := []) (J t63) ?_ rfl ?_
          · conv => whnf
            refine Nm.mk ⟨t63, et63, ?_⟩
            conv => whnf
            rfl
          conv => whnf
          refine FNode.rd (F := [2]) (W := []) (.ptr 2 0) ?_ rfl rfl ?_
          · conv => whnf
            rfl
          conv => whnf
          refine FNode.pl (F := [2]) (W := [2]) (.undef) [.box [J s2_0_1, J s2_1_1], .box [J t4_0_1, J t4_1_1, U t4_2_1, J t4_3_1], .box [J 1, J x8_1, U x8_2, J x8_3]] ?_ rfl rfl rfl rfl ?_
          · conv => whnf
            refine Nm.mk ⟨[J 1, J x8_1, U x8_2, J x8_3], rfl, ?_⟩
            conv => whnf
            rfl
          conv => whnf
          refine FNode.rd (F := [2]) (W := []) (.ptr 2 2) ?_ rfl rfl ?_
          · conv => whnf
            rfl
          conv => whnf
          refine FNode.pl (F := [2]) (W := [2]) (.undef) [.box [J s2_0_1, J s2_1_1], .box [J t4_0_1, J t4_1_1, U t4_2_1, J t4_3_1], .box [J 1, J x8_1, U t54, J x8_3]] ?_ rfl rfl rfl rfl ?_
          · conv => whnf
            refine Nm.mk ⟨[J 1, J x8_1, U t54, J x8_3], rfl, ?_⟩
            conv => whnf
            rfl
          conv => whnf
          refine FNode.rd (F := [2]) (W := []) (.ptr 2 3) ?_ rfl rfl ?_
          · conv => whnf
            rfl
          conv => whnf
          refine FNode.pl (F := [2]) (W := [2]) (.undef) [.box [J s2_0_1, J s2_1_1], .box [J t4_0_1, J t4_1_1, U t4_2_1, J t4_3_1], .box [J 1, J x8_1, U t54, J t63]] ?_ rfl rfl rfl rfl ?_
          · conv => whnf
            refine Nm.mk ⟨[J 1, J x8_1, U t54, J t63], rfl, ?_⟩
            conv => whnf
            rfl
          conv => whnf
          refine Nm.mk ⟨[J 1, J x8_1, U t54, J t63], rfl, ?_⟩
          have ehj12_0 := Option.some.inj hj12
          subst ehj12_0
          conv => whnf
          exact Returns.pure (r := .tup [float.number.enc ((⟨1, x8_1, t54, t63⟩ : float.number)), .lit (.bool true)]) rfl rfl rfl rfl ⟨rfl, rfl⟩
        have hj3 := bif_t hj2
        obtain ⟨t96, et96, hj4⟩ := bind_elim hj3
        conv => whnf
        refine Gate.go ?_
        conv => whnf
        refine CallN.by (v := J t96) (Flt.shape.least_ok et96) rfl rfl ?_
        conv => whnf
        refine Nm.mk ⟨[J 1, J x8_1, U x8_2, J x8_3], rfl, ?_⟩
        conv => whnf
        refine Nm.mk ⟨[J 1, J x8_1, U t48, J x8_3], rfl, ?_⟩
        conv => whnf
        refine Nm.mk ⟨[J 1, J x8_1, U t48, J t96], rfl, ?_⟩
        conv => whnf
        refine Nm.mk ⟨[J 1, J x8_1, U t48, J t96], rfl, ?_⟩
        have ehj4_0 := Option.some.inj hj4
        subst ehj4_0
        conv => whnf
        exact Returns.pure (r := .tup [float.number.enc ((⟨1, x8_1, t48, t96⟩ : float.number)), .lit (.bool true)]) rfl rfl rfl rfl ⟨rfl, rfl⟩
      have hj1 := bif_t hj0
      conv => whnf
      refine Nm.mk ⟨[J 0, J x8_1, U x8_2, J x8_3], rfl, ?_⟩
      conv => whnf
      refine Nm.mk ⟨[J 0, J x8_1, U x8_2, J x8_3], rfl, ?_⟩
      have ehj1_0 := Option.some.inj hj1
      subst ehj1_0
      conv => whnf
      exact Returns.pure (r := .tup [float.number.enc ((⟨0, x8_1, x8_2, x8_3⟩ : float.number)), .lit (.bool true)]) rfl rfl rfl rfl ⟨rfl, rfl⟩
    have hj4 := bif_t hj3
    conv => whnf
    refine Nm.mk ⟨[J 3, J x8_1, U x8_2, J x8_3], rfl, ?_⟩
    conv => whnf
    refine Nm.mk ⟨[J 3, J x8_1, U x8_2, J x8_3], rfl, ?_⟩
    have ehj4_0 := Option.some.inj hj4
    subst ehj4_0
    conv => whnf
    exact Returns.pure (r := .tup [float.number.enc ((⟨3, x8_1, x8_2, x8_3⟩ : float.number)), .lit (.bool true)]) rfl rfl rfl rfl ⟨rfl, rfl⟩
  have hj1 := bif_t hj0
  conv => whnf
  refine Nm.mk ⟨[J 2, J x8_1, U x8_2, J x8_3], rfl, ?_⟩
  conv => whnf
  refine Nm.mk ⟨[J 2, J x8_1, U x8_2, J x8_3], rfl, ?_⟩
  have ehj1_0 := Option.some.inj hj1
  subst ehj1_0
  conv => whnf
  exact Returns.pure (r := .tup [float.number.enc ((⟨2, x8_1, x8_2, x8_3⟩ : float.number)), .lit (.bool true)]) rfl rfl rfl rfl ⟨rfl, rfl⟩

noncomputable def Flt.Valid (kind0 a1 : Int) : Option Bool :=
  Option.bind (Flt.of kind0) fun (t9_0, t9_1) =>
  letk (!t9_1) fun t13 =>
  bif t13 then
    some false
  else
    Option.bind (Flt.shape.read (⟨t9_0.p, t9_0.w⟩ : float.shape) a1) fun (t17_0, t17_1) =>
    some t17_1

theorem Flt.Valid_ok {kind0 a1 : Int} {r : Bool} (h0 : Flt.Valid kind0 a1 = some r) : Gives Tryz.prog 108 [J kind0, J a1] (.lit (.bool r)) := by
  unfold Flt.Valid at h0
  refine ACalls.of_swp Tryz.func108 rfl (by decide) rfl (st0 := ⟨21, [(0, J kind0), (1, J a1)], []⟩) rfl (bwp_ok (C := []) ?_)
  obtain ⟨⟨t9_0, t9_1⟩, et9, h1⟩ := bind_elim h0
  conv => whnf
  refine Gate.go ?_
  conv => whnf
  refine CallN.by (v := .tup [float.shape.enc t9_0, .lit (.bool t9_1)]) (Flt.of_ok et9) rfl rfl ?_
  conv => whnf
  refine Nm.mk ⟨[J 0, J 0], rfl, ?_⟩
  conv => whnf
  refine Nm.mk ⟨[J t9_0.p, J t9_0.w], rfl, ?_⟩
  obtain ⟨t13, et13, h2⟩ := letk_elim h1
  conv => whnf
  refine Nm.mk ⟨t13, et13, ?_⟩
  rcases t13 with _ | _
  · have h3 := bif_f h2
    obtain ⟨⟨t17_0, t17_1⟩, et17, h4⟩ := bind_elim h3
    conv => whnf
    refine Gate.go ?_
    conv => whnf
    refine CallN.by (v := .tup [float.number.enc t17_0, .lit (.bool t17_1)]) (Flt.shape.read_ok et17) rfl rfl ?_
    have eh4_0 := Option.some.inj h4
    subst eh4_0
    conv => whnf
    exact Returns.pure (r := .lit (.bool t17_1)) rfl rfl rfl rfl ⟨rfl, rfl⟩
  have h3 := bif_t h2
  have eh3_0 := Option.some.inj h3
  subst eh3_0
  conv => whnf
  exact Returns.pure (r := .lit (.bool false)) rfl rfl rfl rfl ⟨rfl, rfl⟩

noncomputable def Arr.fits.j0 (kind0 n1 : Int) (t22 : Bool) : Option Bool :=
  bif t22 then
    Option.bind (Arr.bytes kind0) fun t26 =>
    Option.bind (Flt.Valid t26 n1) fun t28 =>
    some t28
  else
    some false

noncomputable def Arr.fits (kind0 n1 : Int) : Option Bool :=
  letk (kind0 == (1 : Int)) fun t7 =>
  bif t7 then
    letk (decide (n1 ≥ ((-2147483647) : Int))) fun t9 =>
    bif t9 then
      letk (decide (n1 ≤ (2147483647 : Int))) fun t12 =>
      some t12
    else
      some false
  else
    letk (kind0 == (2 : Int)) fun t15 =>
    bif t15 then
      letk (n1 == (0 : Int)) fun t17 =>
      bif t17 then
        some true
      else
        letk (n1 == (1 : Int)) fun t20 =>
        some t20
    else
      letk (kind0 == (3 : Int)) fun t23 =>
      bif t23 then
        Arr.fits.j0 kind0 n1 true
      else
        letk (kind0 == (4 : Int)) fun t24 =>
        Arr.fits.j0 kind0 n1 t24

theorem Arr.fits_ok {kind0 n1 : Int} {r : Bool} (h0 : Arr.fits kind0 n1 = some r) : Gives Tryz.prog 54 [J kind0, J n1] (.lit (.bool r)) := by
  unfold Arr.fits at h0
  refine ACalls.of_swp Tryz.func54 rfl (by decide) rfl (st0 := ⟨29, [(0, J kind0), (1, J n1)], []⟩) rfl (bwp_ok (C := [(32, 17)]) ?_)
  obtain ⟨t7, et7, h1⟩ := letk_elim h0
  conv => whnf
  refine Nm.mk ⟨t7, et7, ?_⟩
  rcases t7 with _ | _
  · have h2 := bif_f h1
    obtain ⟨t15, et15, h3⟩ := letk_elim h2
    conv => whnf
    refine Nm.mk ⟨t15, et15, ?_⟩
    rcases t15 with _ | _
    · have h4 := bif_f h3
      conv => whnf
      refine CutN.of (fun s => ∃ (t22 : Bool), Arr.fits.j0 kind0 n1 t22 = some r ∧ s = (⟨29, [(0, J kind0), (1, J n1), (22, .lit (.bool t22))], []⟩ : St)) ?_ ?_
      · obtain ⟨t23, et23, h5⟩ := letk_elim h4
        conv => whnf
        refine Nm.mk ⟨t23, et23, ?_⟩
        rcases t23 with _ | _
        · have h6 := bif_f h5
          obtain ⟨t24, et24, h7⟩ := letk_elim h6
          conv => whnf
          refine Nm.mk ⟨t24, et24, ?_⟩
          exact BackS.by ⟨_, h7, rfl⟩ (Sees.e ⟨.s, .s, .s, trivial⟩)
        have h6 := bif_t h5
        exact BackS.by ⟨_, h6, rfl⟩ (Sees.e ⟨.s, .s, .s, trivial⟩)
      rintro s ⟨t22, hj0, rfl⟩
      unfold Arr.fits.j0 at hj0
      rcases t22 with _ | _
      · have hj1 := bif_f hj0
        have ehj1_0 := Option.some.inj hj1
        subst ehj1_0
        conv => whnf
        exact Returns.pure (r := .lit (.bool false)) rfl rfl rfl rfl ⟨rfl, rfl⟩
      have hj1 := bif_t hj0
      obtain ⟨t26, et26, hj2⟩ := bind_elim hj1
      conv => whnf
      refine Gate.go ?_
      conv => whnf
      refine CallN.by (v := J t26) (Arr.bytes_ok et26) rfl rfl ?_
      obtain ⟨t28, et28, hj3⟩ := bind_elim hj2
      conv => whnf
      refine Gate.go ?_
      conv => whnf
      refine CallN.by (v := .lit (.bool t28)) (Flt.Valid_ok et28) rfl rfl ?_
      have ehj3_0 := Option.some.inj hj3
      subst ehj3_0
      conv => whnf
      exact Returns.pure (r := .lit (.bool t28)) rfl rfl rfl rfl ⟨rfl, rfl⟩
    have h4 := bif_t h3
    obtain ⟨t17, et17, h5⟩ := letk_elim h4
    conv => whnf
    refine Nm.mk ⟨t17, et17, ?_⟩
    rcases t17 with _ | _
    · have h6 := bif_f h5
      obtain ⟨t20, et20, h7⟩ := letk_elim h6
      conv => whnf
      refine Nm.mk ⟨t20, et20, ?_⟩
      have eh7_0 := Option.some.inj h7
      subst eh7_0
      conv => whnf
      exact Returns.pure (r := .lit (.bool t20)) rfl rfl rfl rfl ⟨rfl, rfl⟩
    have h6 := bif_t h5
    have eh6_0 := Option.some.inj h6
    subst eh6_0
    conv => whnf
    exact Returns.pure (r := .lit (.bool true)) rfl rfl rfl rfl ⟨rfl, rfl⟩
  have h2 := bif_t h1
  obtain ⟨t9, et9, h3⟩ := letk_elim h2
  conv => whnf
  refine Nm.mk ⟨t9, et9, ?_⟩
  rcases t9 with _ | _
  · have h4 := bif_f h3
    have eh4_0 := Option.some.inj h4
    subst eh4_0
    conv => whnf
    exact Returns.pure (r := .lit (.bool false)) rfl rfl rfl rfl ⟨rfl, rfl⟩
  have h4 := bif_t h3
  obtain ⟨t12, et12, h5⟩ := letk_elim h4
  conv => whnf
  refine Nm.mk ⟨t12, et12, ?_⟩
  have eh5_0 := Option.some.inj h5
  subst eh5_0
  conv => whnf
  exact Returns.pure (r := .lit (.bool t12)) rfl rfl rfl rfl ⟨rfl, rfl⟩

noncomputable def Arr.Valid_1 (n0 : Int) (t1 : api.Array) : Option Bool :=
  Option.bind (Arr.fits t1.Kind n0) fun t7 =>
  letk (!t7) fun t8 =>
  some t8

theorem Arr.Valid_1_ok {n0 : Int} {t1 : api.Array} {r : Bool} (h0 : Arr.Valid_1 n0 t1 = some r) : Gives Tryz.prog 53 [J n0, .iptr (api.Array.enc t1)] (.lit (.bool r)) := by
  unfold Arr.Valid_1 at h0
  refine ACalls.of_swp Tryz.func53 rfl (by decide) rfl (st0 := ⟨9, [(0, J n0), (1, .iptr (api.Array.enc t1))], []⟩) rfl (bwp_ok (C := []) ?_)
  obtain ⟨t7, et7, h1⟩ := bind_elim h0
  conv => whnf
  refine Gate.go ?_
  conv => whnf
  refine CallN.by (v := .lit (.bool t7)) (Arr.fits_ok et7) rfl rfl ?_
  obtain ⟨t8, et8, h2⟩ := letk_elim h1
  conv => whnf
  refine Nm.mk ⟨t8, et8, ?_⟩
  have eh2_0 := Option.some.inj h2
  subst eh2_0
  conv => whnf
  exact Returns.pure (r := .lit (.bool t8)) rfl rfl rfl rfl ⟨rfl, rfl⟩

noncomputable def Arr.Valid (a0 : api.Array) : Option Bool :=
  letk (decide (a0.Kind ≥ (1 : Int))) fun t5 =>
  bif t5 then
    letk (decide (a0.Kind ≤ (4 : Int))) fun t9 =>
    bif t9 then
      Option.bind (Arr.size a0.Shape) fun t14 =>
      letk ((a0.Elems.length : Int)) fun t17 =>
      letk (t14 == t17) fun t18 =>
      bif t18 then
        Option.bind (Slcs.ContainsFunc___int_int_ a0.Elems (fun z0_ => Arr.Valid_1 z0_ (⟨a0.Kind, a0.Shape, a0.Elems⟩ : api.Array))) fun t24 =>
        letk (!t24) fun t25 =>
        some t25
      else
        some false
    else
      some false
  else
    some false

theorem Arr.Valid_ok {a0 : api.Array} {r : Bool} (h0 : Arr.Valid a0 = some r) : Gives Tryz.prog 20 [api.Array.enc a0] (.lit (.bool r)) := by
  unfold Arr.Valid at h0
  refine ACalls.of_swp Tryz.func20 rfl (by decide) rfl (st0 := ⟨27, [(0, api.Array.enc a0)], []⟩) rfl (bwp_ok (C := []) ?_)
  conv => whnf
  refine Nm.mk ⟨[J a0.Kind, .vs 1 (a0.Shape.map (eI .i64)), .vs 1 (a0.Elems.map (eI .i64))], rfl, ?_⟩
  conv => whnf
  refine DrawB.sees (Sees.of (Weak.objs (k := 27) (keep := []) (frz := [0]) (m := 0) (ts := [(1, .iptr (.agg [J a0.Kind, .vs 1 (a0.Shape.map (eI .i64)), .vs 1 (a0.Elems.map (eI .i64))]))]) (hs := []) rfl (by decide) rfl rfl ⟨rfl, fun _ h => by cases h⟩ ⟨(.ptrFrz 0 _ (by decide) rfl rfl), trivial⟩)) ?_
  refine DrawB.ofG [none, none, none, none, some 6, some 6, some 6, none, none, some 11, some 11, some 11, some 11, some 11, some 11, some 11, none, none, some 20, some 20, some 20, some 20, some 20, none, none] Tryz_mixed (by kernel_rfl) (by kernel_rfl) ?_
  conv => whnf
  refine DNodeB.of (.iptr (J a0.Kind)) ?_ ?_
  · conv => whnf
    rfl
  conv => whnf
  refine DNodeB.of (J a0.Kind) ?_ ?_
  · conv => whnf
    rfl
  obtain ⟨t5, et5, h1⟩ := letk_elim h0
  conv => whnf
  refine DNodeB.of (.lit (.bool t5)) ?_ ?_
  · conv => whnf
    refine Nm.mk ⟨t5, et5, ?_⟩
    conv => whnf
    rfl
  conv => whnf
  refine DNodeB.of (.lit (.bool t5)) ?_ ?_
  · conv => whnf
    rfl
  rcases t5 with _ | _
  · have h2 := bif_f h1
    conv => whnf
    refine DNodeB.of (.lit (.bool false)) ?_ ?_
    · conv => whnf
      rfl
    conv => whnf
    refine DNodeB.of (.lit (.bool false)) ?_ ?_
    · conv => whnf
      rfl
    conv => whnf
    refine DNodeB.of (.lit (.bool false)) ?_ ?_
    · conv => whnf
      rfl
    conv => whnf
    refine DNodeB.of (.lit (.bool false)) ?_ ?_
    · conv => whnf
      rfl
    conv => whnf
    refine DNodeB.of (.lit (.bool false)) ?_ ?_
    · conv => whnf
      rfl
    conv => whnf
    refine DNodeB.of (.lit (.bool false)) ?_ ?_
    · conv => whnf
      rfl
    have eh2_0 := Option.some.inj h2
    subst eh2_0
    conv => whnf
    exact Returns.pure (r := .lit (.bool false)) rfl rfl rfl rfl ⟨rfl, rfl⟩
  have h2 := bif_t h1
  conv => whnf
  refine DNodeB.of (.iptr (J a0.Kind)) ?_ ?_
  · conv => whnf
    rfl
  conv => whnf
  refine DNodeB.of (J a0.Kind) ?_ ?_
  · conv => whnf
    rfl
  obtain ⟨t9, et9, h3⟩ := letk_elim h2
  conv => whnf
  refine DNodeB.of (.lit (.bool t9)) ?_ ?_
  · conv => whnf
    refine Nm.mk ⟨t9, et9, ?_⟩
    conv => whnf
    rfl
  conv => whnf
  refine DNodeB.of (.lit (.bool t9)) ?_ ?_
  · conv => whnf
    rfl
  conv => whnf
  refine DNodeB.of (.lit (.bool t9)) ?_ ?_
  · conv => whnf
    rfl
  rcases t9 with _ | _
  · have h4 := bif_f h3
    conv => whnf
    refine DNodeB.of (.lit (.bool false)) ?_ ?_
    · conv => whnf
      rfl
    conv => whnf
    refine DNodeB.of (.lit (.bool false)) ?_ ?_
    · conv => whnf
      rfl
    conv => whnf
    refine DNodeB.of (.lit (.bool false)) ?_ ?_
    · conv => whnf
      rfl
    conv => whnf
    refine DNodeB.of (.lit (.bool false)) ?_ ?_
    · conv => whnf
      rfl
    have eh4_0 := Option.some.inj h4
    subst eh4_0
    conv => whnf
    exact Returns.pure (r := .lit (.bool false)) rfl rfl rfl rfl ⟨rfl, rfl⟩
  have h4 := bif_t h3
  conv => whnf
  refine DNodeB.of (.iptr (.vs 1 (a0.Shape.map (eI .i64)))) ?_ ?_
  · conv => whnf
    rfl
  conv => whnf
  refine DNodeB.of (.vs 1 (a0.Shape.map (eI .i64))) ?_ ?_
  · conv => whnf
    rfl
  obtain ⟨t14, et14, h5⟩ := bind_elim h4
  conv => whnf
  refine DNodeB.of (J t14) ?_ ?_
  · conv => whnf
    refine CallN.by (v := J t14) (Arr.size_ok et14) rfl rfl ?_
    conv => whnf
    rfl
  conv => whnf
  refine DNodeB.of (.iptr (.vs 1 (a0.Elems.map (eI .i64)))) ?_ ?_
  · conv => whnf
    rfl
  conv => whnf
  refine DNodeB.of (.vs 1 (a0.Elems.map (eI .i64))) ?_ ?_
  · conv => whnf
    rfl
  obtain ⟨t17, et17, h6⟩ := letk_elim h5
  conv => whnf
  refine DNodeB.of (J t17) ?_ ?_
  · conv => whnf
    refine Nm.mk ⟨t17, by rw [et17, List.length_map], ?_⟩
    conv => whnf
    rfl
  obtain ⟨t18, et18, h7⟩ := letk_elim h6
  conv => whnf
  refine DNodeB.of (.lit (.bool t18)) ?_ ?_
  · conv => whnf
    refine Nm.mk ⟨t18, et18, ?_⟩
    conv => whnf
    rfl
  conv => whnf
  refine DNodeB.of (.lit (.bool t18)) ?_ ?_
  · conv => whnf
    rfl
  conv => whnf
  refine DNodeB.of (.lit (.bool t18)) ?_ ?_
  · conv => whnf
    rfl
  rcases t18 with _ | _
  · have h8 := bif_f h7
    conv => whnf
    refine DNodeB.of (.lit (.bool false)) ?_ ?_
    · conv => whnf
      rfl
    conv => whnf
    refine DNodeB.of (.lit (.bool false)) ?_ ?_
    · conv => whnf
      rfl
    have eh8_0 := Option.some.inj h8
    subst eh8_0
    conv => whnf
    exact Returns.pure (r := .lit (.bool false)) rfl rfl rfl rfl ⟨rfl, rfl⟩
  have h8 := bif_t h7
  conv => whnf
  refine DNodeB.of (.iptr (.vs 1 (a0.Elems.map (eI .i64)))) ?_ ?_
  · conv => whnf
    rfl
  conv => whnf
  refine DNodeB.of (.vs 1 (a0.Elems.map (eI .i64))) ?_ ?_
  · conv => whnf
    rfl
  conv => whnf
  refine DNodeB.of (.fn (.func 53) [] [.iptr (.agg [J a0.Kind, .vs 1 (a0.Shape.map (eI .i64)), .vs 1 (a0.Elems.map (eI .i64))])]) ?_ ?_
  · conv => whnf
    rfl
  obtain ⟨t24, et24, h9⟩ := bind_elim h8
  conv => whnf
  refine DNodeB.of (.lit (.bool t24)) ?_ ?_
  · conv => whnf
    refine CallN.by (v := .lit (.bool t24)) (Slcs.ContainsFunc___int_int__ok (show List.all [.iptr (.agg [J a0.Kind, .vs 1 (a0.Shape.map (eI .i64)), .vs 1 (a0.Elems.map (eI .i64))])] pureQ.pureQ0 = true from rfl) (fun _ r h => Arr.Valid_1_ok h) et24) rfl rfl ?_
    conv => whnf
    rfl
  obtain ⟨t25, et25, h10⟩ := letk_elim h9
  conv => whnf
  refine DNodeB.of (.lit (.bool t25)) ?_ ?_
  · conv => whnf
    refine Nm.mk ⟨t25, et25, ?_⟩
    conv => whnf
    rfl
  conv => whnf
  refine DNodeB.of (.lit (.bool t25)) ?_ ?_
  · conv => whnf
    rfl
  conv => whnf
  refine DNodeB.of (.lit (.bool t25)) ?_ ?_
  · conv => whnf
    rfl
  have eh10_0 := Option.some.inj h10
  subst eh10_0
  conv => whnf
  exact Returns.pure (r := .lit (.bool t25)) rfl rfl rfl rfl ⟨rfl, rfl⟩

noncomputable def Arr.Call_1 (a0 : api.Array) : Option Bool :=
  Option.bind (Arr.Valid (⟨a0.Kind, a0.Shape, a0.Elems⟩ : api.Array)) fun t4 =>
  letk (!t4) fun t5 =>
  some t5

theorem Arr.Call_1_ok {a0 : api.Array} {r : Bool} (h0 : Arr.Call_1 a0 = some r) : Gives Tryz.prog 38 [api.Array.enc a0] (.lit (.bool r)) := by
  unfold Arr.Call_1 at h0
  refine ACalls.of_swp Tryz.func38 rfl (by decide) rfl (st0 := ⟨6, [(0, api.Array.enc a0)], []⟩) rfl (bwp_ok (C := []) ?_)
  conv => whnf
  refine Nm.mk ⟨[J a0.Kind, .vs 1 (a0.Shape.map (eI .i64)), .vs 1 (a0.Elems.map (eI .i64))], rfl, ?_⟩
  obtain ⟨t4, et4, h1⟩ := bind_elim h0
  conv => whnf
  refine Gate.go ?_
  conv => whnf
  refine CallN.by (v := .lit (.bool t4)) (Arr.Valid_ok et4) rfl rfl ?_
  obtain ⟨t5, et5, h2⟩ := letk_elim h1
  conv => whnf
  refine Nm.mk ⟨t5, et5, ?_⟩
  have eh2_0 := Option.some.inj h2
  subst eh2_0
  conv => whnf
  exact Returns.pure (r := .lit (.bool t5)) rfl rfl rfl rfl ⟨rfl, rfl⟩

noncomputable def Arr.isNumber (kind0 : Int) : Option Bool :=
  letk (kind0 == (1 : Int)) fun t4 =>
  bif t4 then
    some true
  else
    Option.bind (Arr.bytes kind0) fun t7 =>
    letk (decide (t7 > (0 : Int))) fun t8 =>
    some t8

theorem Arr.isNumber_ok {kind0 : Int} {r : Bool} (h0 : Arr.isNumber kind0 = some r) : Gives Tryz.prog 67 [J kind0] (.lit (.bool r)) := by
  unfold Arr.isNumber at h0
  refine ACalls.of_swp Tryz.func67 rfl (by decide) rfl (st0 := ⟨10, [(0, J kind0)], []⟩) rfl (bwp_ok (C := []) ?_)
  obtain ⟨t4, et4, h1⟩ := letk_elim h0
  conv => whnf
  refine Nm.mk ⟨t4, et4, ?_⟩
  rcases t4 with _ | _
  · have h2 := bif_f h1
    obtain ⟨t7, et7, h3⟩ := bind_elim h2
    conv => whnf
    refine Gate.go ?_
    conv => whnf
    refine CallN.by (v := J t7) (Arr.bytes_ok et7) rfl rfl ?_
    obtain ⟨t8, et8, h4⟩ := letk_elim h3
    conv => whnf
    refine Nm.mk ⟨t8, et8, ?_⟩
    have eh4_0 := Option.some.inj h4
    subst eh4_0
    conv => whnf
    exact Returns.pure (r := .lit (.bool t8)) rfl rfl rfl rfl ⟨rfl, rfl⟩
  have h2 := bif_t h1
  have eh2_0 := Option.some.inj h2
  subst eh2_0
  conv => whnf
  exact Returns.pure (r := .lit (.bool true)) rfl rfl rfl rfl ⟨rfl, rfl⟩

noncomputable def Arr.Kind.j3 (op0 : ByteArray) (a1 b2 : Int) (t53 : Bool) : Option Int :=
  bif t53 then
    some 2
  else
    Option.bind (Slcs.Contains___string_string_ ([⟨#[61, 61]⟩, ⟨#[47, 61]⟩, ⟨#[46, 97, 110, 100, 46]⟩, ⟨#[46, 111, 114, 46]⟩]) op0) fun t68 =>
    bif t68 then
      letk (a1 == (2 : Int)) fun t71 =>
      bif t71 then
        letk (b2 == (2 : Int)) fun t75 =>
        bif t75 then
          some 2
        else
          some 0
      else
        some 0
    else
      some 0

noncomputable def Arr.Kind.j2 (op0 : ByteArray) (a1 b2 : Int) (t38 : Bool) : Option Int :=
  bif t38 then
    letk (if b2 > a1 then b2 else a1) fun t52 =>
    some t52
  else
    Option.bind (Slcs.Contains___string_string_ ([⟨#[61, 61]⟩, ⟨#[47, 61]⟩, ⟨#[60]⟩, ⟨#[60, 61]⟩, ⟨#[62]⟩, ⟨#[62, 61]⟩]) op0) fun t56 =>
    bif t56 then
      Option.bind (Arr.isNumber a1) fun t59 =>
      bif t59 then
        Option.bind (Arr.isNumber b2) fun t63 =>
        Arr.Kind.j3 op0 a1 b2 t63
      else
        Arr.Kind.j3 op0 a1 b2 false
    else
      Arr.Kind.j3 op0 a1 b2 false

noncomputable def Arr.Kind.j1 (op0 : ByteArray) (a1 b2 : Int) (t23 : Bool) : Option Int :=
  bif t23 then
    some a1
  else
    letk (b2 == (0 : Int)) fun t37 =>
    bif t37 then
      some 0
    else
      Option.bind (Slcs.Contains___string_string_ ([⟨#[43]⟩, ⟨#[45]⟩, ⟨#[42]⟩, ⟨#[47]⟩]) op0) fun t41 =>
      bif t41 then
        Option.bind (Arr.isNumber a1) fun t44 =>
        bif t44 then
          Option.bind (Arr.isNumber b2) fun t48 =>
          Arr.Kind.j2 op0 a1 b2 t48
        else
          Arr.Kind.j2 op0 a1 b2 false
      else
        Arr.Kind.j2 op0 a1 b2 false

noncomputable def Arr.Kind.j0 (op0 : ByteArray) (a1 b2 : Int) (t7 : Bool) : Option Int :=
  bif t7 then
    some a1
  else
    letk (b2 == (0 : Int)) fun t25 =>
    bif t25 then
      letk (op0.toList == (⟨#[46, 110, 111, 116, 46]⟩ : ByteArray).toList) fun t28 =>
      bif t28 then
        letk (a1 == (2 : Int)) fun t32 =>
        Arr.Kind.j1 op0 a1 b2 t32
      else
        Arr.Kind.j1 op0 a1 b2 false
    else
      Arr.Kind.j1 op0 a1 b2 false

noncomputable def Arr.Kind (op0 : ByteArray) (a1 b2 : Int) : Option Int :=
  letk (b2 == (0 : Int)) fun t9 =>
  bif t9 then
    letk (op0.toList == (⟨#[43]⟩ : ByteArray).toList) fun t12 =>
    bif t12 then
      Option.bind (Arr.isNumber a1) fun t20_1 =>
      Arr.Kind.j0 op0 a1 b2 t20_1
    else
      letk (op0.toList == (⟨#[45]⟩ : ByteArray).toList) fun t15 =>
      bif t15 then
        Option.bind (Arr.isNumber a1) fun t20 =>
        Arr.Kind.j0 op0 a1 b2 t20
      else
        Arr.Kind.j0 op0 a1 b2 false
  else
    Arr.Kind.j0 op0 a1 b2 false

theorem Arr.Kind_ok {op0 : ByteArray} {a1 b2 r : Int} (h0 : Arr.Kind op0 a1 b2 = some r) : Gives Tryz.prog 27 [.lit (.string op0), J a1, J b2] (J r) := by
  unfold Arr.Kind at h0
  refine ACalls.of_swp Tryz.func27 rfl (by decide) rfl (st0 := ⟨77, [(0, .lit (.string op0)), (1, J a1), (2, J b2)], []⟩) rfl (bwp_ok (C := [(17, 5), (33, 9), (48, 17), (63, 21)]) ?_)
  conv => whnf
  refine CutN.of (fun s => ∃ (t7 : Bool), Arr.Kind.j0 op0 a1 b2 t7 = some r ∧ s = (⟨77, [(0, .lit (.string op0)), (1, J a1), (2, J b2), (7, .lit (.bool t7))], []⟩ : St)) ?_ ?_
  · obtain ⟨t9, et9, h1⟩ := letk_elim h0
    conv => whnf
    refine Nm.mk ⟨t9, et9, ?_⟩
    rcases t9 with _ | _
    · have h2 := bif_f h1
      exact BackS.by ⟨_, h2, rfl⟩ (Sees.e ⟨.s, .s, .s, .s, trivial⟩)
    have h2 := bif_t h1
    obtain ⟨t12, et12, h3⟩ := letk_elim h2
    conv => whnf
    refine Nm.mk ⟨t12, et12, ?_⟩
    rcases t12 with _ | _
    · have h4 := bif_f h3
      obtain ⟨t15, et15, h5⟩ := letk_elim h4
      conv => whnf
      refine Nm.mk ⟨t15, et15, ?_⟩
      rcases t15 with _ | _
      · have h6 := bif_f h5
        exact BackS.by ⟨_, h6, rfl⟩ (Sees.e ⟨.s, .s, .s, .s, trivial⟩)
      have h6 := bif_t h5
      obtain ⟨t20, et20, h7⟩ := bind_elim h6
      conv => whnf
      refine Gate.go ?_
      conv => whnf
      refine CallN.by (v := .lit (.bool t20)) (Arr.isNumber_ok et20) rfl rfl ?_
      exact BackS.by ⟨_, h7, rfl⟩ (Sees.e ⟨.s, .s, .s, .s, trivial⟩)
    have h4 := bif_t h3
    obtain ⟨t20_1, et20_1, h5⟩ := bind_elim h4
    conv => whnf
    refine Gate.go ?_
    conv => whnf
    refine CallN.by (v := .lit (.bool t20_1)) (Arr.isNumber_ok et20_1) rfl rfl ?_
    exact BackS.by ⟨_, h5, rfl⟩ (Sees.e ⟨.s, .s, .s, .s, trivial⟩)
  rintro s ⟨t7, hj0, rfl⟩
  unfold Arr.Kind.j0 at hj0
  rcases t7 with _ | _
  · have hj1 := bif_f hj0
    conv => whnf
    refine CutN.of (fun s => ∃ (t23 : Bool), Arr.Kind.j1 op0 a1 b2 t23 = some r ∧ s = (⟨77, [(0, .lit (.string op0)), (1, J a1), (2, J b2), (23, .lit (.bool t23))], []⟩ : St)) ?_ ?_
    · obtain ⟨t25, et25, hj2⟩ := letk_elim hj1
      conv => whnf
      refine Nm.mk ⟨t25, et25, ?_⟩
      rcases t25 with _ | _
      · have hj3 := bif_f hj2
        exact BackS.by ⟨_, hj3, rfl⟩ (Sees.e ⟨.s, .s, .s, .s, trivial⟩)
      have hj3 := bif_t hj2
      obtain ⟨t28, et28, hj4⟩ := letk_elim hj3
      conv => whnf
      refine Nm.mk ⟨t28, et28, ?_⟩
      rcases t28 with _ | _
      · have hj5 := bif_f hj4
        exact BackS.by ⟨_, hj5, rfl⟩ (Sees.e ⟨.s, .s, .s, .s, trivial⟩)
      have hj5 := bif_t hj4
      obtain ⟨t32, et32, hj6⟩ := letk_elim hj5
      conv => whnf
      refine Nm.mk ⟨t32, et32, ?_⟩
      exact BackS.by ⟨_, hj6, rfl⟩ (Sees.e ⟨.s, .s, .s, .s, trivial⟩)
    rintro s ⟨t23, hj0, rfl⟩
    unfold Arr.Kind.j1 at hj0
    rcases t23 with _ | _
    · have hj1 := bif_f hj0
      obtain ⟨t37, et37, hj2⟩ := letk_elim hj1
      conv => whnf
      refine Nm.mk ⟨t37, et37, ?_⟩
      rcases t37 with _ | _
      · have hj3 := bif_f hj2
        conv => whnf
        refine CutN.of (fun s => ∃ (t38 : Bool), Arr.Kind.j2 op0 a1 b2 t38 = some r ∧ s = (⟨77, [(0, .lit (.string op0)), (1, J a1), (2, J b2), (38, .lit (.bool t38))], []⟩ : St)) ?_ ?_
        · conv => whnf
          refine Gate.go ?_
          conv => whnf
          refine Nm.mk ⟨([⟨#[43]⟩, ⟨#[45]⟩, ⟨#[42]⟩, ⟨#[47]⟩]).map (eS), rfl, ?_⟩
          obtain ⟨t41, et41, hj4⟩ := bind_elim hj3
          conv => whnf
          refine Gate.weak (Sees.of (Weak.objs (k := 77) (keep := []) (frz := [0]) (m := 0) (ts := [(0, .lit (.string op0)), (1, J a1), (2, J b2), (39, .vs 1 (([⟨#[43]⟩, ⟨#[45]⟩, ⟨#[42]⟩, ⟨#[47]⟩]).map (eS))), (40, .lit (.string op0))]) (hs := []) rfl (by decide) rfl rfl ⟨rfl, fun _ h => by cases h⟩ ⟨.s, .s, .s, (WV.all (k := 0) (by decide) rfl), .s, trivial⟩)) ?_
          conv => whnf
          refine CallN.by (v := .lit (.bool t41)) (Slcs.Contains___string_string__ok et41) rfl rfl ?_
          rcases t41 with _ | _
          · have hj5 := bif_f hj4
            exact BackS.by ⟨_, hj5, rfl⟩ (Sees.e ⟨.s, .s, .s, .s, trivial⟩)
          have hj5 := bif_t hj4
          obtain ⟨t44, et44, hj6⟩ := bind_elim hj5
          conv => whnf
          refine Gate.go ?_
          conv => whnf
          refine CallN.by (v := .lit (.bool t44)) (Arr.isNumber_ok et44) rfl rfl ?_
          rcases t44 with _ | _
          · have hj7 := bif_f hj6
            exact BackS.by ⟨_, hj7, rfl⟩ (Sees.e ⟨.s, .s, .s, .s, trivial⟩)
          have hj7 := bif_t hj6
          obtain ⟨t48, et48, hj8⟩ := bind_elim hj7
          conv => whnf
          refine Gate.go ?_
          conv => whnf
          refine CallN.by (v := .lit (.bool t48)) (Arr.isNumber_ok et48) rfl rfl ?_
          exact BackS.by ⟨_, hj8, rfl⟩ (Sees.e ⟨.s, .s, .s, .s, trivial⟩)
        rintro s ⟨t38, hj0, rfl⟩
        unfold Arr.Kind.j2 at hj0
        rcases t38 with _ | _
        · have hj1 := bif_f hj0
          conv => whnf
          refine CutN.of (fun s => ∃ (t53 : Bool), Arr.Kind.j3 op0 a1 b2 t53 = some r ∧ s = (⟨77, [(0, .lit (.string op0)), (1, J a1), (2, J b2), (53, .lit (.bool t53))], []⟩ : St)) ?_ ?_
          · conv => whnf
            refine Gate.go ?_
            conv => whnf
            refine Nm.mk ⟨([⟨#[61, 61]⟩, ⟨#[47, 61]⟩, ⟨#[60]⟩, ⟨#[60, 61]⟩, ⟨#[62]⟩, ⟨#[62, 61]⟩]).map (eS), rfl, ?_⟩
            obtain ⟨t56, et56, hj2⟩ := bind_elim hj1
            conv => whnf
            refine Gate.weak (Sees.of (Weak.objs (k := 77) (keep := []) (frz := [0]) (m := 0) (ts := [(0, .lit (.string op0)), (1, J a1), (2, J b2), (54, .vs 1 (([⟨#[61, 61]⟩, ⟨#[47, 61]⟩, ⟨#[60]⟩, ⟨#[60, 61]⟩, ⟨#[62]⟩, ⟨#[62, 61]⟩]).map (eS))), (55, .lit (.string op0))]) (hs := []) rfl (by decide) rfl rfl ⟨rfl, fun _ h => by cases h⟩ ⟨.s, .s, .s, (WV.all (k := 0) (by decide) rfl), .s, trivial⟩)) ?_
            conv => whnf
            refine CallN.by (v := .lit (.bool t56)) (Slcs.Contains___string_string__ok et56) rfl rfl ?_
            rcases t56 with _ | _
            · have hj3 := bif_f hj2
              exact BackS.by ⟨_, hj3, rfl⟩ (Sees.e ⟨.s, .s, .s, .s, trivial⟩)
            have hj3 := bif_t hj2
            obtain ⟨t59, et59, hj4⟩ := bind_elim hj3
            conv => whnf
            refine Gate.go ?_
            conv => whnf
            refine CallN.by (v := .lit (.bool t59)) (Arr.isNumber_ok et59) rfl rfl ?_
            rcases t59 with _ | _
            · have hj5 := bif_f hj4
              exact BackS.by ⟨_, hj5, rfl⟩ (Sees.e ⟨.s, .s, .s, .s, trivial⟩)
            have hj5 := bif_t hj4
            obtain ⟨t63, et63, hj6⟩ := bind_elim hj5
            conv => whnf
            refine Gate.go ?_
            conv => whnf
            refine CallN.by (v := .lit (.bool t63)) (Arr.isNumber_ok et63) rfl rfl ?_
            exact BackS.by ⟨_, hj6, rfl⟩ (Sees.e ⟨.s, .s, .s, .s, trivial⟩)
          rintro s ⟨t53, hj0, rfl⟩
          unfold Arr.Kind.j3 at hj0
          rcases t53 with _ | _
          · have hj1 := bif_f hj0
            conv => whnf
            refine Gate.go ?_
            conv => whnf
            refine Nm.mk ⟨([⟨#[61, 61]⟩, ⟨#[47, 61]⟩, ⟨#[46, 97, 110, 100, 46]⟩, ⟨#[46, 111, 114, 46]⟩]).map (eS), rfl, ?_⟩
            obtain ⟨t68, et68, hj2⟩ := bind_elim hj1
            conv => whnf
            refine Gate.weak (Sees.of (Weak.objs (k := 77) (keep := []) (frz := [0]) (m := 0) (ts := [(1, J a1), (2, J b2), (66, .vs 1 (([⟨#[61, 61]⟩, ⟨#[47, 61]⟩, ⟨#[46, 97, 110, 100, 46]⟩, ⟨#[46, 111, 114, 46]⟩]).map (eS))), (67, .lit (.string op0))]) (hs := []) rfl (by decide) rfl rfl ⟨rfl, fun _ h => by cases h⟩ ⟨.s, .s, (WV.all (k := 0) (by decide) rfl), .s, trivial⟩)) ?_
            conv => whnf
            refine CallN.by (v := .lit (.bool t68)) (Slcs.Contains___string_string__ok et68) rfl rfl ?_
            rcases t68 with _ | _
            · have hj3 := bif_f hj2
              have ehj3_0 := Option.some.inj hj3
              subst ehj3_0
              conv => whnf
              exact Returns.pure (r := J 0) rfl rfl rfl rfl ⟨rfl, rfl⟩
            have hj3 := bif_t hj2
            obtain ⟨t71, et71, hj4⟩ := letk_elim hj3
            conv => whnf
            refine Nm.mk ⟨t71, et71, ?_⟩
            rcases t71 with _ | _
            · have hj5 := bif_f hj4
              have ehj5_0 := Option.some.inj hj5
              subst ehj5_0
              conv => whnf
              exact Returns.pure (r := J 0) rfl rfl rfl rfl ⟨rfl, rfl⟩
            have hj5 := bif_t hj4
            obtain ⟨t75, et75, hj6⟩ := letk_elim hj5
            conv => whnf
            refine Nm.mk ⟨t75, et75, ?_⟩
            rcases t75 with _ | _
            · have hj7 := bif_f hj6
              have ehj7_0 := Option.some.inj hj7
              subst ehj7_0
              conv => whnf
              exact Returns.pure (r := J 0) rfl rfl rfl rfl ⟨rfl, rfl⟩
            have hj7 := bif_t hj6
            have ehj7_0 := Option.some.inj hj7
            subst ehj7_0
            conv => whnf
            exact Returns.pure (r := J 2) rfl rfl rfl rfl ⟨rfl, rfl⟩
          have hj1 := bif_t hj0
          have ehj1_0 := Option.some.inj hj1
          subst ehj1_0
          conv => whnf
          exact Returns.pure (r := J 2) rfl rfl rfl rfl ⟨rfl, rfl⟩
        have hj1 := bif_t hj0
        obtain ⟨t52, et52, hj2⟩ := letk_elim hj1
        conv => whnf
        refine Nm.mk ⟨t52, et52, ?_⟩
        have ehj2_0 := Option.some.inj hj2
        subst ehj2_0
        conv => whnf
        exact Returns.pure (r := J t52) rfl rfl rfl rfl ⟨rfl, rfl⟩
      have hj3 := bif_t hj2
      have ehj3_0 := Option.some.inj hj3
      subst ehj3_0
      conv => whnf
      exact Returns.pure (r := J 0) rfl rfl rfl rfl ⟨rfl, rfl⟩
    have hj1 := bif_t hj0
    have ehj1_0 := Option.some.inj hj1
    subst ehj1_0
    conv => whnf
    exact Returns.pure (r := J a1) rfl rfl rfl rfl ⟨rfl, rfl⟩
  have hj1 := bif_t hj0
  have ehj1_0 := Option.some.inj hj1
  subst ehj1_0
  conv => whnf
  exact Returns.pure (r := J a1) rfl rfl rfl rfl ⟨rfl, rfl⟩

noncomputable def Flt.shape.pack (s0 : float.shape) (sign1 e2 f3 : Int) : Option Int :=
  letk (IntKind.u64.wrap sign1) fun t10 =>
  letk (IntKind.i64.wrap (s0.p + s0.w)) fun t15 =>
  letk (IntKind.i64.wrap (t15 - (1 : Int))) fun t16 =>
  chk (0 ≤ t16) <|
  letk (IntKind.u64.wrap (t10 * 2 ^ (min t16.toNat (IntKind.u64).bits))) fun t17 =>
  letk (IntKind.i64.wrap (s0.p - (1 : Int))) fun t21 =>
  chk (0 ≤ t21) <|
  letk (IntKind.u64.wrap (e2 * 2 ^ (min t21.toNat (IntKind.u64).bits))) fun t22 =>
  letk (IntKind.u64.wrap (BitVec.ofInt (IntKind.u64).bits t17 ||| BitVec.ofInt (IntKind.u64).bits t22).toNat) fun t23 =>
  letk (IntKind.u64.wrap (BitVec.ofInt (IntKind.u64).bits t23 ||| BitVec.ofInt (IntKind.u64).bits f3).toNat) fun t25 =>
  letk (IntKind.i64.wrap t25) fun t26 =>
  some t26

theorem Flt.shape.pack_ok {s0 : float.shape} {sign1 e2 f3 r : Int} (h0 : Flt.shape.pack s0 sign1 e2 f3 = some r) : Gives Tryz.prog 200 [float.shape.enc s0, J sign1, U e2, U f3] (J r) := by
  unfold Flt.shape.pack at h0
  refine ACalls.of_swp Tryz.func200 rfl (by decide) rfl (st0 := ⟨27, [(0, float.shape.enc s0), (1, J sign1), (2, U e2), (3, U f3)], []⟩) rfl (bwp_ok (C := []) ?_)
  conv => whnf
  refine Nm.mk ⟨[J s0.p, J s0.w], rfl, ?_⟩
  conv => whnf
  refine DrawB.sees (Sees.of (Weak.objs (k := 27) (keep := [0]) (frz := []) (m := 0) (ts := [(1, J sign1), (2, U e2), (3, U f3), (4, .ptr 0 0)]) (hs := [.box [J s0.p, J s0.w]]) rfl (by decide) rfl rfl ⟨⟨_, rfl, WO.refl rfl⟩, ⟨rfl, fun _ h => by cases h⟩⟩ ⟨.s, .s, .s, (.ptr _ _ 0 rfl), trivial⟩)) ?_
  refine DrawB.ofG [none, none, none, none, none, none, none, none, none, none, none, none, none, none, none, none, none, none, none] Tryz_mixed (by kernel_rfl) (by kernel_rfl) ?_
  conv => whnf
  refine DNodeB.of (J sign1) ?_ ?_
  · conv => whnf
    rfl
  obtain ⟨t10, et10, h1⟩ := letk_elim h0
  conv => whnf
  refine DNodeB.of (U t10) ?_ ?_
  · conv => whnf
    refine Nm.mk ⟨t10, et10, ?_⟩
    conv => whnf
    rfl
  conv => whnf
  refine DNodeB.of (.ptr 0 0) ?_ ?_
  · conv => whnf
    rfl
  conv => whnf
  refine DNodeB.of (J s0.p) ?_ ?_
  · conv => whnf
    rfl
  conv => whnf
  refine DNodeB.of (.ptr 0 1) ?_ ?_
  · conv => whnf
    rfl
  conv => whnf
  refine DNodeB.of (J s0.w) ?_ ?_
  · conv => whnf
    rfl
  obtain ⟨t15, et15, h2⟩ := letk_elim h1
  conv => whnf
  refine DNodeB.of (J t15) ?_ ?_
  · conv => whnf
    refine Nm.mk ⟨t15, et15, ?_⟩
    conv => whnf
    rfl
  obtain ⟨t16, et16, h3⟩ := letk_elim h2
  conv => whnf
  refine DNodeB.of (J t16) ?_ ?_
  · conv => whnf
    refine Nm.mk ⟨t16, et16, ?_⟩
    conv => whnf
    rfl
  obtain ⟨ch4, h4⟩ := chk_elim h3
  obtain ⟨t17, et17, h5⟩ := letk_elim h4
  conv => whnf
  refine DNodeB.of (U t17) ?_ ?_
  · conv => whnf
    refine Side.mk ch4 ?_
    conv => whnf
    refine Nm.mk ⟨t17, et17, ?_⟩
    conv => whnf
    rfl
  conv => whnf
  refine DNodeB.of (U e2) ?_ ?_
  · conv => whnf
    rfl
  conv => whnf
  refine DNodeB.of (.ptr 0 0) ?_ ?_
  · conv => whnf
    rfl
  conv => whnf
  refine DNodeB.of (J s0.p) ?_ ?_
  · conv => whnf
    rfl
  obtain ⟨t21, et21, h6⟩ := letk_elim h5
  conv => whnf
  refine DNodeB.of (J t21) ?_ ?_
  · conv => whnf
    refine Nm.mk ⟨t21, et21, ?_⟩
    conv => whnf
    rfl
  obtain ⟨ch7, h7⟩ := chk_elim h6
  obtain ⟨t22, et22, h8⟩ := letk_elim h7
  conv => whnf
  refine DNodeB.of (U t22) ?_ ?_
  · conv => whnf
    refine Side.mk ch7 ?_
    conv => whnf
    refine Nm.mk ⟨t22, et22, ?_⟩
    conv => whnf
    rfl
  obtain ⟨t23, et23, h9⟩ := letk_elim h8
  conv => whnf
  refine DNodeB.of (U t23) ?_ ?_
  · conv => whnf
    refine Nm.mk ⟨t23, et23, ?_⟩
    conv => whnf
    rfl
  conv => whnf
  refine DNodeB.of (U f3) ?_ ?_
  · conv => whnf
    rfl
  obtain ⟨t25, et25, h10⟩ := letk_elim h9
  conv => whnf
  refine DNodeB.of (U t25) ?_ ?_
  · conv => whnf
    refine Nm.mk ⟨t25, et25, ?_⟩
    conv => whnf
    rfl
  obtain ⟨t26, et26, h11⟩ := letk_elim h10
  conv => whnf
  refine DNodeB.of (J t26) ?_ ?_
  · conv => whnf
    refine Nm.mk ⟨t26, et26, ?_⟩
    conv => whnf
    rfl
  conv => whnf
  refine DNodeB.of (J t26) ?_ ?_
  · conv => whnf
    rfl
  have eh11_0 := Option.some.inj h11
  subst eh11_0
  conv => whnf
  exact Returns.pure (r := J t26) rfl rfl rfl rfl ⟨rfl, rfl⟩

noncomputable def Flt.shape.zero (s0 : float.shape) (sign1 : Int) : Option Int :=
  Option.bind (Flt.shape.pack (⟨s0.p, s0.w⟩ : float.shape) sign1 0 0) fun t7 =>
  some t7

theorem Flt.shape.zero_ok {s0 : float.shape} {sign1 r : Int} (h0 : Flt.shape.zero s0 sign1 = some r) : Gives Tryz.prog 163 [float.shape.enc s0, J sign1] (J r) := by
  unfold Flt.shape.zero at h0
  refine ACalls.of_swp Tryz.func163 rfl (by decide) rfl (st0 := ⟨8, [(0, float.shape.enc s0), (1, J sign1)], []⟩) rfl (bwp_ok (C := []) ?_)
  conv => whnf
  refine Nm.mk ⟨[J s0.p, J s0.w], rfl, ?_⟩
  obtain ⟨t7, et7, h1⟩ := bind_elim h0
  conv => whnf
  refine Gate.go ?_
  conv => whnf
  refine CallN.by (v := J t7) (Flt.shape.pack_ok et7) rfl rfl ?_
  have eh1_0 := Option.some.inj h1
  subst eh1_0
  conv => whnf
  exact Returns.pure (r := J t7) rfl rfl rfl rfl ⟨rfl, rfl⟩

noncomputable def Flt.exact.long (x0 : float.exact) : Option Int :=
  letk (x0.hi != (0 : Int)) fun t5 =>
  bif t5 then
    Option.bind (Bits.Len64 x0.hi) fun t8 =>
    letk (IntKind.i64.wrap ((64 : Int) + t8)) fun t9 =>
    some t9
  else
    Option.bind (Bits.Len64 x0.lo) fun t12 =>
    some t12

theorem Flt.exact.long_ok {x0 : float.exact} {r : Int} (h0 : Flt.exact.long x0 = some r) : Gives Tryz.prog 201 [float.exact.enc x0] (J r) := by
  unfold Flt.exact.long at h0
  refine ACalls.of_swp Tryz.func201 rfl (by decide) rfl (st0 := ⟨13, [(0, float.exact.enc x0)], []⟩) rfl (bwp_ok (C := []) ?_)
  conv => whnf
  refine Nm.mk ⟨[U x0.hi, U x0.lo, J x0.e, .lit (.bool x0.more)], rfl, ?_⟩
  obtain ⟨t5, et5, h1⟩ := letk_elim h0
  conv => whnf
  refine Nm.mk ⟨t5, et5, ?_⟩
  rcases t5 with _ | _
  · have h2 := bif_f h1
    obtain ⟨t12, et12, h3⟩ := bind_elim h2
    conv => whnf
    refine Gate.go ?_
    conv => whnf
    refine CallN.by (v := J t12) (Bits.Len64_ok et12) rfl rfl ?_
    have eh3_0 := Option.some.inj h3
    subst eh3_0
    conv => whnf
    exact Returns.pure (r := J t12) rfl rfl rfl rfl ⟨rfl, rfl⟩
  have h2 := bif_t h1
  obtain ⟨t8, et8, h3⟩ := bind_elim h2
  conv => whnf
  refine Gate.go ?_
  conv => whnf
  refine CallN.by (v := J t8) (Bits.Len64_ok et8) rfl rfl ?_
  obtain ⟨t9, et9, h4⟩ := letk_elim h3
  conv => whnf
  refine Nm.mk ⟨t9, et9, ?_⟩
  have eh4_0 := Option.some.inj h4
  subst eh4_0
  conv => whnf
  exact Returns.pure (r := J t9) rfl rfl rfl rfl ⟨rfl, rfl⟩

noncomputable def Flt.exact.right.j2 (lo7 : Int) (half8_2 below9_2 t48 : Bool) : Option (Int × Int) :=
  bif t48 then
    some (lo7, 3)
  else
    bif half8_2 then
      some (lo7, 2)
    else
      bif below9_2 then
        some (lo7, 1)
      else
        some (lo7, 0)

noncomputable def Flt.exact.right.j1 (lo7 : Int) (half8_1 below9_1 : Bool) : Option (Int × Int) :=
  bif half8_1 then
    Flt.exact.right.j2 lo7 true below9_1 below9_1
  else
    Flt.exact.right.j2 lo7 false below9_1 false

noncomputable def Flt.exact.right.j0 (n1_1 lo7 : Int) (half8 below9 : Bool) : Option (Int × Int) :=
  letk (decide (n1_1 > (0 : Int))) fun t47 =>
  bif t47 then
    Flt.exact.right.j1 lo7 false true
  else
    Flt.exact.right.j1 lo7 half8 below9

noncomputable def Flt.exact.right.j4 (n1_2 hi6 lo7_1 : Int) (below9_5 : Bool) : Option ((Int × Int × Int × Bool × Bool) ⊕ (Int × Int)) :=
  letk (IntKind.u64.wrap (BitVec.ofInt (IntKind.u64).bits lo7_1 &&& BitVec.ofInt (IntKind.u64).bits (1 : Int)).toNat) fun t36 =>
  letk (t36 == (1 : Int)) fun t37 =>
  chk (0 ≤ (1 : Int)) <|
  letk ((IntKind.u64, lo7_1.fdiv (2 ^ (min (1 : Int).toNat (IntKind.u64).bits))).2) fun t39 =>
  chk (0 ≤ (63 : Int)) <|
  letk (IntKind.u64.wrap (hi6 * 2 ^ (min (63 : Int).toNat (IntKind.u64).bits))) fun t41 =>
  letk (IntKind.u64.wrap (BitVec.ofInt (IntKind.u64).bits t39 ||| BitVec.ofInt (IntKind.u64).bits t41).toNat) fun t42 =>
  chk (0 ≤ (1 : Int)) <|
  letk ((IntKind.u64, hi6.fdiv (2 ^ (min (1 : Int).toNat (IntKind.u64).bits))).2) fun t44 =>
  letk (IntKind.i64.wrap (n1_2 - (1 : Int))) fun t30 =>
  some (.inl (t30, t44, t42, t37, below9_5))

noncomputable def Flt.exact.right.j3 (n1_2 hi6 lo7_1 : Int) (half8_4 below9_4 : Bool) : Option ((Int × Int × Int × Bool × Bool) ⊕ (Int × Int)) :=
  bif below9_4 then
    Flt.exact.right.j4 n1_2 hi6 lo7_1 true
  else
    Flt.exact.right.j4 n1_2 hi6 lo7_1 half8_4

noncomputable def Flt.exact.right.s0 (n1_2 hi6 lo7_1 : Int) (half8_3 below9_3 : Bool) : Option ((Int × Int × Int × Bool × Bool) ⊕ (Int × Int)) :=
  letk (decide (n1_2 > (0 : Int))) fun t17 =>
  bif t17 then
    letk (hi6 != (0 : Int)) fun t20 =>
    bif t20 then
      Flt.exact.right.j3 n1_2 hi6 lo7_1 half8_3 below9_3
    else
      letk (lo7_1 != (0 : Int)) fun t23 =>
      bif t23 then
        Flt.exact.right.j3 n1_2 hi6 lo7_1 half8_3 below9_3
      else
        bif half8_3 then
          Flt.exact.right.j3 n1_2 hi6 lo7_1 true below9_3
        else
          (Flt.exact.right.j0 n1_2 lo7_1 false below9_3).map .inr
  else
    (Flt.exact.right.j0 n1_2 lo7_1 half8_3 below9_3).map .inr

noncomputable def Flt.exact.right.l0 (n1_2 hi6 lo7_1 : Int) (half8_3 below9_3 : Bool) : Option (Int × Int) := loopO (fun v : Int × Int × Int × Bool × Bool => Flt.exact.right.s0 v.1 v.2.1 v.2.2.1 v.2.2.2.1 v.2.2.2.2) (n1_2, hi6, lo7_1, half8_3, below9_3)
theorem Flt.exact.right.l0_eq (n1_2 hi6 lo7_1 : Int) (half8_3 below9_3 : Bool) : Flt.exact.right.l0 n1_2 hi6 lo7_1 half8_3 below9_3 = (Flt.exact.right.s0 n1_2 hi6 lo7_1 half8_3 below9_3).bind (Sum.elim (fun v => Flt.exact.right.l0 v.1 v.2.1 v.2.2.1 v.2.2.2.1 v.2.2.2.2) some) := loopO_eq _ _

noncomputable def Flt.exact.right (x0 : float.exact) (n1 : Int) : Option (Int × Int) :=
  Flt.exact.right.l0 n1 x0.hi x0.lo false x0.more

theorem Flt.exact.right_ok {x0 : float.exact} {n1 : Int} {r : Int × Int} (h0 : Flt.exact.right x0 n1 = some r) : Gives Tryz.prog 166 [float.exact.enc x0, J n1] (.tup [U r.1, J r.2]) := by
  unfold Flt.exact.right at h0
  refine ACalls.of_swp Tryz.func166 rfl (by decide) rfl (st0 := ⟨61, [(0, float.exact.enc x0), (1, J n1)], []⟩) rfl (bwp_ok (C := [(1, 2), (1, 3), (58, 25), (1, 1), (0, 6)]) ?_)
  conv => whnf
  refine Nm.mk ⟨[U x0.hi, U x0.lo, J x0.e, .lit (.bool x0.more)], rfl, ?_⟩
  conv => whnf
  refine DrawB.ofG [none, none, none, none, none, none] Tryz_mixed (by kernel_rfl) (by kernel_rfl) ?_
  conv => whnf
  refine DNodeB.of (.ptr 0 0) ?_ ?_
  · conv => whnf
    rfl
  conv => whnf
  refine DNodeB.of (U x0.hi) ?_ ?_
  · conv => whnf
    rfl
  conv => whnf
  refine DNodeB.of (.ptr 0 1) ?_ ?_
  · conv => whnf
    rfl
  conv => whnf
  refine DNodeB.of (U x0.lo) ?_ ?_
  · conv => whnf
    rfl
  conv => whnf
  refine DNodeB.of (U x0.hi) ?_ ?_
  · conv => whnf
    rfl
  conv => whnf
  refine DNodeB.of (U x0.lo) ?_ ?_
  · conv => whnf
    rfl
  conv => whnf
  refine DrawB.ofG [none, none, none, none] Tryz_mixed (by kernel_rfl) (by kernel_rfl) ?_
  conv => whnf
  refine DNodeB.of (.ptr 0 3) ?_ ?_
  · conv => whnf
    rfl
  conv => whnf
  refine DNodeB.of (.lit (.bool x0.more)) ?_ ?_
  · conv => whnf
    rfl
  conv => whnf
  refine DNodeB.of (.lit (.bool false)) ?_ ?_
  · conv => whnf
    rfl
  conv => whnf
  refine DNodeB.of (.lit (.bool x0.more)) ?_ ?_
  · conv => whnf
    rfl
  conv => whnf
  refine CutN.of (fun s => ∃ (n1_1 lo7 : Int) (half8 below9 : Bool), Flt.exact.right.j0 n1_1 lo7 half8 below9 = some r ∧ s = (⟨61, [(1, J n1_1), (7, U lo7), (8, .lit (.bool half8)), (9, .lit (.bool below9))], []⟩ : St)) ?_ ?_
  · conv => whnf
    unfold Flt.exact.right.l0 at h0
    refine LoopB.of (σ := Int × Int × Int × Bool × Bool) (ρ := Int × Int) (fun v : Int × Int × Int × Bool × Bool => Flt.exact.right.s0 v.1 v.2.1 v.2.2.1 v.2.2.2.1 v.2.2.2.2) (fun v => (⟨61, [(1, J v.1), (6, U v.2.1), (7, U v.2.2.1), (8, .lit (.bool v.2.2.2.1)), (9, .lit (.bool v.2.2.2.2))], []⟩ : St)) (n1, x0.hi, x0.lo, false, x0.more) h0 (BackS.by rfl (Sees.e ⟨.s, .s, .s, .s, .s, trivial⟩)) ?_
    rintro K1 ⟨n1_2, hi6, lo7_1, half8_3, below9_3⟩ x1 hs0_0 hl1 hr1
    replace hs0_0 : Flt.exact.right.s0 n1_2 hi6 lo7_1 half8_3 below9_3 = some x1 := hs0_0
    unfold Flt.exact.right.s0 at hs0_0
    change bwp _ _ _ _ _ (⟨61, [(1, J n1_2), (6, U hi6), (7, U lo7_1), (8, .lit (.bool half8_3)), (9, .lit (.bool below9_3))], []⟩ : St)
    conv => whnf
    refine CutN.of (fun s => ∃ (half8_4 below9_4 : Bool), Flt.exact.right.j3 n1_2 hi6 lo7_1 half8_4 below9_4 = some x1 ∧ s = (⟨61, [(1, J n1_2), (6, U hi6), (7, U lo7_1), (8, .lit (.bool half8_4)), (9, .lit (.bool below9_4))], []⟩ : St)) ?_ ?_
    · obtain ⟨t17, et17, hs0_1⟩ := letk_elim hs0_0
      conv => whnf
      refine Nm.mk ⟨t17, et17, ?_⟩
      rcases t17 with _ | _
      · have hs0_2 := bif_f hs0_1
        obtain ⟨yhs0_2_0, hs0_2u, ehs0_2_0⟩ := map_elim hs0_2
        have ehs0_2_0 := (hr1 _ ehs0_2_0.symm).symm
        subst ehs0_2_0
        exact BackS.by ⟨_, _, _, _, hs0_2u, rfl⟩ (Sees.e ⟨.s, .s, .s, .s, trivial⟩)
      have hs0_2 := bif_t hs0_1
      obtain ⟨t20, et20, hs0_3⟩ := letk_elim hs0_2
      conv => whnf
      refine Nm.mk ⟨t20, et20, ?_⟩
      rcases t20 with _ | _
      · have hs0_4 := bif_f hs0_3
        obtain ⟨t23, et23, hs0_5⟩ := letk_elim hs0_4
        conv => whnf
        refine Nm.mk ⟨t23, et23, ?_⟩
        rcases t23 with _ | _
        · have hs0_6 := bif_f hs0_5
          rcases half8_3 with _ | _
          · have hs0_7 := bif_f hs0_6
            obtain ⟨yhs0_7_0, hs0_7u, ehs0_7_0⟩ := map_elim hs0_7
            have ehs0_7_0 := (hr1 _ ehs0_7_0.symm).symm
            subst ehs0_7_0
            exact BackS.by ⟨_, _, _, _, hs0_7u, rfl⟩ (Sees.e ⟨.s, .s, .s, .s, trivial⟩)
          have hs0_7 := bif_t hs0_6
          exact BackS.by ⟨_, _, hs0_7, rfl⟩ (Sees.e ⟨.s, .s, .s, .s, .s, trivial⟩)
        have hs0_6 := bif_t hs0_5
        exact BackS.by ⟨_, _, hs0_6, rfl⟩ (Sees.e ⟨.s, .s, .s, .s, .s, trivial⟩)
      have hs0_4 := bif_t hs0_3
      exact BackS.by ⟨_, _, hs0_4, rfl⟩ (Sees.e ⟨.s, .s, .s, .s, .s, trivial⟩)
    rintro s ⟨half8_4, below9_4, hj0, rfl⟩
    unfold Flt.exact.right.j3 at hj0
    conv => whnf
    refine CutN.of (fun s => ∃ (below9_5 : Bool), Flt.exact.right.j4 n1_2 hi6 lo7_1 below9_5 = some x1 ∧ s = (⟨61, [(1, J n1_2), (6, U hi6), (7, U lo7_1), (9, .lit (.bool below9_5))], []⟩ : St)) ?_ ?_
    · rcases below9_4 with _ | _
      · have hj1 := bif_f hj0
        exact BackS.by ⟨_, hj1, rfl⟩ (Sees.e ⟨.s, .s, .s, .s, trivial⟩)
      have hj1 := bif_t hj0
      exact BackS.by ⟨_, hj1, rfl⟩ (Sees.e ⟨.s, .s, .s, .s, trivial⟩)
    rintro s ⟨below9_5, hj0, rfl⟩
    unfold Flt.exact.right.j4 at hj0
    obtain ⟨t36, et36, hj1⟩ := letk_elim hj0
    conv => whnf
    refine Nm.mk ⟨t36, et36, ?_⟩
    obtain ⟨t37, et37, hj2⟩ := letk_elim hj1
    conv => whnf
    refine Nm.mk ⟨t37, et37, ?_⟩
    obtain ⟨chj3, hj3⟩ := chk_elim hj2
    obtain ⟨t39, et39, hj4⟩ := letk_elim hj3
    conv => whnf
    refine Side.mk chj3 ?_
    conv => whnf
    refine Nm.mk ⟨t39, et39, ?_⟩
    obtain ⟨chj5, hj5⟩ := chk_elim hj4
    obtain ⟨t41, et41, hj6⟩ := letk_elim hj5
    conv => whnf
    refine Side.mk chj5 ?_
    conv => whnf
    refine Nm.mk ⟨t41, et41, ?_⟩
    obtain ⟨t42, et42, hj7⟩ := letk_elim hj6
    conv => whnf
    refine Nm.mk ⟨t42, et42, ?_⟩
    obtain ⟨chj8, hj8⟩ := chk_elim hj7
    obtain ⟨t44, et44, hj9⟩ := letk_elim hj8
    conv => whnf
    refine Side.mk chj8 ?_
    conv => whnf
    refine Nm.mk ⟨t44, et44, ?_⟩
    obtain ⟨t30, et30, hj10⟩ := letk_elim hj9
    conv => whnf
    refine Nm.mk ⟨t30, et30, ?_⟩
    exact BackS.by ⟨_, hl1 _ (Option.some.inj hj10).symm, rfl⟩ (Sees.e ⟨.s, .s, .s, .s, .s, trivial⟩)
  rintro s ⟨n1_1, lo7, half8, below9, hj0, rfl⟩
  unfold Flt.exact.right.j0 at hj0
  conv => whnf
  refine CutN.of (fun s => ∃ (half8_1 below9_1 : Bool), Flt.exact.right.j1 lo7 half8_1 below9_1 = some r ∧ s = (⟨61, [(7, U lo7), (8, .lit (.bool half8_1)), (9, .lit (.bool below9_1))], []⟩ : St)) ?_ ?_
  · obtain ⟨t47, et47, hj1⟩ := letk_elim hj0
    conv => whnf
    refine Nm.mk ⟨t47, et47, ?_⟩
    rcases t47 with _ | _
    · have hj2 := bif_f hj1
      exact BackS.by ⟨_, _, hj2, rfl⟩ (Sees.e ⟨.s, .s, .s, trivial⟩)
    have hj2 := bif_t hj1
    exact BackS.by ⟨_, _, hj2, rfl⟩ (Sees.e ⟨.s, .s, .s, trivial⟩)
  rintro s ⟨half8_1, below9_1, hj0, rfl⟩
  unfold Flt.exact.right.j1 at hj0
  conv => whnf
  refine CutN.of (fun s => ∃ (half8_2 below9_2 t48 : Bool), Flt.exact.right.j2 lo7 half8_2 below9_2 t48 = some r ∧ s = (⟨61, [(7, U lo7), (8, .lit (.bool half8_2)), (9, .lit (.bool below9_2)), (48, .lit (.bool t48))], []⟩ : St)) ?_ ?_
  · rcases half8_1 with _ | _
    · have hj1 := bif_f hj0
      exact BackS.by ⟨_, _, _, hj1, rfl⟩ (Sees.e ⟨.s, .s, .s, .s, trivial⟩)
    have hj1 := bif_t hj0
    exact BackS.by ⟨_, _, _, hj1, rfl⟩ (Sees.e ⟨.s, .s, .s, .s, trivial⟩)
  rintro s ⟨half8_2, below9_2, t48, hj0, rfl⟩
  unfold Flt.exact.right.j2 at hj0
  rcases t48 with _ | _
  · have hj1 := bif_f hj0
    rcases half8_2 with _ | _
    · have hj2 := bif_f hj1
      rcases below9_2 with _ | _
      · have hj3 := bif_f hj2
        have ehj3_0 := Option.some.inj hj3
        subst ehj3_0
        conv => whnf
        exact Returns.pure (r := .tup [U lo7, J 0]) rfl rfl rfl rfl ⟨rfl, rfl⟩
      have hj3 := bif_t hj2
      have ehj3_0 := Option.some.inj hj3
      subst ehj3_0
      conv => whnf
      exact Returns.pure (r := .tup [U lo7, J 1]) rfl rfl rfl rfl ⟨rfl, rfl⟩
    have hj2 := bif_t hj1
    have ehj2_0 := Option.some.inj hj2
    subst ehj2_0
    conv => whnf
    exact Returns.pure (r := .tup [U lo7, J 2]) rfl rfl rfl rfl ⟨rfl, rfl⟩
  have hj1 := bif_t hj0
  have ehj1_0 := Option.some.inj hj1
  subst ehj1_0
  conv => whnf
  exact Returns.pure (r := .tup [U lo7, J 3]) rfl rfl rfl rfl ⟨rfl, rfl⟩

end Go.Q
