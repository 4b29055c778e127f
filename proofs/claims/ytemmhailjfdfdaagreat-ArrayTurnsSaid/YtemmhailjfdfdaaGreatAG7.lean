import Derived.Test.YtemmhailjfdfdaaGreatAG6
import Derived.Test.YtemmhailjfdfdaaGreatFX
import Derived.Test.YtemmhailjfdfdaaGreatFY
import Derived.Test.YtemmhailjfdfdaaGreatProg
namespace Go.Q
open Go Go.Proofs
set_option maxRecDepth 10000
set_option maxHeartbeats 2000000

noncomputable def Arr.Same (a0 b1 : api.Array) : Option Bool :=
  letk (a0.Kind == b1.Kind) fun t9 =>
  bif t9 then
    Option.bind (Slcs.Equal___int_int_ a0.Shape b1.Shape) fun t15 =>
    bif t15 then
      Option.bind (Slcs.Equal___int_int_ a0.Elems b1.Elems) fun t22 =>
      some t22
    else
      some false
  else
    some false

theorem Arr.Same_ok {a0 b1 : api.Array} {r : Bool} (h0 : Arr.Same a0 b1 = some r) : Gives Tryz.prog 21 [api.Array.enc a0, api.Array.enc b1] (.lit (.bool r)) := by
  unfold Arr.Same at h0
  refine ACalls.of_swp Tryz.func21 rfl (by decide) rfl (st0 := ⟨24, [(0, api.Array.enc a0), (1, api.Array.enc b1)], []⟩) rfl (bwp_ok (C := []) ?_)
  conv => whnf
  refine Nm.mk ⟨[J a0.Kind, .vs 1 (a0.Shape.map (eI .i64)), .vs 1 (a0.Elems.map (eI .i64))], rfl, ?_⟩
  conv => whnf
  refine Nm.mk ⟨[J b1.Kind, .vs 1 (b1.Shape.map (eI .i64)), .vs 1 (b1.Elems.map (eI .i64))], rfl, ?_⟩
  obtain ⟨t9, et9, h1⟩ := letk_elim h0
  conv => whnf
  refine Nm.mk ⟨t9, et9, ?_⟩
  rcases t9 with _ | _
  · have h2 := bif_f h1
    have eh2_0 := Option.some.inj h2
    subst eh2_0
    conv => whnf
    exact Returns.pure (r := .lit (.bool false)) rfl rfl rfl rfl ⟨rfl, rfl⟩
  have h2 := bif_t h1
  obtain ⟨t15, et15, h3⟩ := bind_elim h2
  conv => whnf
  refine Gate.go ?_
  conv => whnf
  refine CallN.by (v := .lit (.bool t15)) (Slcs.Equal___int_int__ok et15) rfl rfl ?_
  rcases t15 with _ | _
  · have h4 := bif_f h3
    have eh4_0 := Option.some.inj h4
    subst eh4_0
    conv => whnf
    exact Returns.pure (r := .lit (.bool false)) rfl rfl rfl rfl ⟨rfl, rfl⟩
  have h4 := bif_t h3
  obtain ⟨t22, et22, h5⟩ := bind_elim h4
  conv => whnf
  refine Gate.go ?_
  conv => whnf
  refine CallN.by (v := .lit (.bool t22)) (Slcs.Equal___int_int__ok et22) rfl rfl ?_
  have eh5_0 := Option.some.inj h5
  subst eh5_0
  conv => whnf
  exact Returns.pure (r := .lit (.bool t22)) rfl rfl rfl rfl ⟨rfl, rfl⟩

noncomputable def Law7.ArrayTurns (a0 b1 : api.Array) : Option Bool :=
  Option.bind (Law7.isLarge ([(⟨a0.Kind, a0.Shape, a0.Elems⟩ : api.Array), (⟨b1.Kind, b1.Shape, b1.Elems⟩ : api.Array)])) fun t16 =>
  bif t16 then
    Option.bind (Law7.Awake) fun t17 =>
    some t17
  else
    Option.bind (Arr.Do ⟨#[43]⟩ (⟨a0.Kind, a0.Shape, a0.Elems⟩ : api.Array) (⟨b1.Kind, b1.Shape, b1.Elems⟩ : api.Array)) fun (t21_0, t21_1) =>
    Option.bind (Arr.Do ⟨#[43]⟩ (⟨b1.Kind, b1.Shape, b1.Elems⟩ : api.Array) (⟨a0.Kind, a0.Shape, a0.Elems⟩ : api.Array)) fun (t27_0, t27_1) =>
    Option.bind (Arr.Do ⟨#[42]⟩ (⟨a0.Kind, a0.Shape, a0.Elems⟩ : api.Array) (⟨b1.Kind, b1.Shape, b1.Elems⟩ : api.Array)) fun (t33_0, t33_1) =>
    Option.bind (Arr.Do ⟨#[42]⟩ (⟨b1.Kind, b1.Shape, b1.Elems⟩ : api.Array) (⟨a0.Kind, a0.Shape, a0.Elems⟩ : api.Array)) fun (t39_0, t39_1) =>
    letk (t21_1 == t27_1) fun t44 =>
    bif t44 then
      letk (t33_1 == t39_1) fun t48 =>
      bif t48 then
        Option.bind (Arr.Same (⟨t21_0.Kind, t21_0.Shape, t21_0.Elems⟩ : api.Array) (⟨t27_0.Kind, t27_0.Shape, t27_0.Elems⟩ : api.Array)) fun t53 =>
        bif t53 then
          Option.bind (Arr.Same (⟨t33_0.Kind, t33_0.Shape, t33_0.Elems⟩ : api.Array) (⟨t39_0.Kind, t39_0.Shape, t39_0.Elems⟩ : api.Array)) fun t58 =>
          bif t58 then
            Option.bind (Law7.Awake) fun t61 =>
            some t61
          else
            some false
        else
          some false
      else
        some false
    else
      some false

theorem Law7.ArrayTurns_ok {a0 b1 : api.Array} {r : Bool} (h0 : Law7.ArrayTurns a0 b1 = some r) : Gives Tryz.prog 7 [api.Array.enc a0, api.Array.enc b1] (.lit (.bool r)) := by
  unfold Law7.ArrayTurns at h0
  refine ACalls.of_swp Tryz.func7 rfl (by decide) rfl (st0 := ⟨63, [(0, api.Array.enc a0), (1, api.Array.enc b1)], []⟩) rfl (bwp_ok (C := []) ?_)
  conv => whnf
  refine Nm.mk ⟨[J a0.Kind, .vs 1 (a0.Shape.map (eI .i64)), .vs 1 (a0.Elems.map (eI .i64))], rfl, ?_⟩
  conv => whnf
  refine Nm.mk ⟨[J b1.Kind, .vs 1 (b1.Shape.map (eI .i64)), .vs 1 (b1.Elems.map (eI .i64))], rfl, ?_⟩
  conv => whnf
  refine Gate.go ?_
  conv => whnf
  refine Nm.mk ⟨([(⟨a0.Kind, a0.Shape, a0.Elems⟩ : api.Array), (⟨b1.Kind, b1.Shape, b1.Elems⟩ : api.Array)]).map (api.Array.enc), rfl, ?_⟩
  obtain ⟨t16, et16, h1⟩ := bind_elim h0
  conv => whnf
  refine Gate.weak (Sees.of (Weak.objs (k := 63) (keep := [0, 1]) (frz := [2]) (m := 0) (ts := [(2, .ptr 0 0), (3, .ptr 1 0), (15, .vs 3 (([(⟨a0.Kind, a0.Shape, a0.Elems⟩ : api.Array), (⟨b1.Kind, b1.Shape, b1.Elems⟩ : api.Array)]).map (api.Array.enc)))]) (hs := [.box [J a0.Kind, .vs 1 (a0.Shape.map (eI .i64)), .vs 1 (a0.Elems.map (eI .i64))], .box [J b1.Kind, .vs 1 (b1.Shape.map (eI .i64)), .vs 1 (b1.Elems.map (eI .i64))]]) rfl (by decide) rfl rfl ⟨⟨_, rfl, WO.refl rfl⟩, ⟨⟨_, rfl, WO.refl rfl⟩, ⟨rfl, fun _ h => by cases h⟩⟩⟩ ⟨(.ptr _ _ 0 rfl), (.ptr _ _ 1 rfl), (WV.all (k := 2) (by decide) rfl), trivial⟩)) ?_
  conv => whnf
  refine CallN.by (v := .lit (.bool t16)) (Law7.isLarge_ok et16) rfl rfl ?_
  rcases t16 with _ | _
  · have h2 := bif_f h1
    obtain ⟨⟨t21_0, t21_1⟩, et21, h3⟩ := bind_elim h2
    conv => whnf
    refine Gate.go ?_
    conv => whnf
    refine CallN.by (v := .tup [api.Array.enc t21_0, J t21_1]) (Arr.Do_ok et21) rfl rfl ?_
    conv => whnf
    refine Nm.mk ⟨[J 0, .nils, .nils], rfl, ?_⟩
    conv => whnf
    refine Nm.mk ⟨[J t21_0.Kind, .vs 1 (t21_0.Shape.map (eI .i64)), .vs 1 (t21_0.Elems.map (eI .i64))], rfl, ?_⟩
    obtain ⟨⟨t27_0, t27_1⟩, et27, h4⟩ := bind_elim h3
    conv => whnf
    refine Gate.go ?_
    conv => whnf
    refine CallN.by (v := .tup [api.Array.enc t27_0, J t27_1]) (Arr.Do_ok et27) rfl rfl ?_
    conv => whnf
    refine Nm.mk ⟨[J 0, .nils, .nils], rfl, ?_⟩
    conv => whnf
    refine Nm.mk ⟨[J t27_0.Kind, .vs 1 (t27_0.Shape.map (eI .i64)), .vs 1 (t27_0.Elems.map (eI .i64))], rfl, ?_⟩
    obtain ⟨⟨t33_0, t33_1⟩, et33, h5⟩ := bind_elim h4
    conv => whnf
    refine Gate.go ?_
    conv => whnf
    refine CallN.by (v := .tup [api.Array.enc t33_0, J t33_1]) (Arr.Do_ok et33) rfl rfl ?_
    conv => whnf
    refine Nm.mk ⟨[J 0, .nils, .nils], rfl, ?_⟩
    conv => whnf
    refine Nm.mk ⟨[J t33_0.Kind, .vs 1 (t33_0.Shape.map (eI .i64)), .vs 1 (t33_0.Elems.map (eI .i64))], rfl, ?_⟩
    obtain ⟨⟨t39_0, t39_1⟩, et39, h6⟩ := bind_elim h5
    conv => whnf
    refine Gate.go ?_
    conv => whnf
    refine CallN.by (v := .tup [api.Array.enc t39_0, J t39_1]) (Arr.Do_ok et39) rfl rfl ?_
    conv => whnf
    refine Nm.mk ⟨[J 0, .nils, .nils], rfl, ?_⟩
    conv => whnf
    refine Nm.mk ⟨[J t39_0.Kind, .vs 1 (t39_0.Shape.map (eI .i64)), .vs 1 (t39_0.Elems.map (eI .i64))], rfl, ?_⟩
    obtain ⟨t44, et44, h7⟩ := letk_elim h6
    conv => whnf
    refine Nm.mk ⟨t44, et44, ?_⟩
    rcases t44 with _ | _
    · have h8 := bif_f h7
      have eh8_0 := Option.some.inj h8
      subst eh8_0
      conv => whnf
      exact Returns.pure (r := .lit (.bool false)) rfl rfl rfl rfl ⟨rfl, rfl⟩
    have h8 := bif_t h7
    obtain ⟨t48, et48, h9⟩ := letk_elim h8
    conv => whnf
    refine Nm.mk ⟨t48, et48, ?_⟩
    rcases t48 with _ | _
    · have h10 := bif_f h9
      have eh10_0 := Option.some.inj h10
      subst eh10_0
      conv => whnf
      exact Returns.pure (r := .lit (.bool false)) rfl rfl rfl rfl ⟨rfl, rfl⟩
    have h10 := bif_t h9
    obtain ⟨t53, et53, h11⟩ := bind_elim h10
    conv => whnf
    refine Gate.go ?_
    conv => whnf
    refine CallN.by (v := .lit (.bool t53)) (Arr.Same_ok et53) rfl rfl ?_
    rcases t53 with _ | _
    · have h12 := bif_f h11
      have eh12_0 := Option.some.inj h12
      subst eh12_0
      conv => whnf
      exact Returns.pure (r := .lit (.bool false)) rfl rfl rfl rfl ⟨rfl, rfl⟩
    have h12 := bif_t h11
    obtain ⟨t58, et58, h13⟩ := bind_elim h12
    conv => whnf
    refine Gate.go ?_
    conv => whnf
    refine CallN.by (v := .lit (.bool t58)) (Arr.Same_ok et58) rfl rfl ?_
    rcases t58 with _ | _
    · have h14 := bif_f h13
      have eh14_0 := Option.some.inj h14
      subst eh14_0
      conv => whnf
      exact Returns.pure (r := .lit (.bool false)) rfl rfl rfl rfl ⟨rfl, rfl⟩
    have h14 := bif_t h13
    obtain ⟨t61, et61, h15⟩ := bind_elim h14
    conv => whnf
    refine Gate.go ?_
    conv => whnf
    refine CallN.by (v := .lit (.bool t61)) (Law7.Awake_ok et61) rfl rfl ?_
    have eh15_0 := Option.some.inj h15
    subst eh15_0
    conv => whnf
    exact Returns.pure (r := .lit (.bool t61)) rfl rfl rfl rfl ⟨rfl, rfl⟩
  have h2 := bif_t h1
  obtain ⟨t17, et17, h3⟩ := bind_elim h2
  conv => whnf
  refine Gate.go ?_
  conv => whnf
  refine CallN.by (v := .lit (.bool t17)) (Law7.Awake_ok et17) rfl rfl ?_
  have eh3_0 := Option.some.inj h3
  subst eh3_0
  conv => whnf
  exact Returns.pure (r := .lit (.bool t17)) rfl rfl rfl rfl ⟨rfl, rfl⟩

end Go.Q
