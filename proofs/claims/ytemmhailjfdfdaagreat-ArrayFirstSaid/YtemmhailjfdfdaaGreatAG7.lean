import Derived.Test.YtemmhailjfdfdaaGreatAG6
import Derived.Test.YtemmhailjfdfdaaGreatFX
import Derived.Test.YtemmhailjfdfdaaGreatFY
import Derived.Test.YtemmhailjfdfdaaGreatProg
namespace Go.Q
open Go Go.Proofs
set_option maxRecDepth 10000
set_option maxHeartbeats 2000000

noncomputable def Arr.IsValue (v0 : api.Value) : Option Bool :=
  Option.bind (Arr.fits v0.Kind v0.N) fun t7 =>
  some t7

theorem Arr.IsValue_ok {v0 : api.Value} {r : Bool} (h0 : Arr.IsValue v0 = some r) : Gives Tryz.prog 68 [api.Value.enc v0] (.lit (.bool r)) := by
  unfold Arr.IsValue at h0
  refine ACalls.of_swp Tryz.func68 rfl (by decide) rfl (st0 := ⟨8, [(0, api.Value.enc v0)], []⟩) rfl (bwp_ok (C := []) ?_)
  conv => whnf
  refine Nm.mk ⟨[J v0.Kind, J v0.N], rfl, ?_⟩
  obtain ⟨t7, et7, h1⟩ := bind_elim h0
  conv => whnf
  refine Gate.go ?_
  conv => whnf
  refine CallN.by (v := .lit (.bool t7)) (Arr.fits_ok et7) rfl rfl ?_
  have eh1_0 := Option.some.inj h1
  subst eh1_0
  conv => whnf
  exact Returns.pure (r := .lit (.bool t7)) rfl rfl rfl rfl ⟨rfl, rfl⟩

noncomputable def Arr.One.j0 (op0 : ByteArray) (a4_0 a4_1 b5_0 b5_1 t6_0 t6_1 : Int) : Option (api.Value × Int) :=
  Option.bind (Arr.one op0 (⟨a4_0, a4_1⟩ : api.Value) (⟨b5_0, b5_1⟩ : api.Value)) fun (t30_0, t30_1) =>
  some ((⟨t30_0.Kind, t30_0.N⟩ : api.Value), t30_1)

noncomputable def Arr.One.j1 (op0 : ByteArray) (a4_0_1 a4_1_1 b5_0_1 b5_1_1 t6_0_1 t6_1_1 : Int) (t8 : Bool) : Option (api.Value × Int) :=
  bif t8 then
    some ((⟨0, 0⟩ : api.Value), 2)
  else
    Option.bind (Arr.Kind op0 a4_0_1 b5_0_1) fun t24 =>
    letk (t24 == (0 : Int)) fun t25 =>
    bif t25 then
      some ((⟨0, 0⟩ : api.Value), 70)
    else
      Arr.One.j0 op0 a4_0_1 a4_1_1 b5_0_1 b5_1_1 t6_0_1 t6_1_1

noncomputable def Arr.One (op0 : ByteArray) (a1 b2 : api.Value) : Option (api.Value × Int) :=
  Option.bind (Arr.IsValue (⟨a1.Kind, a1.N⟩ : api.Value)) fun t10 =>
  letk (!t10) fun t11 =>
  bif t11 then
    Arr.One.j1 op0 a1.Kind a1.N b2.Kind b2.N 0 0 true
  else
    Option.bind (Arr.IsValue (⟨b2.Kind, b2.N⟩ : api.Value)) fun t14 =>
    letk (!t14) fun t15 =>
    Arr.One.j1 op0 a1.Kind a1.N b2.Kind b2.N 0 0 t15

theorem Arr.One_ok {op0 : ByteArray} {a1 b2 : api.Value} {r : api.Value × Int} (h0 : Arr.One op0 a1 b2 = some r) : Gives Tryz.prog 28 [.lit (.string op0), api.Value.enc a1, api.Value.enc b2] (.tup [api.Value.enc r.1, J r.2]) := by
  unfold Arr.One at h0
  refine ACalls.of_swp Tryz.func28 rfl (by decide) rfl (st0 := ⟨33, [(0, .lit (.string op0)), (1, api.Value.enc a1), (2, api.Value.enc b2)], []⟩) rfl (bwp_ok (C := [(0, 5), (18, 5)]) ?_)
  conv => whnf
  refine Nm.mk ⟨[J a1.Kind, J a1.N], rfl, ?_⟩
  conv => whnf
  refine Nm.mk ⟨[J b2.Kind, J b2.N], rfl, ?_⟩
  conv => whnf
  refine Nm.mk ⟨[J 0, J 0], rfl, ?_⟩
  conv => whnf
  refine CutN.of (fun s => ∃ (a4_0 a4_1 b5_0 b5_1 t6_0 t6_1 : Int), Arr.One.j0 op0 a4_0 a4_1 b5_0 b5_1 t6_0 t6_1 = some r ∧ s = (⟨33, [(0, .lit (.string op0)), (4, .ptr 0 0), (5, .ptr 1 0), (6, .ptr 2 0)], [.box [J a4_0, J a4_1], .box [J b5_0, J b5_1], .box [J t6_0, J t6_1]]⟩ : St)) ?_ ?_
  · conv => whnf
    refine CutN.of (fun s => ∃ (a4_0_1 a4_1_1 b5_0_1 b5_1_1 t6_0_1 t6_1_1 : Int) (t8 : Bool), Arr.One.j1 op0 a4_0_1 a4_1_1 b5_0_1 b5_1_1 t6_0_1 t6_1_1 t8 = some r ∧ s = (⟨33, [(0, .lit (.string op0)), (4, .ptr 0 0), (5, .ptr 1 0), (6, .ptr 2 0), (8, .lit (.bool t8))], [.box [J a4_0_1, J a4_1_1], .box [J b5_0_1, J b5_1_1], .box [J t6_0_1, J t6_1_1]]⟩ : St)) ?_ ?_
    · obtain ⟨t10, et10, h1⟩ := bind_elim h0
      conv => whnf
      refine Gate.go ?_
      conv => whnf
      refine CallN.by (v := .lit (.bool t10)) (Arr.IsValue_ok et10) rfl rfl ?_
      obtain ⟨t11, et11, h2⟩ := letk_elim h1
      conv => whnf
      refine Nm.mk ⟨t11, et11, ?_⟩
      rcases t11 with _ | _
      · have h3 := bif_f h2
        obtain ⟨t14, et14, h4⟩ := bind_elim h3
        conv => whnf
        refine Gate.go ?_
        conv => whnf
        refine CallN.by (v := .lit (.bool t14)) (Arr.IsValue_ok et14) rfl rfl ?_
        obtain ⟨t15, et15, h5⟩ := letk_elim h4
        conv => whnf
        refine Nm.mk ⟨t15, et15, ?_⟩
        exact BackS.by ⟨_, _, _, _, _, _, _, h5, rfl⟩ (Sees.of (Weak.objs (keep := [0, 1, 2]) (frz := []) (m := 0) rfl (by decide) rfl rfl ⟨⟨_, rfl, WO.boxs ⟨.s, .s, trivial⟩⟩, ⟨⟨_, rfl, WO.boxs ⟨.s, .s, trivial⟩⟩, ⟨⟨_, rfl, WO.boxs ⟨.s, .s, trivial⟩⟩, ⟨rfl, fun _ h => by cases h⟩⟩⟩⟩ ⟨.s, (.ptr _ _ 0 rfl), (.ptr _ _ 1 rfl), (.ptr _ _ 2 rfl), .s, trivial⟩))
      have h3 := bif_t h2
      exact BackS.by ⟨_, _, _, _, _, _, _, h3, rfl⟩ (Sees.of (Weak.objs (keep := [0, 1, 2]) (frz := []) (m := 0) rfl (by decide) rfl rfl ⟨⟨_, rfl, WO.boxs ⟨.s, .s, trivial⟩⟩, ⟨⟨_, rfl, WO.boxs ⟨.s, .s, trivial⟩⟩, ⟨⟨_, rfl, WO.boxs ⟨.s, .s, trivial⟩⟩, ⟨rfl, fun _ h => by cases h⟩⟩⟩⟩ ⟨.s, (.ptr _ _ 0 rfl), (.ptr _ _ 1 rfl), (.ptr _ _ 2 rfl), .s, trivial⟩))
    rintro s ⟨a4_0_1, a4_1_1, b5_0_1, b5_1_1, t6_0_1, t6_1_1, t8, hj0, rfl⟩
    unfold Arr.One.j1 at hj0
    rcases t8 with _ | _
    · have hj1 := bif_f hj0
      obtain ⟨t24, et24, hj2⟩ := bind_elim hj1
      conv => whnf
      refine Gate.go ?_
      conv => whnf
      refine CallN.by (v := J t24) (Arr.Kind_ok et24) rfl rfl ?_
      obtain ⟨t25, et25, hj3⟩ := letk_elim hj2
      conv => whnf
      refine Nm.mk ⟨t25, et25, ?_⟩
      rcases t25 with _ | _
      · have hj4 := bif_f hj3
        exact BackS.by ⟨_, _, _, _, _, _, hj4, rfl⟩ (Sees.of (Weak.objs (keep := [0, 1, 2]) (frz := []) (m := 0) rfl (by decide) rfl rfl ⟨⟨_, rfl, WO.boxs ⟨.s, .s, trivial⟩⟩, ⟨⟨_, rfl, WO.boxs ⟨.s, .s, trivial⟩⟩, ⟨⟨_, rfl, WO.boxs ⟨.s, .s, trivial⟩⟩, ⟨rfl, fun _ h => by cases h⟩⟩⟩⟩ ⟨.s, (.ptr _ _ 0 rfl), (.ptr _ _ 1 rfl), (.ptr _ _ 2 rfl), trivial⟩))
      have hj4 := bif_t hj3
      conv => whnf
      refine Gate.go ?_
      conv => whnf
      refine Nm.mk ⟨[J 0, J 0], rfl, ?_⟩
      conv => whnf
      refine Nm.mk ⟨[J 0, J 0], rfl, ?_⟩
      have ehj4_0 := Option.some.inj hj4
      subst ehj4_0
      conv => whnf
      exact Returns.pure (r := .tup [api.Value.enc ((⟨0, 0⟩ : api.Value)), J 70]) rfl rfl rfl rfl ⟨rfl, rfl⟩
    have hj1 := bif_t hj0
    conv => whnf
    refine Gate.go ?_
    conv => whnf
    refine Nm.mk ⟨[J 0, J 0], rfl, ?_⟩
    conv => whnf
    refine Nm.mk ⟨[J 0, J 0], rfl, ?_⟩
    have ehj1_0 := Option.some.inj hj1
    subst ehj1_0
    conv => whnf
    exact Returns.pure (r := .tup [api.Value.enc ((⟨0, 0⟩ : api.Value)), J 2]) rfl rfl rfl rfl ⟨rfl, rfl⟩
  rintro s ⟨a4_0, a4_1, b5_0, b5_1, t6_0, t6_1, hj0, rfl⟩
  unfold Arr.One.j0 at hj0
  obtain ⟨⟨t30_0, t30_1⟩, et30, hj1⟩ := bind_elim hj0
  conv => whnf
  refine Gate.go ?_
  conv => whnf
  refine CallN.by (v := .tup [api.Value.enc t30_0, J t30_1]) (Arr.one_ok et30) rfl rfl ?_
  conv => whnf
  refine Nm.mk ⟨[J t30_0.Kind, J t30_0.N], rfl, ?_⟩
  have ehj1_0 := Option.some.inj hj1
  subst ehj1_0
  conv => whnf
  exact Returns.pure (r := .tup [api.Value.enc ((⟨t30_0.Kind, t30_0.N⟩ : api.Value)), J t30_1]) rfl rfl rfl rfl ⟨rfl, rfl⟩

end Go.Q
