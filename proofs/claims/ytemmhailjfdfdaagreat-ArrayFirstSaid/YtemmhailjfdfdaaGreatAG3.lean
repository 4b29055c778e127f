import Derived.Test.YtemmhailjfdfdaaGreatAG2
import Derived.Test.YtemmhailjfdfdaaGreatFX
import Derived.Test.YtemmhailjfdfdaaGreatFY
import Derived.Test.YtemmhailjfdfdaaGreatProg
namespace Go.Q
open Go Go.Proofs
set_option maxRecDepth 10000
set_option maxHeartbeats 2000000

noncomputable def Flt.shape.add.j1 (mode1 s4_0_1 s4_1_1 x6_0_1 x6_1_1 x6_2_1 x6_3_1 y7_0_1 y7_1_1 y7_2_1 y7_3_1 : Int) : Option (Int × Int) :=
  Option.bind (Flt.shape.sum (⟨s4_0_1, s4_1_1⟩ : float.shape) mode1 (⟨x6_0_1, x6_1_1, x6_2_1, x6_3_1⟩ : float.number) (⟨y7_0_1, y7_1_1, y7_2_1, y7_3_1⟩ : float.number)) fun (t130_0, t130_1) =>
  some (t130_0, t130_1)

noncomputable def Flt.shape.add.j0 (mode1 s4_0 s4_1 x6_0 x6_1 x6_2 x6_3 y7_0 y7_1 y7_2 y7_3 : Int) : Option (Int × Int) :=
  letk (decide (x6_3 < y7_3)) fun t123 =>
  bif t123 then
    Flt.shape.add.j1 mode1 s4_0 s4_1 y7_0 y7_1 y7_2 y7_3 x6_0 x6_1 x6_2 x6_3
  else
    Flt.shape.add.j1 mode1 s4_0 s4_1 x6_0 x6_1 x6_2 x6_3 y7_0 y7_1 y7_2 y7_3

noncomputable def Flt.shape.add.j5 (s0 : float.shape) (mode1 : Int) (x2 y3 : float.number) (t75 : Bool) : Option (Int × Int) :=
  bif t75 then
    Option.bind (Flt.shape.none (⟨s0.p, s0.w⟩ : float.shape) mode1) fun t86 =>
    some (t86, 0)
  else
    letk (x2.class_ == (0 : Int)) fun t90 =>
    bif t90 then
      Option.bind (Flt.shape.round (⟨s0.p, s0.w⟩ : float.shape) mode1 y3.sign (⟨0, y3.m, y3.e, false⟩ : float.exact)) fun (t100_0, t100_1) =>
      some (t100_0, t100_1)
    else
      letk (y3.class_ == (0 : Int)) fun t106 =>
      bif t106 then
        Option.bind (Flt.shape.round (⟨s0.p, s0.w⟩ : float.shape) mode1 x2.sign (⟨0, x2.m, x2.e, false⟩ : float.exact)) fun (t116_0, t116_1) =>
        some (t116_0, t116_1)
      else
        Flt.shape.add.j0 mode1 s0.p s0.w x2.class_ x2.sign x2.m x2.e y3.class_ y3.sign y3.m y3.e

noncomputable def Flt.shape.add.j4 (s0 : float.shape) (mode1 : Int) (x2 y3 : float.number) (t55 : Bool) : Option (Int × Int) :=
  bif t55 then
    Option.bind (Flt.shape.zero (⟨s0.p, s0.w⟩ : float.shape) x2.sign) fun t74 =>
    some (t74, 0)
  else
    letk (x2.class_ == (0 : Int)) fun t78 =>
    bif t78 then
      letk (y3.class_ == (0 : Int)) fun t82 =>
      Flt.shape.add.j5 s0 mode1 x2 y3 t82
    else
      Flt.shape.add.j5 s0 mode1 x2 y3 false

noncomputable def Flt.shape.add.j3 (s0 : float.shape) (mode1 : Int) (x2 y3 : float.number) (t21 : Bool) : Option (Int × Int) :=
  bif t21 then
    Option.bind (Flt.shape.quiet (⟨s0.p, s0.w⟩ : float.shape)) fun t38 =>
    some (t38, 1)
  else
    letk (x2.class_ == (2 : Int)) fun t42 =>
    bif t42 then
      Option.bind (Flt.shape.infinite (⟨s0.p, s0.w⟩ : float.shape) x2.sign) fun t46 =>
      some (t46, 0)
    else
      letk (y3.class_ == (2 : Int)) fun t50 =>
      bif t50 then
        Option.bind (Flt.shape.infinite (⟨s0.p, s0.w⟩ : float.shape) y3.sign) fun t54 =>
        some (t54, 0)
      else
        letk (x2.class_ == (0 : Int)) fun t58 =>
        bif t58 then
          letk (y3.class_ == (0 : Int)) fun t62 =>
          bif t62 then
            letk (x2.sign == y3.sign) fun t69 =>
            Flt.shape.add.j4 s0 mode1 x2 y3 t69
          else
            Flt.shape.add.j4 s0 mode1 x2 y3 false
        else
          Flt.shape.add.j4 s0 mode1 x2 y3 false

noncomputable def Flt.shape.add.j2 (s0 : float.shape) (mode1 : Int) (x2 y3 : float.number) (t10 : Bool) : Option (Int × Int) :=
  bif t10 then
    Option.bind (Flt.shape.quiet (⟨s0.p, s0.w⟩ : float.shape)) fun t20 =>
    some (t20, 0)
  else
    letk (x2.class_ == (2 : Int)) fun t24 =>
    bif t24 then
      letk (y3.class_ == (2 : Int)) fun t28 =>
      bif t28 then
        letk (x2.sign != y3.sign) fun t35 =>
        Flt.shape.add.j3 s0 mode1 x2 y3 t35
      else
        Flt.shape.add.j3 s0 mode1 x2 y3 false
    else
      Flt.shape.add.j3 s0 mode1 x2 y3 false

noncomputable def Flt.shape.add (s0 : float.shape) (mode1 : Int) (x2 y3 : float.number) : Option (Int × Int) :=
  letk (x2.class_ == (3 : Int)) fun t13 =>
  bif t13 then
    Flt.shape.add.j2 s0 mode1 x2 y3 true
  else
    letk (y3.class_ == (3 : Int)) fun t17 =>
    Flt.shape.add.j2 s0 mode1 x2 y3 t17

theorem Flt.shape.add_ok {s0 : float.shape} {mode1 : Int} {x2 y3 : float.number} {r : Int × Int} (h0 : Flt.shape.add s0 mode1 x2 y3 = some r) : Gives Tryz.prog 192 [float.shape.enc s0, J mode1, float.number.enc x2, float.number.enc y3] (.tup [J r.1, J r.2]) := by
  unfold Flt.shape.add at h0
  refine ACalls.of_swp Tryz.func192 rfl (by decide) rfl (st0 := ⟨133, [(0, float.shape.enc s0), (1, J mode1), (2, float.number.enc x2), (3, float.number.enc y3)], []⟩) rfl (bwp_ok (C := [(0, 17), (0, 19), (20, 5), (31, 9), (65, 21), (85, 25)]) ?_)
  conv => whnf
  refine Nm.mk ⟨[J s0.p, J s0.w], rfl, ?_⟩
  conv => whnf
  refine Nm.mk ⟨[J x2.class_, J x2.sign, U x2.m, J x2.e], rfl, ?_⟩
  conv => whnf
  refine Nm.mk ⟨[J y3.class_, J y3.sign, U y3.m, J y3.e], rfl, ?_⟩
  conv => whnf
  refine CutN.of (fun s => ∃ (s4_0 s4_1 x6_0 x6_1 x6_2 x6_3 y7_0 y7_1 y7_2 y7_3 : Int), Flt.shape.add.j0 mode1 s4_0 s4_1 x6_0 x6_1 x6_2 x6_3 y7_0 y7_1 y7_2 y7_3 = some r ∧ s = (⟨133, [(1, J mode1), (4, .ptr 0 0), (6, .ptr 1 0), (7, .ptr 2 0)], [.box [J s4_0, J s4_1], .box [J x6_0, J x6_1, U x6_2, J x6_3], .box [J y7_0, J y7_1, U y7_2, J y7_3]]⟩ : St)) ?_ ?_
  · conv => whnf
    refine CutN.of (fun s => ∃ (t10 : Bool), Flt.shape.add.j2 s0 mode1 x2 y3 t10 = some r ∧ s = (⟨133, [(1, J mode1), (4, .ptr 0 0), (6, .ptr 1 0), (7, .ptr 2 0), (10, .lit (.bool t10))], [.box [J s0.p, J s0.w], .box [J x2.class_, J x2.sign, U x2.m, J x2.e], .box [J y3.class_, J y3.sign, U y3.m, J y3.e]]⟩ : St)) ?_ ?_
    · obtain ⟨t13, et13, h1⟩ := letk_elim h0
      conv => whnf
      refine Nm.mk ⟨t13, et13, ?_⟩
      rcases t13 with _ | _
      · have h2 := bif_f h1
        obtain ⟨t17, et17, h3⟩ := letk_elim h2
        conv => whnf
        refine Nm.mk ⟨t17, et17, ?_⟩
        exact BackS.by ⟨_, h3, rfl⟩ (Sees.of (Weak.objs (keep := [0, 1, 2]) (frz := []) (m := 0) rfl (by decide) rfl rfl ⟨⟨_, rfl, WO.boxs ⟨.s, .s, trivial⟩⟩, ⟨⟨_, rfl, WO.boxs ⟨.s, .s, .s, .s, trivial⟩⟩, ⟨⟨_, rfl, WO.boxs ⟨.s, .s, .s, .s, trivial⟩⟩, ⟨rfl, fun _ h => by cases h⟩⟩⟩⟩ ⟨.s, (.ptr _ _ 0 rfl), (.ptr _ _ 1 rfl), (.ptr _ _ 2 rfl), .s, trivial⟩))
      have h2 := bif_t h1
      exact BackS.by ⟨_, h2, rfl⟩ (Sees.of (Weak.objs (keep := [0, 1, 2]) (frz := []) (m := 0) rfl (by decide) rfl rfl ⟨⟨_, rfl, WO.boxs ⟨.s, .s, trivial⟩⟩, ⟨⟨_, rfl, WO.boxs ⟨.s, .s, .s, .s, trivial⟩⟩, ⟨⟨_, rfl, WO.boxs ⟨.s, .s, .s, .s, trivial⟩⟩, ⟨rfl, fun _ h => by cases h⟩⟩⟩⟩ ⟨.s, (.ptr _ _ 0 rfl), (.ptr _ _ 1 rfl), (.ptr _ _ 2 rfl), .s, trivial⟩))
    rintro s ⟨t10, hj0, rfl⟩
    unfold Flt.shape.add.j2 at hj0
    rcases t10 with _ | _
    · have hj1 := bif_f hj0
      conv => whnf
      refine CutN.of (fun s => ∃ (t21 : Bool), Flt.shape.add.j3 s0 mode1 x2 y3 t21 = some r ∧ s = (⟨133, [(1, J mode1), (4, .ptr 0 0), (6, .ptr 1 0), (7, .ptr 2 0), (21, .lit (.bool t21))], [.box [J s0.p, J s0.w], .box [J x2.class_, J x2.sign, U x2.m, J x2.e], .box [J y3.class_, J y3.sign, U y3.m, J y3.e]]⟩ : St)) ?_ ?_
      · obtain ⟨t24, et24, hj2⟩ := letk_elim hj1
        conv => whnf
        refine Nm.mk ⟨t24, et24, ?_⟩
        rcases t24 with _ | _
        · have hj3 := bif_f hj2
          exact BackS.by ⟨_, hj3, rfl⟩ (Sees.of (Weak.objs (keep := [0, 1, 2]) (frz := []) (m := 0) rfl (by decide) rfl rfl ⟨⟨_, rfl, WO.boxs ⟨.s, .s, trivial⟩⟩, ⟨⟨_, rfl, WO.boxs ⟨.s, .s, .s, .s, trivial⟩⟩, ⟨⟨_, rfl, WO.boxs ⟨.s, .s, .s, .s, trivial⟩⟩, ⟨rfl, fun _ h => by cases h⟩⟩⟩⟩ ⟨.s, (.ptr _ _ 0 rfl), (.ptr _ _ 1 rfl), (.ptr _ _ 2 rfl), .s, trivial⟩))
        have hj3 := bif_t hj2
        obtain ⟨t28, et28, hj4⟩ := letk_elim hj3
        conv => whnf
        refine Nm.mk ⟨t28, et28, ?_⟩
        rcases t28 with _ | _
        · have hj5 := bif_f hj4
          exact BackS.by ⟨_, hj5, rfl⟩ (Sees.of (Weak.objs (keep := [0, 1, 2]) (frz := []) (m := 0) rfl (by decide) rfl rfl ⟨⟨_, rfl, WO.boxs ⟨.s, .s, trivial⟩⟩, ⟨⟨_, rfl, WO.boxs ⟨.s, .s, .s, .s, trivial⟩⟩, ⟨⟨_, rfl, WO.boxs ⟨.s, .s, .s, .s, trivial⟩⟩, ⟨rfl, fun _ h => by cases h⟩⟩⟩⟩ ⟨.s, (.ptr _ _ 0 rfl), (.ptr _ _ 1 rfl), (.ptr _ _ 2 rfl), .s, trivial⟩))
        have hj5 := bif_t hj4
        obtain ⟨t35, et35, hj6⟩ := letk_elim hj5
        conv => whnf
        refine Nm.mk ⟨t35, et35, ?_⟩
        exact BackS.by ⟨_, hj6, rfl⟩ (Sees.of (Weak.objs (keep := [0, 1, 2]) (frz := []) (m := 0) rfl (by decide) rfl rfl ⟨⟨_, rfl, WO.boxs ⟨.s, .s, trivial⟩⟩, ⟨⟨_, rfl, WO.boxs ⟨.s, .s, .s, .s, trivial⟩⟩, ⟨⟨_, rfl, WO.boxs ⟨.s, .s, .s, .s, trivial⟩⟩, ⟨rfl, fun _ h => by cases h⟩⟩⟩⟩ ⟨.s, (.ptr _ _ 0 rfl), (.ptr _ _ 1 rfl), (.ptr _ _ 2 rfl), .s, trivial⟩))
      rintro s ⟨t21, hj0, rfl⟩
      unfold Flt.shape.add.j3 at hj0
      rcases t21 with _ | _
      · have hj1 := bif_f hj0
        obtain ⟨t42, et42, hj2⟩ := letk_elim hj1
        conv => whnf
        refine Nm.mk ⟨t42, et42, ?_⟩
        rcases t42 with _ | _
        · have hj3 := bif_f hj2
          obtain ⟨t50, et50, hj4⟩ := letk_elim hj3
          conv => whnf
          refine Nm.mk ⟨t50, et50, ?_⟩
          rcases t50 with _ | _
          · have hj5 := bif_f hj4
            conv => whnf
            refine CutN.of (fun s => ∃ (t55 : Bool), Flt.shape.add.j4 s0 mode1 x2 y3 t55 = some r ∧ s = (⟨133, [(1, J mode1), (4, .ptr 0 0), (6, .ptr 1 0), (7, .ptr 2 0), (55, .lit (.bool t55))], [.box [J s0.p, J s0.w], .box [J x2.class_, J x2.sign, U x2.m, J x2.e], .box [J y3.class_, J y3.sign, U y3.m, J y3.e]]⟩ : St)) ?_ ?_
            · obtain ⟨t58, et58, hj6⟩ := letk_elim hj5
              conv => whnf
              refine Nm.mk ⟨t58, et58, ?_⟩
              rcases t58 with _ | _
              · have hj7 := bif_f hj6
                exact BackS.by ⟨_, hj7, rfl⟩ (Sees.of (Weak.objs (keep := [0, 1, 2]) (frz := []) (m := 0) rfl (by decide) rfl rfl ⟨⟨_, rfl, WO.boxs ⟨.s, .s, trivial⟩⟩, ⟨⟨_, rfl, WO.boxs ⟨.s, .s, .s, .s, trivial⟩⟩, ⟨⟨_, rfl, WO.boxs ⟨.s, .s, .s, .s, trivial⟩⟩, ⟨rfl, fun _ h => by cases h⟩⟩⟩⟩ ⟨.s, (.ptr _ _ 0 rfl), (.ptr _ _ 1 rfl), (.ptr _ _ 2 rfl), .s, trivial⟩))
              have hj7 := bif_t hj6
              obtain ⟨t62, et62, hj8⟩ := letk_elim hj7
              conv => whnf
              refine Nm.mk ⟨t62, et62, ?_⟩
              rcases t62 with _ | _
              · have hj9 := bif_f hj8
                exact BackS.by ⟨_, hj9, rfl⟩ (Sees.of (Weak.objs (keep := [0, 1, 2]) (frz := []) (m := 0) rfl (by decide) rfl rfl ⟨⟨_, rfl, WO.boxs ⟨.s, .s, trivial⟩⟩, ⟨⟨_, rfl, WO.boxs ⟨.s, .s, .s, .s, trivial⟩⟩, ⟨⟨_, rfl, WO.boxs ⟨.s, .s, .s, .s, trivial⟩⟩, ⟨rfl, fun _ h => by cases h⟩⟩⟩⟩ ⟨.s, (.ptr _ _ 0 rfl), (.ptr _ _ 1 rfl), (.ptr _ _ 2 rfl), .s, trivial⟩))
              have hj9 := bif_t hj8
              obtain ⟨t69, et69, hj10⟩ := letk_elim hj9
              conv => whnf
              refine Nm.mk ⟨t69, et69, ?_⟩
              exact BackS.by ⟨_, hj10, rfl⟩ (Sees.of (Weak.objs (keep := [0, 1, 2]) (frz := []) (m := 0) rfl (by decide) rfl rfl ⟨⟨_, rfl, WO.boxs ⟨.s, .s, trivial⟩⟩, ⟨⟨_, rfl, WO.boxs ⟨.s, .s, .s, .s, trivial⟩⟩, ⟨⟨_, rfl, WO.boxs ⟨.s, .s, .s, .s, trivial⟩⟩, ⟨rfl, fun _ h => by cases h⟩⟩⟩⟩ ⟨.s, (.ptr _ _ 0 rfl), (.ptr _ _ 1 rfl), (.ptr _ _ 2 rfl), .s, trivial⟩))
            rintro s ⟨t55, hj0, rfl⟩
            unfold Flt.shape.add.j4 at hj0
            rcases t55 with _ | _
            · have hj1 := bif_f hj0
              conv => whnf
              refine CutN.of (fun s => ∃ (t75 : Bool), Flt.shape.add.j5 s0 mode1 x2 y3 t75 = some r ∧ s = (⟨133, [(1, J mode1), (4, .ptr 0 0), (6, .ptr 1 0), (7, .ptr 2 0), (75, .lit (.bool t75))], [.box [J s0.p, J s0.w], .box [J x2.class_, J x2.sign, U x2.m, J x2.e], .box [J y3.class_, J y3.sign, U y3.m, J y3.e]]⟩ : St)) ?_ ?_
              · obtain ⟨t78, et78, hj2⟩ := letk_elim hj1
                conv => whnf
                refine Nm.mk ⟨t78, et78, ?_⟩
                rcases t78 with _ | _
                · have hj3 := bif_f hj2
                  exact BackS.by ⟨_, hj3, rfl⟩ (Sees.of (Weak.objs (keep := [0, 1, 2]) (frz := []) (m := 0) rfl (by decide) rfl rfl ⟨⟨_, rfl, WO.boxs ⟨.s, .s, trivial⟩⟩, ⟨⟨_, rfl, WO.boxs ⟨.s, .s, .s, .s, trivial⟩⟩, ⟨⟨_, rfl, WO.boxs ⟨.s, .s, .s, .s, trivial⟩⟩, ⟨rfl, fun _ h => by cases h⟩⟩⟩⟩ ⟨.s, (.ptr _ _ 0 rfl), (.ptr _ _ 1 rfl), (.ptr _ _ 2 rfl), .s, trivial⟩))
                have hj3 := bif_t hj2
                obtain ⟨t82, et82, hj4⟩ := letk_elim hj3
                conv => whnf
                refine Nm.mk ⟨t82, et82, ?_⟩
                exact BackS.by ⟨_, hj4, rfl⟩ (Sees.of (Weak.objs (keep := [0, 1, 2]) (frz := []) (m := 0) rfl (by decide) rfl rfl ⟨⟨_, rfl, WO.boxs ⟨.s, .s, trivial⟩⟩, ⟨⟨_, rfl, WO.boxs ⟨.s, .s, .s, .s, trivial⟩⟩, ⟨⟨_, rfl, WO.boxs ⟨.s, .s, .s, .s, trivial⟩⟩, ⟨rfl, fun _ h => by cases h⟩⟩⟩⟩ ⟨.s, (.ptr _ _ 0 rfl), (.ptr _ _ 1 rfl), (.ptr _ _ 2 rfl), .s, trivial⟩))
              rintro s ⟨t75, hj0, rfl⟩
              unfold Flt.shape.add.j5 at hj0
              rcases t75 with _ | _
              · have hj1 := bif_f hj0
                obtain ⟨t90, et90, hj2⟩ := letk_elim hj1
                conv => whnf
                refine Nm.mk ⟨t90, et90, ?_⟩
                rcases t90 with _ | _
                · have hj3 := bif_f hj2
                  obtain ⟨t106, et106, hj4⟩ := letk_elim hj3
                  conv => whnf
                  refine Nm.mk ⟨t106, et106, ?_⟩
                  rcases t106 with _ | _
                  · have hj5 := bif_f hj4
                    exact BackS.by ⟨_, _, _, _, _, _, _, _, _, _, hj5, rfl⟩ (Sees.of (Weak.objs (keep := [0, 1, 2]) (frz := []) (m := 0) rfl (by decide) rfl rfl ⟨⟨_, rfl, WO.boxs ⟨.s, .s, trivial⟩⟩, ⟨⟨_, rfl, WO.boxs ⟨.s, .s, .s, .s, trivial⟩⟩, ⟨⟨_, rfl, WO.boxs ⟨.s, .s, .s, .s, trivial⟩⟩, ⟨rfl, fun _ h => by cases h⟩⟩⟩⟩ ⟨.s, (.ptr _ _ 0 rfl), (.ptr _ _ 1 rfl), (.ptr _ _ 2 rfl), trivial⟩))
                  have hj5 := bif_t hj4
                  conv => whnf
                  refine Gate.go ?_
                  conv => whnf
                  refine Nm.mk ⟨[U 0, U x2.m, J x2.e, .lit (.bool false)], rfl, ?_⟩
                  obtain ⟨⟨t116_0, t116_1⟩, et116, hj6⟩ := bind_elim hj5
                  conv => whnf
                  refine Gate.go ?_
                  conv => whnf
                  refine CallN.by (v := .tup [J t116_0, J t116_1]) (Flt.shape.round_ok et116) rfl rfl ?_
                  have ehj6_0 := Option.some.inj hj6
                  subst ehj6_0
                  conv => whnf
                  exact Returns.pure (r := .tup [J t116_0, J t116_1]) rfl rfl rfl rfl ⟨rfl, rfl⟩
                have hj3 := bif_t hj2
                conv => whnf
                refine Gate.go ?_
                conv => whnf
                refine Nm.mk ⟨[U 0, U y3.m, J y3.e, .lit (.bool false)], rfl, ?_⟩
                obtain ⟨⟨t100_0, t100_1⟩, et100, hj4⟩ := bind_elim hj3
                conv => whnf
                refine Gate.go ?_
                conv => whnf
                refine CallN.by (v := .tup [J t100_0, J t100_1]) (Flt.shape.round_ok et100) rfl rfl ?_
                have ehj4_0 := Option.some.inj hj4
                subst ehj4_0
                conv => whnf
                exact Returns.pure (r := .tup [J t100_0, J t100_1]) rfl rfl rfl rfl ⟨rfl, rfl⟩
              have hj1 := bif_t hj0
              obtain ⟨t86, et86, hj2⟩ := bind_elim hj1
              conv => whnf
              refine Gate.go ?_
              conv => whnf
              refine CallN.by (v := J t86) (Flt.shape.none_ok et86) rfl rfl ?_
              have ehj2_0 := Option.some.inj hj2
              subst ehj2_0
              conv => whnf
              exact Returns.pure (r := .tup [J t86, J 0]) rfl rfl rfl rfl ⟨rfl, rfl⟩
            have hj1 := bif_t hj0
            obtain ⟨t74, et74, hj2⟩ := bind_elim hj1
            conv => whnf
            refine Gate.go ?_
            conv => whnf
            refine CallN.by (v := J t74) (Flt.shape.zero_ok et74) rfl rfl ?_
            have ehj2_0 := Option.some.inj hj2
            subst ehj2_0
            conv => whnf
            exact Returns.pure (r := .tup [J t74, J 0]) rfl rfl rfl rfl ⟨rfl, rfl⟩
          have hj5 := bif_t hj4
          obtain ⟨t54, et54, hj6⟩ := bind_elim hj5
          conv => whnf
          refine Gate.go ?_
          conv => whnf
          refine CallN.by (v := J t54) (Flt.shape.infinite_ok et54) rfl rfl ?_
          have ehj6_0 := Option.some.inj hj6
          subst ehj6_0
          conv => whnf
          exact Returns.pure (r := .tup [J t54, J 0]) rfl rfl rfl rfl ⟨rfl, rfl⟩
        have hj3 := bif_t hj2
        obtain ⟨t46, et46, hj4⟩ := bind_elim hj3
        conv => whnf
        refine Gate.go ?_
        conv => whnf
        refine CallN.by (v := J t46) (Flt.shape.infinite_ok et46) rfl rfl ?_
        have ehj4_0 := Option.some.inj hj4
        subst ehj4_0
        conv => whnf
        exact Returns.pure (r := .tup [J t46, J 0]) rfl rfl rfl rfl ⟨rfl, rfl⟩
      have hj1 := bif_t hj0
      obtain ⟨t38, et38, hj2⟩ := bind_elim hj1
      conv => whnf
      refine Gate.go ?_
      conv => whnf
      refine CallN.by (v := J t38) (Flt.shape.quiet_ok et38) rfl rfl ?_
      have ehj2_0 := Option.some.inj hj2
      subst ehj2_0
      conv => whnf
      exact Returns.pure (r := .tup [J t38, J 1]) rfl rfl rfl rfl ⟨rfl, rfl⟩
    have hj1 := bif_t hj0
    obtain ⟨t20, et20, hj2⟩ := bind_elim hj1
    conv => whnf
    refine Gate.go ?_
    conv => whnf
    refine CallN.by (v := J t20) (Flt.shape.quiet_ok et20) rfl rfl ?_
    have ehj2_0 := Option.some.inj hj2
    subst ehj2_0
    conv => whnf
    exact Returns.pure (r := .tup [J t20, J 0]) rfl rfl rfl rfl ⟨rfl, rfl⟩
  rintro s ⟨s4_0, s4_1, x6_0, x6_1, x6_2, x6_3, y7_0, y7_1, y7_2, y7_3, hj0, rfl⟩
  unfold Flt.shape.add.j0 at hj0
  conv => whnf
  refine CutN.of (fun s => ∃ (s4_0_1 s4_1_1 x6_0_1 x6_1_1 x6_2_1 x6_3_1 y7_0_1 y7_1_1 y7_2_1 y7_3_1 : Int), Flt.shape.add.j1 mode1 s4_0_1 s4_1_1 x6_0_1 x6_1_1 x6_2_1 x6_3_1 y7_0_1 y7_1_1 y7_2_1 y7_3_1 = some r ∧ s = (⟨133, [(1, J mode1), (4, .ptr 0 0), (6, .ptr 1 0), (7, .ptr 2 0)], [.box [J s4_0_1, J s4_1_1], .box [J x6_0_1, J x6_1_1, U x6_2_1, J x6_3_1], .box [J y7_0_1, J y7_1_1, U y7_2_1, J y7_3_1]]⟩ : St)) ?_ ?_
  · obtain ⟨t123, et123, hj1⟩ := letk_elim hj0
    conv => whnf
    refine Nm.mk ⟨t123, et123, ?_⟩
    rcases t123 with _ | _
    · have hj2 := bif_f hj1
      exact BackS.by ⟨_, _, _, _, _, _, _, _, _, _, hj2, rfl⟩ (Sees.of (Weak.objs (keep := [0, 1, 2]) (frz := []) (m := 0) rfl (by decide) rfl rfl ⟨⟨_, rfl, WO.boxs ⟨.s, .s, trivial⟩⟩, ⟨⟨_, rfl, WO.boxs ⟨.s, .s, .s, .s, trivial⟩⟩, ⟨⟨_, rfl, WO.boxs ⟨.s, .s, .s, .s, trivial⟩⟩, ⟨rfl, fun _ h => by cases h⟩⟩⟩⟩ ⟨.s, (.ptr _ _ 0 rfl), (.ptr _ _ 1 rfl), (.ptr _ _ 2 rfl), trivial⟩))
    have hj2 := bif_t hj1
    conv => whnf
    refine Nm.mk ⟨[J y7_0, J y7_1, U y7_2, J y7_3], rfl, ?_⟩
    conv => whnf
    refine Nm.mk ⟨[J x6_0, J x6_1, U x6_2, J x6_3], rfl, ?_⟩
    exact BackS.by ⟨_, _, _, _, _, _, _, _, _, _, hj2, rfl⟩ (Sees.of (Weak.objs (keep := [0, 1, 2]) (frz := []) (m := 0) rfl (by decide) rfl rfl ⟨⟨_, rfl, WO.boxs ⟨.s, .s, trivial⟩⟩, ⟨⟨_, rfl, WO.boxs ⟨.s, .s, .s, .s, trivial⟩⟩, ⟨⟨_, rfl, WO.boxs ⟨.s, .s, .s, .s, trivial⟩⟩, ⟨rfl, fun _ h => by cases h⟩⟩⟩⟩ ⟨.s, (.ptr _ _ 0 rfl), (.ptr _ _ 1 rfl), (.ptr _ _ 2 rfl), trivial⟩))
  rintro s ⟨s4_0_1, s4_1_1, x6_0_1, x6_1_1, x6_2_1, x6_3_1, y7_0_1, y7_1_1, y7_2_1, y7_3_1, hj0, rfl⟩
  unfold Flt.shape.add.j1 at hj0
  obtain ⟨⟨t130_0, t130_1⟩, et130, hj1⟩ := bind_elim hj0
  conv => whnf
  refine Gate.go ?_
  conv => whnf
  refine CallN.by (v := .tup [J t130_0, J t130_1]) (Flt.shape.sum_ok et130) rfl rfl ?_
  have ehj1_0 := Option.some.inj hj1
  subst ehj1_0
  conv => whnf
  exact Returns.pure (r := .tup [J t130_0, J t130_1]) rfl rfl rfl rfl ⟨rfl, rfl⟩

noncomputable def Flt.Add (kind0 mode1 a2 b3 : Int) : Option (Int × Int × Int) :=
  Option.bind (Flt.two kind0 mode1 a2 b3) fun (t20_0, t20_1, t20_2, t20_3) =>
  letk (!t20_3) fun t26 =>
  bif t26 then
    some (0, 0, 2)
  else
    Option.bind (Flt.shape.add (⟨t20_0.p, t20_0.w⟩ : float.shape) mode1 (⟨t20_1.class_, t20_1.sign, t20_1.m, t20_1.e⟩ : float.number) (⟨t20_2.class_, t20_2.sign, t20_2.m, t20_2.e⟩ : float.number)) fun (t32_0, t32_1) =>
    some (t32_0, t32_1, 0)

theorem Flt.Add_ok {kind0 mode1 a2 b3 : Int} {r : Int × Int × Int} (h0 : Flt.Add kind0 mode1 a2 b3 = some r) : Gives Tryz.prog 143 [J kind0, J mode1, J a2, J b3] (.tup [J r.1, J r.2.1, J r.2.2]) := by
  unfold Flt.Add at h0
  refine ACalls.of_swp Tryz.func143 rfl (by decide) rfl (st0 := ⟨37, [(0, J kind0), (1, J mode1), (2, J a2), (3, J b3)], []⟩) rfl (bwp_ok (C := []) ?_)
  obtain ⟨⟨t20_0, t20_1, t20_2, t20_3⟩, et20, h1⟩ := bind_elim h0
  conv => whnf
  refine Gate.go ?_
  conv => whnf
  refine CallN.by (v := .tup [float.shape.enc t20_0, float.number.enc t20_1, float.number.enc t20_2, .lit (.bool t20_3)]) (Flt.two_ok et20) rfl rfl ?_
  conv => whnf
  refine Nm.mk ⟨[J 0, J 0], rfl, ?_⟩
  conv => whnf
  refine Nm.mk ⟨[J 0, J 0, U 0, J 0], rfl, ?_⟩
  conv => whnf
  refine Nm.mk ⟨[J 0, J 0, U 0, J 0], rfl, ?_⟩
  conv => whnf
  refine Nm.mk ⟨[J t20_0.p, J t20_0.w], rfl, ?_⟩
  conv => whnf
  refine Nm.mk ⟨[J t20_1.class_, J t20_1.sign, U t20_1.m, J t20_1.e], rfl, ?_⟩
  conv => whnf
  refine Nm.mk ⟨[J t20_2.class_, J t20_2.sign, U t20_2.m, J t20_2.e], rfl, ?_⟩
  obtain ⟨t26, et26, h2⟩ := letk_elim h1
  conv => whnf
  refine Nm.mk ⟨t26, et26, ?_⟩
  rcases t26 with _ | _
  · have h3 := bif_f h2
    obtain ⟨⟨t32_0, t32_1⟩, et32, h4⟩ := bind_elim h3
    conv => whnf
    refine Gate.go ?_
    conv => whnf
    refine CallN.by (v := .tup [J t32_0, J t32_1]) (Flt.shape.add_ok et32) rfl rfl ?_
    have eh4_0 := Option.some.inj h4
    subst eh4_0
    conv => whnf
    exact Returns.pure (r := .tup [J t32_0, J t32_1, J 0]) rfl rfl rfl rfl ⟨rfl, rfl⟩
  have h3 := bif_t h2
  have eh3_0 := Option.some.inj h3
  subst eh3_0
  conv => whnf
  exact Returns.pure (r := .tup [J 0, J 0, J 2]) rfl rfl rfl rfl ⟨rfl, rfl⟩

noncomputable def Flt.Sub (kind0 mode1 a2 b3 : Int) : Option (Int × Int × Int) :=
  Option.bind (Flt.two kind0 mode1 a2 b3) fun (t20_0, t20_1, t20_2, t20_3) =>
  letk (!t20_3) fun t26 =>
  bif t26 then
    some (0, 0, 2)
  else
    letk (IntKind.i64.wrap ((1 : Int) - t20_2.sign)) fun t29 =>
    Option.bind (Flt.shape.add (⟨t20_0.p, t20_0.w⟩ : float.shape) mode1 (⟨t20_1.class_, t20_1.sign, t20_1.m, t20_1.e⟩ : float.number) (⟨t20_2.class_, t29, t20_2.m, t20_2.e⟩ : float.number)) fun (t36_0, t36_1) =>
    some (t36_0, t36_1, 0)

theorem Flt.Sub_ok {kind0 mode1 a2 b3 : Int} {r : Int × Int × Int} (h0 : Flt.Sub kind0 mode1 a2 b3 = some r) : Gives Tryz.prog 144 [J kind0, J mode1, J a2, J b3] (.tup [J r.1, J r.2.1, J r.2.2]) := by
  unfold Flt.Sub at h0
  refine ACalls.of_swp Tryz.func144 rfl (by decide) rfl (st0 := ⟨41, [(0, J kind0), (1, J mode1), (2, J a2), (3, J b3)], []⟩) rfl (bwp_ok (C := []) ?_)
  obtain ⟨⟨t20_0, t20_1, t20_2, t20_3⟩, et20, h1⟩ := bind_elim h0
  conv => whnf
  refine Gate.go ?_
  conv => whnf
  refine CallN.by (v := .tup [float.shape.enc t20_0, float.number.enc t20_1, float.number.enc t20_2, .lit (.bool t20_3)]) (Flt.two_ok et20) rfl rfl ?_
  conv => whnf
  refine Nm.mk ⟨[J 0, J 0], rfl, ?_⟩
  conv => whnf
  refine Nm.mk ⟨[J 0, J 0, U 0, J 0], rfl, ?_⟩
  conv => whnf
  refine Nm.mk ⟨[J 0, J 0, U 0, J 0], rfl, ?_⟩
  conv => whnf
  refine Nm.mk ⟨[J t20_0.p, J t20_0.w], rfl, ?_⟩
  conv => whnf
  refine Nm.mk ⟨[J t20_1.class_, J t20_1.sign, U t20_1.m, J t20_1.e], rfl, ?_⟩
  conv => whnf
  refine Nm.mk ⟨[J t20_2.class_, J t20_2.sign, U t20_2.m, J t20_2.e], rfl, ?_⟩
  obtain ⟨t26, et26, h2⟩ := letk_elim h1
  conv => whnf
  refine Nm.mk ⟨t26, et26, ?_⟩
  rcases t26 with _ | _
  · have h3 := bif_f h2
    obtain ⟨t29, et29, h4⟩ := letk_elim h3
    conv => whnf
    refine Nm.mk ⟨t29, et29, ?_⟩
    conv => whnf
    refine Nm.mk ⟨[J t20_2.class_, J t29, U t20_2.m, J t20_2.e], rfl, ?_⟩
    obtain ⟨⟨t36_0, t36_1⟩, et36, h5⟩ := bind_elim h4
    conv => whnf
    refine Gate.go ?_
    conv => whnf
    refine CallN.by (v := .tup [J t36_0, J t36_1]) (Flt.shape.add_ok et36) rfl rfl ?_
    have eh5_0 := Option.some.inj h5
    subst eh5_0
    conv => whnf
    exact Returns.pure (r := .tup [J t36_0, J t36_1, J 0]) rfl rfl rfl rfl ⟨rfl, rfl⟩
  have h3 := bif_t h2
  have eh3_0 := Option.some.inj h3
  subst eh3_0
  conv => whnf
  exact Returns.pure (r := .tup [J 0, J 0, J 2]) rfl rfl rfl rfl ⟨rfl, rfl⟩

noncomputable def Flt.Mul.j0 (mode1 t34 s11_0 s11_1 x12_0 x12_1 x12_2 x12_3 y13_0 y13_1 y13_2 y13_3 : Int) : Option (Int × Int × Int) :=
  Option.bind (Bits.Mul64 x12_2 y13_2) fun (t96_0, t96_1) =>
  letk (IntKind.i64.wrap (x12_3 + y13_3)) fun t109 =>
  Option.bind (Flt.shape.round (⟨s11_0, s11_1⟩ : float.shape) mode1 t34 (⟨t96_0, t96_1, t109, false⟩ : float.exact)) fun (t111_0, t111_1) =>
  some (t111_0, t111_1, 0)

noncomputable def Flt.Mul.j4 (mode1 : Int) (t23_0 : float.shape) (t23_1 t23_2 : float.number) (t34 : Int) (t79 : Bool) : Option (Int × Int × Int) :=
  bif t79 then
    Option.bind (Flt.shape.zero (⟨t23_0.p, t23_0.w⟩ : float.shape) t34) fun t90 =>
    some (t90, 0, 0)
  else
    Flt.Mul.j0 mode1 t34 t23_0.p t23_0.w t23_1.class_ t23_1.sign t23_1.m t23_1.e t23_2.class_ t23_2.sign t23_2.m t23_2.e

noncomputable def Flt.Mul.j3 (mode1 : Int) (t23_0 : float.shape) (t23_1 t23_2 : float.number) (t34 : Int) (t67 : Bool) : Option (Int × Int × Int) :=
  bif t67 then
    Option.bind (Flt.shape.infinite (⟨t23_0.p, t23_0.w⟩ : float.shape) t34) fun t78 =>
    some (t78, 0, 0)
  else
    letk (t23_1.class_ == (0 : Int)) fun t82 =>
    bif t82 then
      Flt.Mul.j4 mode1 t23_0 t23_1 t23_2 t34 true
    else
      letk (t23_2.class_ == (0 : Int)) fun t86 =>
      Flt.Mul.j4 mode1 t23_0 t23_1 t23_2 t34 t86

noncomputable def Flt.Mul.j2 (mode1 : Int) (t23_0 : float.shape) (t23_1 t23_2 : float.number) (t34 : Int) (t46 : Bool) : Option (Int × Int × Int) :=
  bif t46 then
    Option.bind (Flt.shape.quiet (⟨t23_0.p, t23_0.w⟩ : float.shape)) fun t66 =>
    some (t66, 1, 0)
  else
    letk (t23_1.class_ == (2 : Int)) fun t70 =>
    bif t70 then
      Flt.Mul.j3 mode1 t23_0 t23_1 t23_2 t34 true
    else
      letk (t23_2.class_ == (2 : Int)) fun t74 =>
      Flt.Mul.j3 mode1 t23_0 t23_1 t23_2 t34 t74

noncomputable def Flt.Mul.j1 (mode1 : Int) (t23_0 : float.shape) (t23_1 t23_2 : float.number) (t34 : Int) (t35 : Bool) : Option (Int × Int × Int) :=
  bif t35 then
    Option.bind (Flt.shape.quiet (⟨t23_0.p, t23_0.w⟩ : float.shape)) fun t45 =>
    some (t45, 0, 0)
  else
    letk (t23_1.class_ == (2 : Int)) fun t49 =>
    bif t49 then
      letk (t23_2.class_ == (0 : Int)) fun t53 =>
      bif t53 then
        Flt.Mul.j2 mode1 t23_0 t23_1 t23_2 t34 true
      else
        letk (t23_1.class_ == (0 : Int)) fun t58_1 =>
        bif t58_1 then
          letk (t23_2.class_ == (2 : Int)) fun t62_1 =>
          Flt.Mul.j2 mode1 t23_0 t23_1 t23_2 t34 t62_1
        else
          Flt.Mul.j2 mode1 t23_0 t23_1 t23_2 t34 false
    else
      letk (t23_1.class_ == (0 : Int)) fun t58 =>
      bif t58 then
        letk (t23_2.class_ == (2 : Int)) fun t62 =>
        Flt.Mul.j2 mode1 t23_0 t23_1 t23_2 t34 t62
      else
        Flt.Mul.j2 mode1 t23_0 t23_1 t23_2 t34 false

noncomputable def Flt.Mul (kind0 mode1 a2 b3 : Int) : Option (Int × Int × Int) :=
  Option.bind (Flt.two kind0 mode1 a2 b3) fun (t23_0, t23_1, t23_2, t23_3) =>
  letk (!t23_3) fun t29 =>
  bif t29 then
    some (0, 0, 2)
  else
    letk (IntKind.i64.wrap (BitVec.ofInt (IntKind.i64).bits t23_1.sign ^^^ BitVec.ofInt (IntKind.i64).bits t23_2.sign).toNat) fun t34 =>
    letk (t23_1.class_ == (3 : Int)) fun t38 =>
    bif t38 then
      Flt.Mul.j1 mode1 t23_0 t23_1 t23_2 t34 true
    else
      letk (t23_2.class_ == (3 : Int)) fun t42 =>
      Flt.Mul.j1 mode1 t23_0 t23_1 t23_2 t34 t42

theorem Flt.Mul_ok {kind0 mode1 a2 b3 : Int} {r : Int × Int × Int} (h0 : Flt.Mul kind0 mode1 a2 b3 = some r) : Gives Tryz.prog 145 [J kind0, J mode1, J a2, J b3] (.tup [J r.1, J r.2.1, J r.2.2]) := by
  unfold Flt.Mul at h0
  refine ACalls.of_swp Tryz.func145 rfl (by decide) rfl (st0 := ⟨116, [(0, J kind0), (1, J mode1), (2, J a2), (3, J b3)], []⟩) rfl (bwp_ok (C := [(0, 13), (45, 13), (56, 17), (77, 21), (89, 25)]) ?_)
  obtain ⟨⟨t23_0, t23_1, t23_2, t23_3⟩, et23, h1⟩ := bind_elim h0
  conv => whnf
  refine Gate.go ?_
  conv => whnf
  refine CallN.by (v := .tup [float.shape.enc t23_0, float.number.enc t23_1, float.number.enc t23_2, .lit (.bool t23_3)]) (Flt.two_ok et23) rfl rfl ?_
  conv => whnf
  refine Nm.mk ⟨[J 0, J 0], rfl, ?_⟩
  conv => whnf
  refine Nm.mk ⟨[J 0, J 0, U 0, J 0], rfl, ?_⟩
  conv => whnf
  refine Nm.mk ⟨[J 0, J 0, U 0, J 0], rfl, ?_⟩
  conv => whnf
  refine Nm.mk ⟨[J t23_0.p, J t23_0.w], rfl, ?_⟩
  conv => whnf
  refine Nm.mk ⟨[J t23_1.class_, J t23_1.sign, U t23_1.m, J t23_1.e], rfl, ?_⟩
  conv => whnf
  refine Nm.mk ⟨[J t23_2.class_, J t23_2.sign, U t23_2.m, J t23_2.e], rfl, ?_⟩
  obtain ⟨t29, et29, h2⟩ := letk_elim h1
  conv => whnf
  refine Nm.mk ⟨t29, et29, ?_⟩
  rcases t29 with _ | _
  · have h3 := bif_f h2
    obtain ⟨t34, et34, h4⟩ := letk_elim h3
    conv => whnf
    refine Nm.mk ⟨t34, et34, ?_⟩
    conv => whnf
    refine CutN.of (fun s => ∃ (s11_0 s11_1 x12_0 x12_1 x12_2 x12_3 y13_0 y13_1 y13_2 y13_3 : Int), Flt.Mul.j0 mode1 t34 s11_0 s11_1 x12_0 x12_1 x12_2 x12_3 y13_0 y13_1 y13_2 y13_3 = some r ∧ s = (⟨116, [(1, J mode1), (11, .ptr 0 0), (12, .ptr 1 0), (13, .ptr 2 0), (15, J t34)], [.box [J s11_0, J s11_1], .box [J x12_0, J x12_1, U x12_2, J x12_3], .box [J y13_0, J y13_1, U y13_2, J y13_3]]⟩ : St)) ?_ ?_
    · conv => whnf
      refine CutN.of (fun s => ∃ (t35 : Bool), Flt.Mul.j1 mode1 t23_0 t23_1 t23_2 t34 t35 = some r ∧ s = (⟨116, [(1, J mode1), (11, .ptr 0 0), (12, .ptr 1 0), (13, .ptr 2 0), (15, J t34), (35, .lit (.bool t35))], [.box [J t23_0.p, J t23_0.w], .box [J t23_1.class_, J t23_1.sign, U t23_1.m, J t23_1.e], .box [J t23_2.class_, J t23_2.sign, U t23_2.m, J t23_2.e]]⟩ : St)) ?_ ?_
      · obtain ⟨t38, et38, h5⟩ := letk_elim h4
        conv => whnf
        refine Nm.mk ⟨t38, et38, ?_⟩
        rcases t38 with _ | _
        · have h6 := bif_f h5
          obtain ⟨t42, et42, h7⟩ := letk_elim h6
          conv => whnf
          refine Nm.mk ⟨t42, et42, ?_⟩
          exact BackS.by ⟨_, h7, rfl⟩ (Sees.of (Weak.objs (keep := [0, 1, 2]) (frz := []) (m := 0) rfl (by decide) rfl rfl ⟨⟨_, rfl, WO.boxs ⟨.s, .s, trivial⟩⟩, ⟨⟨_, rfl, WO.boxs ⟨.s, .s, .s, .s, trivial⟩⟩, ⟨⟨_, rfl, WO.boxs ⟨.s, .s, .s, .s, trivial⟩⟩, ⟨rfl, fun _ h => by cases h⟩⟩⟩⟩ ⟨.s, (.ptr _ _ 0 rfl), (.ptr _ _ 1 rfl), (.ptr _ _ 2 rfl), .s, .s, trivial⟩))
        have h6 := bif_t h5
        exact BackS.by ⟨_, h6, rfl⟩ (Sees.of (Weak.objs (keep := [0, 1, 2]) (frz := []) (m := 0) rfl (by decide) rfl rfl ⟨⟨_, rfl, WO.boxs ⟨.s, .s, trivial⟩⟩, ⟨⟨_, rfl, WO.boxs ⟨.s, .s, .s, .s, trivial⟩⟩, ⟨⟨_, rfl, WO.boxs ⟨.s, .s, .s, .s, trivial⟩⟩, ⟨rfl, fun _ h => by cases h⟩⟩⟩⟩ ⟨.s, (.ptr _ _ 0 rfl), (.ptr _ _ 1 rfl), (.ptr _ _ 2 rfl), .s, .s, trivial⟩))
      rintro s ⟨t35, hj0, rfl⟩
      unfold Flt.Mul.j1 at hj0
      rcases t35 with _ | _
      · have hj1 := bif_f hj0
        conv => whnf
        refine CutN.of (fun s => ∃ (t46 : Bool), Flt.Mul.j2 mode1 t23_0 t23_1 t23_2 t34 t46 = some r ∧ s = (⟨116, [(1, J mode1), (11, .ptr 0 0), (12, .ptr 1 0), (13, .ptr 2 0), (15, J t34), (46, .lit (.bool t46))], [.box [J t23_0.p, J t23_0.w], .box [J t23_1.class_, J t23_1.sign, U t23_1.m, J t23_1.e], .box [J t23_2.class_, J t23_2.sign, U t23_2.m, J t23_2.e]]⟩ : St)) ?_ ?_
        · obtain ⟨t49, et49, hj2⟩ := letk_elim hj1
          conv => whnf
          refine Nm.mk ⟨t49, et49, ?_⟩
          rcases t49 with _ | _
          · have hj3 := bif_f hj2
            obtain ⟨t58, et58, hj4⟩ := letk_elim hj3
            conv => whnf
            refine Nm.mk ⟨t58, et58, ?_⟩
            rcases t58 with _ | _
            · have hj5 := bif_f hj4
              exact BackS.by ⟨_, hj5, rfl⟩ (Sees.of (Weak.objs (keep := [0, 1, 2]) (frz := []) (m := 0) rfl (by decide) rfl rfl ⟨⟨_, rfl, WO.boxs ⟨.s, .s, trivial⟩⟩, ⟨⟨_, rfl, WO.boxs ⟨.s, .s, .s, .s, trivial⟩⟩, ⟨⟨_, rfl, WO.boxs ⟨.s, .s, .s, .s, trivial⟩⟩, ⟨rfl, fun _ h => by cases h⟩⟩⟩⟩ ⟨.s, (.ptr _ _ 0 rfl), (.ptr _ _ 1 rfl), (.ptr _ _ 2 rfl), .s, .s, trivial⟩))
            have hj5 := bif_t hj4
            obtain ⟨t62, et62, hj6⟩ := letk_elim hj5
            conv => whnf
            refine Nm.mk ⟨t62, et62, ?_⟩
            exact BackS.by ⟨_, hj6, rfl⟩ (Sees.of (Weak.objs (keep := [0, 1, 2]) (frz := []) (m := 0) rfl (by decide) rfl rfl ⟨⟨_, rfl, WO.boxs ⟨.s, .s, trivial⟩⟩, ⟨⟨_, rfl, WO.boxs ⟨.s, .s, .s, .s, trivial⟩⟩, ⟨⟨_, rfl, WO.boxs ⟨.s, .s, .s, .s, trivial⟩⟩, ⟨rfl, fun _ h => by cases h⟩⟩⟩⟩ ⟨.s, (.ptr _ _ 0 rfl), (.ptr _ _ 1 rfl), (.ptr _ _ 2 rfl), .s, .s, trivial⟩))
          have hj3 := bif_t hj2
          obtain ⟨t53, et53, hj4⟩ := letk_elim hj3
          conv => whnf
          refine Nm.mk ⟨t53, et53, ?_⟩
          rcases t53 with _ | _
          · have hj5 := bif_f hj4
            obtain ⟨t58_1, et58_1, hj6⟩ := letk_elim hj5
            conv => whnf
            refine Nm.mk ⟨t58_1, et58_1, ?_⟩
            rcases t58_1 with _ | _
            · have hj7 := bif_f hj6
              exact BackS.by ⟨_, hj7, rfl⟩ (Sees.of (Weak.objs (keep := [0, 1, 2]) (frz := []) (m := 0) rfl (by decide) rfl rfl ⟨⟨_, rfl, WO.boxs ⟨.s, .s, trivial⟩⟩, ⟨⟨_, rfl, WO.boxs ⟨.s, .s, .s, .s, trivial⟩⟩, ⟨⟨_, rfl, WO.boxs ⟨.s, .s, .s, .s, trivial⟩⟩, ⟨rfl, fun _ h => by cases h⟩⟩⟩⟩ ⟨.s, (.ptr _ _ 0 rfl), (.ptr _ _ 1 rfl), (.ptr _ _ 2 rfl), .s, .s, trivial⟩))
            have hj7 := bif_t hj6
            obtain ⟨t62_1, et62_1, hj8⟩ := letk_elim hj7
            conv => whnf
            refine Nm.mk ⟨t62_1, et62_1, ?_⟩
            exact BackS.by ⟨_, hj8, rfl⟩ (Sees.of (Weak.objs (keep := [0, 1, 2]) (frz := []) (m := 0) rfl (by decide) rfl rfl ⟨⟨_, rfl, WO.boxs ⟨.s, .s, trivial⟩⟩, ⟨⟨_, rfl, WO.boxs ⟨.s, .s, .s, .s, trivial⟩⟩, ⟨⟨_, rfl, WO.boxs ⟨.s, .s, .s, .s, trivial⟩⟩, ⟨rfl, fun _ h => by cases h⟩⟩⟩⟩ ⟨.s, (.ptr _ _ 0 rfl), (.ptr _ _ 1 rfl), (.ptr _ _ 2 rfl), .s, .s, trivial⟩))
          have hj5 := bif_t hj4
          exact BackS.by ⟨_, hj5, rfl⟩ (Sees.of (Weak.objs (keep := [0, 1, 2]) (frz := []) (m := 0) rfl (by decide) rfl rfl ⟨⟨_, rfl, WO.boxs ⟨.s, .s, trivial⟩⟩, ⟨⟨_, rfl, WO.boxs ⟨.s, .s, .s, .s, trivial⟩⟩, ⟨⟨_, rfl, WO.boxs ⟨.s, .s, .s, .s, trivial⟩⟩, ⟨rfl, fun _ h => by cases h⟩⟩⟩⟩ ⟨.s, (.ptr _ _ 0 rfl), (.ptr _ _ 1 rfl), (.ptr _ _ 2 rfl), .s, .s, trivial⟩))
        rintro s ⟨t46, hj0, rfl⟩
        unfold Flt.Mul.j2 at hj0
        rcases t46 with _ | _
        · have hj1 := bif_f hj0
          conv => whnf
          refine CutN.of (fun s => ∃ (t67 : Bool), Flt.Mul.j3 mode1 t23_0 t23_1 t23_2 t34 t67 = some r ∧ s = (⟨116, [(1, J mode1), (11, .ptr 0 0), (12, .ptr 1 0), (13, .ptr 2 0), (15, J t34), (67, .lit (.bool t67))], [.box [J t23_0.p, J t23_0.w], .box [J t23_1.class_, J t23_1.sign, U t23_1.m, J t23_1.e], .box [J t23_2.class_, J t23_2.sign, U t23_2.m, J t23_2.e]]⟩ : St)) ?_ ?_
          · obtain ⟨t70, et70, hj2⟩ := letk_elim hj1
            conv => whnf
            refine Nm.mk ⟨t70, et70, ?_⟩
            rcases t70 with _ | _
            · have hj3 := bif_f hj2
              obtain ⟨t74, et74, hj4⟩ := letk_elim hj3
              conv => whnf
              refine Nm.mk ⟨t74, et74, ?_⟩
              exact BackS.by ⟨_, hj4, rfl⟩ (Sees.of (Weak.objs (keep := [0, 1, 2]) (frz := []) (m := 0) rfl (by decide) rfl rfl ⟨⟨_, rfl, WO.boxs ⟨.s, .s, trivial⟩⟩, ⟨⟨_, rfl, WO.boxs ⟨.s, .s, .s, .s, trivial⟩⟩, ⟨⟨_, rfl, WO.boxs ⟨.s, .s, .s, .s, trivial⟩⟩, ⟨rfl, fun _ h => by cases h⟩⟩⟩⟩ ⟨.s, (.ptr _ _ 0 rfl), (.ptr _ _ 1 rfl), (.ptr _ _ 2 rfl), .s, .s, trivial⟩))
            have hj3 := bif_t hj2
            exact BackS.by ⟨_, hj3, rfl⟩ (Sees.of (Weak.objs (keep := [0, 1, 2]) (frz := []) (m := 0) rfl (by decide) rfl rfl ⟨⟨_, rfl, WO.boxs ⟨.s, .s, trivial⟩⟩, ⟨⟨_, rfl, WO.boxs ⟨.s, .s, .s, .s, trivial⟩⟩, ⟨⟨_, rfl, WO.boxs ⟨.s, .s, .s, .s, trivial⟩⟩, ⟨rfl, fun _ h => by cases h⟩⟩⟩⟩ ⟨.s, (.ptr _ _ 0 rfl), (.ptr _ _ 1 rfl), (.ptr _ _ 2 rfl), .s, .s, trivial⟩))
          rintro s ⟨t67, hj0, rfl⟩
          unfold Flt.Mul.j3 at hj0
          rcases t67 with _ | _
          · have hj1 := bif_f hj0
            conv => whnf
            refine CutN.of (fun s => ∃ (t79 : Bool), Flt.Mul.j4 mode1 t23_0 t23_1 t23_2 t34 t79 = some r ∧ s = (⟨116, [(1, J mode1), (11, .ptr 0 0), (12, .ptr 1 0), (13, .ptr 2 0), (15, J t34), (79, .lit (.bool t79))], [.box [J t23_0.p, J t23_0.w], .box [J t23_1.class_, J t23_1.sign, U t23_1.m, J t23_1.e], .box [J t23_2.class_, J t23_2.sign, U t23_2.m, J t23_2.e]]⟩ : St)) ?_ ?_
            · obtain ⟨t82, et82, hj2⟩ := letk_elim hj1
              conv => whnf
              refine Nm.mk ⟨t82, et82, ?_⟩
              rcases t82 with _ | _
              · have hj3 := bif_f hj2
                obtain ⟨t86, et86, hj4⟩ := letk_elim hj3
                conv => whnf
                refine Nm.mk ⟨t86, et86, ?_⟩
                exact BackS.by ⟨_, hj4, rfl⟩ (Sees.of (Weak.objs (keep := [0, 1, 2]) (frz := []) (m := 0) rfl (by decide) rfl rfl ⟨⟨_, rfl, WO.boxs ⟨.s, .s, trivial⟩⟩, ⟨⟨_, rfl, WO.boxs ⟨.s, .s, .s, .s, trivial⟩⟩, ⟨⟨_, rfl, WO.boxs ⟨.s, .s, .s, .s, trivial⟩⟩, ⟨rfl, fun _ h => by cases h⟩⟩⟩⟩ ⟨.s, (.ptr _ _ 0 rfl), (.ptr _ _ 1 rfl), (.ptr _ _ 2 rfl), .s, .s, trivial⟩))
              have hj3 := bif_t hj2
              exact BackS.by ⟨_, hj3, rfl⟩ (Sees.of (Weak.objs (keep := [0, 1, 2]) (frz := []) (m := 0) rfl (by decide) rfl rfl ⟨⟨_, rfl, WO.boxs ⟨.s, .s, trivial⟩⟩, ⟨⟨_, rfl, WO.boxs ⟨.s, .s, .s, .s, trivial⟩⟩, ⟨⟨_, rfl, WO.boxs ⟨.s, .s, .s, .s, trivial⟩⟩, ⟨rfl, fun _ h => by cases h⟩⟩⟩⟩ ⟨.s, (.ptr _ _ 0 rfl), (.ptr _ _ 1 rfl), (.ptr _ _ 2 rfl), .s, .s, trivial⟩))
            rintro s ⟨t79, hj0, rfl⟩
            unfold Flt.Mul.j4 at hj0
            rcases t79 with _ | _
            · have hj1 := bif_f hj0
              exact BackS.by ⟨_, _, _, _, _, _, _, _, _, _, hj1, rfl⟩ (Sees.of (Weak.objs (keep := [0, 1, 2]) (frz := []) (m := 0) rfl (by decide) rfl rfl ⟨⟨_, rfl, WO.boxs ⟨.s, .s, trivial⟩⟩, ⟨⟨_, rfl, WO.boxs ⟨.s, .s, .s, .s, trivial⟩⟩, ⟨⟨_, rfl, WO.boxs ⟨.s, .s, .s, .s, trivial⟩⟩, ⟨rfl, fun _ h => by cases h⟩⟩⟩⟩ ⟨.s, (.ptr _ _ 0 rfl), (.ptr _ _ 1 rfl), (.ptr _ _ 2 rfl), .s, trivial⟩))
            have hj1 := bif_t hj0
            obtain ⟨t90, et90, hj2⟩ := bind_elim hj1
            conv => whnf
            refine Gate.go ?_
            conv => whnf
            refine CallN.by (v := J t90) (Flt.shape.zero_ok et90) rfl rfl ?_
            have ehj2_0 := Option.some.inj hj2
            subst ehj2_0
            conv => whnf
            exact Returns.pure (r := .tup [J t90, J 0, J 0]) rfl rfl rfl rfl ⟨rfl, rfl⟩
          have hj1 := bif_t hj0
          obtain ⟨t78, et78, hj2⟩ := bind_elim hj1
          conv => whnf
          refine Gate.go ?_
          conv => whnf
          refine CallN.by (v := J t78) (Flt.shape.infinite_ok et78) rfl rfl ?_
          have ehj2_0 := Option.some.inj hj2
          subst ehj2_0
          conv => whnf
          exact Returns.pure (r := .tup [J t78, J 0, J 0]) rfl rfl rfl rfl ⟨rfl, rfl⟩
        have hj1 := bif_t hj0
        obtain ⟨t66, et66, hj2⟩ := bind_elim hj1
        conv => whnf
        refine Gate.go ?_
        conv => whnf
        refine CallN.by (v := J t66) (Flt.shape.quiet_ok et66) rfl rfl ?_
        have ehj2_0 := Option.some.inj hj2
        subst ehj2_0
        conv => whnf
        exact Returns.pure (r := .tup [J t66, J 1, J 0]) rfl rfl rfl rfl ⟨rfl, rfl⟩
      have hj1 := bif_t hj0
      obtain ⟨t45, et45, hj2⟩ := bind_elim hj1
      conv => whnf
      refine Gate.go ?_
      conv => whnf
      refine CallN.by (v := J t45) (Flt.shape.quiet_ok et45) rfl rfl ?_
      have ehj2_0 := Option.some.inj hj2
      subst ehj2_0
      conv => whnf
      exact Returns.pure (r := .tup [J t45, J 0, J 0]) rfl rfl rfl rfl ⟨rfl, rfl⟩
    rintro s ⟨s11_0, s11_1, x12_0, x12_1, x12_2, x12_3, y13_0, y13_1, y13_2, y13_3, hj0, rfl⟩
    unfold Flt.Mul.j0 at hj0
    obtain ⟨⟨t96_0, t96_1⟩, et96, hj1⟩ := bind_elim hj0
    conv => whnf
    refine Gate.go ?_
    conv => whnf
    refine CallN.by (v := .tup [U t96_0, U t96_1]) (Bits.Mul64_ok et96) rfl rfl ?_
    obtain ⟨t109, et109, hj2⟩ := letk_elim hj1
    conv => whnf
    refine Nm.mk ⟨t109, et109, ?_⟩
    conv => whnf
    refine Gate.go ?_
    conv => whnf
    refine Nm.mk ⟨[U t96_0, U t96_1, J t109, .lit (.bool false)], rfl, ?_⟩
    obtain ⟨⟨t111_0, t111_1⟩, et111, hj3⟩ := bind_elim hj2
    conv => whnf
    refine Gate.go ?_
    conv => whnf
    refine CallN.by (v := .tup [J t111_0, J t111_1]) (Flt.shape.round_ok et111) rfl rfl ?_
    have ehj3_0 := Option.some.inj hj3
    subst ehj3_0
    conv => whnf
    exact Returns.pure (r := .tup [J t111_0, J t111_1, J 0]) rfl rfl rfl rfl ⟨rfl, rfl⟩
  have h3 := bif_t h2
  have eh3_0 := Option.some.inj h3
  subst eh3_0
  conv => whnf
  exact Returns.pure (r := .tup [J 0, J 0, J 2]) rfl rfl rfl rfl ⟨rfl, rfl⟩

noncomputable def Flt.number.high (x0 : float.number) : Option float.number :=
  Option.bind (Bits.LeadingZeros64 x0.m) fun t6 =>
  chk (0 ≤ t6) <|
  letk (IntKind.u64.wrap (x0.m * 2 ^ (min t6.toNat (IntKind.u64).bits))) fun t10 =>
  letk (IntKind.i64.wrap (x0.e - t6)) fun t15 =>
  some (⟨x0.class_, x0.sign, t10, t15⟩ : float.number)

theorem Flt.number.high_ok {x0 r : float.number} (h0 : Flt.number.high x0 = some r) : Gives Tryz.prog 177 [float.number.enc x0] (float.number.enc r) := by
  unfold Flt.number.high at h0
  refine ACalls.of_swp Tryz.func177 rfl (by decide) rfl (st0 := ⟨18, [(0, float.number.enc x0)], []⟩) rfl (bwp_ok (C := []) ?_)
  conv => whnf
  refine Nm.mk ⟨[J x0.class_, J x0.sign, U x0.m, J x0.e], rfl, ?_⟩
  conv => whnf
  refine Nm.mk ⟨[J 0, J 0, U 0, J 0], rfl, ?_⟩
  obtain ⟨t6, et6, h1⟩ := bind_elim h0
  conv => whnf
  refine Gate.go ?_
  conv => whnf
  refine CallN.by (v := J t6) (Bits.LeadingZeros64_ok et6) rfl rfl ?_
  obtain ⟨ch2, h2⟩ := chk_elim h1
  obtain ⟨t10, et10, h3⟩ := letk_elim h2
  conv => whnf
  refine Side.mk ch2 ?_
  conv => whnf
  refine Nm.mk ⟨t10, et10, ?_⟩
  conv => whnf
  refine Nm.mk ⟨[J x0.class_, J x0.sign, U t10, J x0.e], rfl, ?_⟩
  obtain ⟨t15, et15, h4⟩ := letk_elim h3
  conv => whnf
  refine Nm.mk ⟨t15, et15, ?_⟩
  conv => whnf
  refine Nm.mk ⟨[J x0.class_, J x0.sign, U t10, J t15], rfl, ?_⟩
  conv => whnf
  refine Nm.mk ⟨[J x0.class_, J x0.sign, U t10, J t15], rfl, ?_⟩
  have eh4_0 := Option.some.inj h4
  subst eh4_0
  conv => whnf
  exact Returns.pure (r := float.number.enc ((⟨x0.class_, x0.sign, t10, t15⟩ : float.number))) rfl rfl rfl rfl ⟨rfl, rfl⟩

noncomputable def Bits.Div64.j3 (t36 t39 t58 q115 t93 q018 : Int) : Option (Int × Int) :=
  letk (IntKind.u64.wrap (q115 * (4294967296 : Int))) fun t122 =>
  letk (IntKind.u64.wrap (t122 + q018)) fun t124 =>
  letk (IntKind.u64.wrap (t93 * (4294967296 : Int))) fun t126 =>
  letk (IntKind.u64.wrap (t126 + t58)) fun t128 =>
  letk (IntKind.u64.wrap (q018 * t39)) fun t131 =>
  letk (IntKind.u64.wrap (t128 - t131)) fun t132 =>
  chk (0 ≤ t36) <|
  letk ((IntKind.u64, t132.fdiv (2 ^ (min t36.toNat (IntKind.u64).bits))).2) fun t134 =>
  some (t124, t134)

noncomputable def Bits.Div64.j4 (t36 t39 t41 t43 t58 q115 t93 rhat16 q018_1 : Int) : Option ((Int × Int) ⊕ (Int × Int)) :=
  letk (IntKind.u64.wrap (q018_1 - (1 : Int))) fun t115 =>
  letk (IntKind.u64.wrap (rhat16 + t41)) fun t118 =>
  letk (decide (t118 ≥ (4294967296 : Int))) fun t120 =>
  bif t120 then
    (Bits.Div64.j3 t36 t39 t58 q115 t93 t115).map .inr
  else
    some (.inl (t118, t115))

noncomputable def Bits.Div64.s0 (t36 t39 t41 t43 t58 q115 t93 rhat16 q018_1 : Int) : Option ((Int × Int) ⊕ (Int × Int)) :=
  letk (decide (q018_1 ≥ (4294967296 : Int))) fun t103 =>
  bif t103 then
    Bits.Div64.j4 t36 t39 t41 t43 t58 q115 t93 rhat16 q018_1
  else
    letk (IntKind.u64.wrap (q018_1 * t43)) fun t107 =>
    letk (IntKind.u64.wrap ((4294967296 : Int) * rhat16)) fun t109 =>
    letk (IntKind.u64.wrap (t109 + t58)) fun t111 =>
    letk (decide (t107 > t111)) fun t112 =>
    bif t112 then
      Bits.Div64.j4 t36 t39 t41 t43 t58 q115 t93 rhat16 q018_1
    else
      (Bits.Div64.j3 t36 t39 t58 q115 t93 q018_1).map .inr

noncomputable def Bits.Div64.l0 (t36 t39 t41 t43 t58 q115 t93 rhat16 q018_1 : Int) : Option (Int × Int) := loopO (fun v : Int × Int => Bits.Div64.s0 t36 t39 t41 t43 t58 q115 t93 v.1 v.2) (rhat16, q018_1)
noncomputable def Bits.Div64.j2 (t36 t39 t41 t43 t51 t56 t58 q115 : Int) : Option (Int × Int) :=
  letk (IntKind.u64.wrap (t51 * (4294967296 : Int))) fun t87 =>
  letk (IntKind.u64.wrap (t87 + t56)) fun t89 =>
  letk (IntKind.u64.wrap (q115 * t39)) fun t92 =>
  letk (IntKind.u64.wrap (t89 - t92)) fun t93 =>
  chk (t41 ≠ 0) <|
  letk (IntKind.u64.wrap (t93.tdiv t41)) fun t96 =>
  letk (IntKind.u64.wrap (t96 * t41)) fun t100 =>
  letk (IntKind.u64.wrap (t93 - t100)) fun t101 =>
  Bits.Div64.l0 t36 t39 t41 t43 t58 q115 t93 t101 t96

noncomputable def Bits.Div64.j5 (t36 t39 t41 t43 t51 t56 t58 q115_1 rhat16_1 : Int) : Option ((Int × Int) ⊕ (Int × Int)) :=
  letk (IntKind.u64.wrap (q115_1 - (1 : Int))) fun t80 =>
  letk (IntKind.u64.wrap (rhat16_1 + t41)) fun t83 =>
  letk (decide (t83 ≥ (4294967296 : Int))) fun t85 =>
  bif t85 then
    (Bits.Div64.j2 t36 t39 t41 t43 t51 t56 t58 t80).map .inr
  else
    some (.inl (t80, t83))

noncomputable def Bits.Div64.s1 (t36 t39 t41 t43 t51 t56 t58 q115_1 rhat16_1 : Int) : Option ((Int × Int) ⊕ (Int × Int)) :=
  letk (decide (q115_1 ≥ (4294967296 : Int))) fun t68 =>
  bif t68 then
    Bits.Div64.j5 t36 t39 t41 t43 t51 t56 t58 q115_1 rhat16_1
  else
    letk (IntKind.u64.wrap (q115_1 * t43)) fun t72 =>
    letk (IntKind.u64.wrap ((4294967296 : Int) * rhat16_1)) fun t74 =>
    letk (IntKind.u64.wrap (t74 + t56)) fun t76 =>
    letk (decide (t72 > t76)) fun t77 =>
    bif t77 then
      Bits.Div64.j5 t36 t39 t41 t43 t51 t56 t58 q115_1 rhat16_1
    else
      (Bits.Div64.j2 t36 t39 t41 t43 t51 t56 t58 q115_1).map .inr

noncomputable def Bits.Div64.l1 (t36 t39 t41 t43 t51 t56 t58 q115_1 rhat16_1 : Int) : Option (Int × Int) := loopO (fun v : Int × Int => Bits.Div64.s1 t36 t39 t41 t43 t51 t56 t58 v.1 v.2) (q115_1, rhat16_1)
noncomputable def Bits.Div64.j1 (hi0 lo1 y2 : Int) : Option (Int × Int) :=
  letk (hi0 == (0 : Int)) fun t27 =>
  bif t27 then
    chk (y2 ≠ 0) <|
    letk (IntKind.u64.wrap (lo1.tdiv y2)) fun t30 =>
    chk (y2 ≠ 0) <|
    letk (lo1.tmod y2) fun t33 =>
    some (t30, t33)
  else
    Option.bind (Bits.LeadingZeros64 y2) fun t35 =>
    letk (IntKind.u64.wrap t35) fun t36 =>
    chk (0 ≤ t36) <|
    letk (IntKind.u64.wrap (y2 * 2 ^ (min t36.toNat (IntKind.u64).bits))) fun t39 =>
    chk (0 ≤ (32 : Int)) <|
    letk ((IntKind.u64, t39.fdiv (2 ^ (min (32 : Int).toNat (IntKind.u64).bits))).2) fun t41 =>
    letk (IntKind.u64.wrap (BitVec.ofInt (IntKind.u64).bits t39 &&& BitVec.ofInt (IntKind.u64).bits (4294967295 : Int)).toNat) fun t43 =>
    chk (0 ≤ t36) <|
    letk (IntKind.u64.wrap (hi0 * 2 ^ (min t36.toNat (IntKind.u64).bits))) fun t46 =>
    letk (IntKind.u64.wrap ((64 : Int) - t36)) fun t49 =>
    chk (0 ≤ t49) <|
    letk ((IntKind.u64, lo1.fdiv (2 ^ (min t49.toNat (IntKind.u64).bits))).2) fun t50 =>
    letk (IntKind.u64.wrap (BitVec.ofInt (IntKind.u64).bits t46 ||| BitVec.ofInt (IntKind.u64).bits t50).toNat) fun t51 =>
    chk (0 ≤ t36) <|
    letk (IntKind.u64.wrap (lo1 * 2 ^ (min t36.toNat (IntKind.u64).bits))) fun t54 =>
    chk (0 ≤ (32 : Int)) <|
    letk ((IntKind.u64, t54.fdiv (2 ^ (min (32 : Int).toNat (IntKind.u64).bits))).2) fun t56 =>
    letk (IntKind.u64.wrap (BitVec.ofInt (IntKind.u64).bits t54 &&& BitVec.ofInt (IntKind.u64).bits (4294967295 : Int)).toNat) fun t58 =>
    chk (t41 ≠ 0) <|
    letk (IntKind.u64.wrap (t51.tdiv t41)) fun t61 =>
    letk (IntKind.u64.wrap (t61 * t41)) fun t65 =>
    letk (IntKind.u64.wrap (t51 - t65)) fun t66 =>
    Bits.Div64.l1 t36 t39 t41 t43 t51 t56 t58 t61 t66

noncomputable def Bits.Div64.j0 (hi0 lo1 y2 : Int) : Option (Int × Int) :=
  letk (decide (y2 ≤ hi0)) fun t24 =>
  bif t24 then
    none
  else
    Bits.Div64.j1 hi0 lo1 y2

noncomputable def Bits.Div64 (hi0 lo1 y2 : Int) : Option (Int × Int) :=
  letk (y2 == (0 : Int)) fun t20 =>
  bif t20 then
    none
  else
    Bits.Div64.j0 hi0 lo1 y2

theorem Bits.Div64_ok {hi0 lo1 y2 : Int} {r : Int × Int} (h0 : Bits.Div64 hi0 lo1 y2 = some r) : Gives Tryz.prog 194 [U hi0, U lo1, U y2] (.tup [U r.1, U r.2]) := by
  unfold Bits.Div64 at h0
  refine ACalls.of_swp Tryz.func194 rfl (by decide) rfl (st0 := ⟨135, [(0, U hi0), (1, U lo1), (2, U y2)], []⟩) rfl (bwp_ok (C := [(0, 3), (0, 5), (0, 21), (0, 28), (1, 3), (1, 1)]) ?_)
  conv => whnf
  refine CutN.of (fun s => Bits.Div64.j0 hi0 lo1 y2 = some r ∧ s = (⟨135, [(0, U hi0), (1, U lo1), (2, U y2)], []⟩ : St)) ?_ ?_
  · obtain ⟨t20, et20, h1⟩ := letk_elim h0
    conv => whnf
    refine Nm.mk ⟨t20, et20, ?_⟩
    rcases t20 with _ | _
    · have h2 := bif_f h1
      exact BackS.by ⟨h2, rfl⟩ (Sees.e ⟨.s, .s, .s, trivial⟩)
    have h2 := bif_t h1
    cases h2
  rintro s ⟨hj0, rfl⟩
  unfold Bits.Div64.j0 at hj0
  conv => whnf
  refine CutN.of (fun s => Bits.Div64.j1 hi0 lo1 y2 = some r ∧ s = (⟨135, [(0, U hi0), (1, U lo1), (2, U y2)], []⟩ : St)) ?_ ?_
  · obtain ⟨t24, et24, hj1⟩ := letk_elim hj0
    conv => whnf
    refine Nm.mk ⟨t24, et24, ?_⟩
    rcases t24 with _ | _
    · have hj2 := bif_f hj1
      exact BackS.by ⟨hj2, rfl⟩ (Sees.e ⟨.s, .s, .s, trivial⟩)
    have hj2 := bif_t hj1
    cases hj2
  rintro s ⟨hj0, rfl⟩
  unfold Bits.Div64.j1 at hj0
  obtain ⟨t27, et27, hj1⟩ := letk_elim hj0
  conv => whnf
  refine Nm.mk ⟨t27, et27, ?_⟩
  rcases t27 with _ | _
  · have hj2 := bif_f hj1
    obtain ⟨t35, et35, hj3⟩ := bind_elim hj2
    conv => whnf
    refine Gate.go ?_
    conv => whnf
    refine CallN.by (v := J t35) (Bits.LeadingZeros64_ok et35) rfl rfl ?_
    obtain ⟨t36, et36, hj4⟩ := letk_elim hj3
    conv => whnf
    refine Nm.mk ⟨t36, et36, ?_⟩
    obtain ⟨chj5, hj5⟩ := chk_elim hj4
    obtain ⟨t39, et39, hj6⟩ := letk_elim hj5
    conv => whnf
    refine Side.mk chj5 ?_
    conv => whnf
    refine Nm.mk ⟨t39, et39, ?_⟩
    obtain ⟨chj7, hj7⟩ := chk_elim hj6
    obtain ⟨t41, et41, hj8⟩ := letk_elim hj7
    conv => whnf
    refine Side.mk chj7 ?_
    conv => whnf
    refine Nm.mk ⟨t41, et41, ?_⟩
    obtain ⟨t43, et43, hj9⟩ := letk_elim hj8
    conv => whnf
    refine Nm.mk ⟨t43, et43, ?_⟩
    obtain ⟨chj10, hj10⟩ := chk_elim hj9
    obtain ⟨t46, et46, hj11⟩ := letk_elim hj10
    conv => whnf
    refine Side.mk chj10 ?_
    conv => whnf
    refine Nm.mk ⟨t46, et46, ?_⟩
    obtain ⟨t49, et49, hj12⟩ := letk_elim hj11
    conv => whnf
    refine Nm.mk ⟨t49, et49, ?_⟩
    obtain ⟨chj13, hj13⟩ := chk_elim hj12
    obtain ⟨t50, et50, hj14⟩ := letk_elim hj13
    conv => whnf
    refine Side.mk chj13 ?_
    conv => whnf
    refine Nm.mk ⟨t50, et50, ?_⟩
    obtain ⟨t51, et51, hj15⟩ := letk_elim hj14
    conv => whnf
    refine Nm.mk ⟨t51, et51, ?_⟩
    obtain ⟨chj16, hj16⟩ := chk_elim hj15
    obtain ⟨t54, et54, hj17⟩ := letk_elim hj16
    conv => whnf
    refine Side.mk chj16 ?_
    conv => whnf
    refine Nm.mk ⟨t54, et54, ?_⟩
    obtain ⟨chj18, hj18⟩ := chk_elim hj17
    obtain ⟨t56, et56, hj19⟩ := letk_elim hj18
    conv => whnf
    refine Side.mk chj18 ?_
    conv => whnf
    refine Nm.mk ⟨t56, et56, ?_⟩
    obtain ⟨t58, et58, hj20⟩ := letk_elim hj19
    conv => whnf
    refine Nm.mk ⟨t58, et58, ?_⟩
    obtain ⟨chj21, hj21⟩ := chk_elim hj20
    obtain ⟨t61, et61, hj22⟩ := letk_elim hj21
    conv => whnf
    refine Side.mk chj21 ?_
    conv => whnf
    refine Nm.mk ⟨t61, et61, ?_⟩
    obtain ⟨t65, et65, hj23⟩ := letk_elim hj22
    conv => whnf
    refine Nm.mk ⟨t65, et65, ?_⟩
    obtain ⟨t66, et66, hj24⟩ := letk_elim hj23
    conv => whnf
    refine Nm.mk ⟨t66, et66, ?_⟩
    conv => whnf
    refine CutN.of (fun s => ∃ (q115 : Int), Bits.Div64.j2 t36 t39 t41 t43 t51 t56 t58 q115 = some r ∧ s = (⟨135, [(2, U t39), (8, U t36), (9, U t41), (10, U t43), (11, U t51), (13, U t56), (14, U t58), (15, U q115)], []⟩ : St)) ?_ ?_
    · conv => whnf
      unfold Bits.Div64.l1 at hj24
      refine LoopB.of (σ := Int × Int) (ρ := Int × Int) (fun v : Int × Int => Bits.Div64.s1 t36 t39 t41 t43 t51 t56 t58 v.1 v.2) (fun v => (⟨135, [(2, U t39), (8, U t36), (9, U t41), (10, U t43), (11, U t51), (13, U t56), (14, U t58), (15, U v.1), (16, U v.2)], []⟩ : St)) (t61, t66) hj24 (BackS.by rfl (Sees.e ⟨.s, .s, .s, .s, .s, .s, .s, .s, .s, trivial⟩)) ?_
      rintro K1 ⟨q115_1, rhat16_1⟩ x1 hs1_0 hl1 hr1
      replace hs1_0 : Bits.Div64.s1 t36 t39 t41 t43 t51 t56 t58 q115_1 rhat16_1 = some x1 := hs1_0
      unfold Bits.Div64.s1 at hs1_0
      change bwp _ _ _ _ _ (⟨135, [(2, U t39), (8, U t36), (9, U t41), (10, U t43), (11, U t51), (13, U t56), (14, U t58), (15, U q115_1), (16, U rhat16_1)], []⟩ : St)
      conv => whnf
      refine CutN.of (fun s => Bits.Div64.j5 t36 t39 t41 t43 t51 t56 t58 q115_1 rhat16_1 = some x1 ∧ s = (⟨135, [(2, U t39), (8, U t36), (9, U t41), (10, U t43), (11, U t51), (13, U t56), (14, U t58), (15, U q115_1), (16, U rhat16_1)], []⟩ : St)) ?_ ?_
      · obtain ⟨t68, et68, hs1_1⟩ := letk_elim hs1_0
        conv => whnf
        refine Nm.mk ⟨t68, et68, ?_⟩
        rcases t68 with _ | _
        · have hs1_2 := bif_f hs1_1
          obtain ⟨t72, et72, hs1_3⟩ := letk_elim hs1_2
          conv => whnf
          refine Nm.mk ⟨t72, et72, ?_⟩
          obtain ⟨t74, et74, hs1_4⟩ := letk_elim hs1_3
          conv => whnf
          refine Nm.mk ⟨t74, et74, ?_⟩
          obtain ⟨t76, et76, hs1_5⟩ := letk_elim hs1_4
          conv => whnf
          refine Nm.mk ⟨t76, et76, ?_⟩
          obtain ⟨t77, et77, hs1_6⟩ := letk_elim hs1_5
          conv => whnf
          refine Nm.mk ⟨t77, et77, ?_⟩
          rcases t77 with _ | _
          · have hs1_7 := bif_f hs1_6
            obtain ⟨yhs1_7_0, hs1_7u, ehs1_7_0⟩ := map_elim hs1_7
            have ehs1_7_0 := (hr1 _ ehs1_7_0.symm).symm
            subst ehs1_7_0
            exact BackS.by ⟨_, hs1_7u, rfl⟩ (Sees.e ⟨.s, .s, .s, .s, .s, .s, .s, .s, trivial⟩)
          have hs1_7 := bif_t hs1_6
          exact BackS.by ⟨hs1_7, rfl⟩ (Sees.e ⟨.s, .s, .s, .s, .s, .s, .s, .s, .s, trivial⟩)
        have hs1_2 := bif_t hs1_1
        exact BackS.by ⟨hs1_2, rfl⟩ (Sees.e ⟨.s, .s, .s, .s, .s, .s, .s, .s, .s, trivial⟩)
      rintro s ⟨hj0, rfl⟩
      unfold Bits.Div64.j5 at hj0
      obtain ⟨t80, et80, hj1⟩ := letk_elim hj0
      conv => whnf
      refine Nm.mk ⟨t80, et80, ?_⟩
      obtain ⟨t83, et83, hj2⟩ := letk_elim hj1
      conv => whnf
      refine Nm.mk ⟨t83, et83, ?_⟩
      obtain ⟨t85, et85, hj3⟩ := letk_elim hj2
      conv => whnf
      refine Nm.mk ⟨t85, et85, ?_⟩
      rcases t85 with _ | _
      · have hj4 := bif_f hj3
        exact BackS.by ⟨_, hl1 _ (Option.some.inj hj4).symm, rfl⟩ (Sees.e ⟨.s, .s, .s, .s, .s, .s, .s, .s, .s, trivial⟩)
      have hj4 := bif_t hj3
      obtain ⟨yhj4_0, hj4u, ehj4_0⟩ := map_elim hj4
      have ehj4_0 := (hr1 _ ehj4_0.symm).symm
      subst ehj4_0
      exact BackS.by ⟨_, hj4u, rfl⟩ (Sees.e ⟨.s, .s, .s, .s, .s, .s, .s, .s, trivial⟩)
    rintro s ⟨q115, hj0, rfl⟩
    unfold Bits.Div64.j2 at hj0
    obtain ⟨t87, et87, hj1⟩ := letk_elim hj0
    conv => whnf
    refine Nm.mk ⟨t87, et87, ?_⟩
    obtain ⟨t89, et89, hj2⟩ := letk_elim hj1
    conv => whnf
    refine Nm.mk ⟨t89, et89, ?_⟩
    obtain ⟨t92, et92, hj3⟩ := letk_elim hj2
    conv => whnf
    refine Nm.mk ⟨t92, et92, ?_⟩
    obtain ⟨t93, et93, hj4⟩ := letk_elim hj3
    conv => whnf
    refine Nm.mk ⟨t93, et93, ?_⟩
    obtain ⟨chj5, hj5⟩ := chk_elim hj4
    obtain ⟨t96, et96, hj6⟩ := letk_elim hj5
    conv => whnf
    refine Side.mk chj5 ?_
    conv => whnf
    refine Nm.mk ⟨t96, et96, ?_⟩
    obtain ⟨t100, et100, hj7⟩ := letk_elim hj6
    conv => whnf
    refine Nm.mk ⟨t100, et100, ?_⟩
    obtain ⟨t101, et101, hj8⟩ := letk_elim hj7
    conv => whnf
    refine Nm.mk ⟨t101, et101, ?_⟩
    conv => whnf
    refine CutN.of (fun s => ∃ (q018 : Int), Bits.Div64.j3 t36 t39 t58 q115 t93 q018 = some r ∧ s = (⟨135, [(2, U t39), (8, U t36), (14, U t58), (15, U q115), (17, U t93), (18, U q018)], []⟩ : St)) ?_ ?_
    · conv => whnf
      unfold Bits.Div64.l0 at hj8
      refine LoopB.of (σ := Int × Int) (ρ := Int × Int) (fun v : Int × Int => Bits.Div64.s0 t36 t39 t41 t43 t58 q115 t93 v.1 v.2) (fun v => (⟨135, [(2, U t39), (8, U t36), (9, U t41), (10, U t43), (14, U t58), (15, U q115), (16, U v.1), (17, U t93), (18, U v.2)], []⟩ : St)) (t101, t96) hj8 (BackS.by rfl (Sees.e ⟨.s, .s, .s, .s, .s, .s, .s, .s, .s, trivial⟩)) ?_
      rintro K1 ⟨rhat16, q018_1⟩ x1 hs0_0 hl1 hr1
      replace hs0_0 : Bits.Div64.s0 t36 t39 t41 t43 t58 q115 t93 rhat16 q018_1 = some x1 := hs0_0
      unfold Bits.Div64.s0 at hs0_0
      change bwp _ _ _ _ _ (⟨135, [(2, U t39), (8, U t36), (9, U t41), (10, U t43), (14, U t58), (15, U q115), (16, U rhat16), (17, U t93), (18, U q018_1)], []⟩ : St)
      conv => whnf
      refine CutN.of (fun s => Bits.Div64.j4 t36 t39 t41 t43 t58 q115 t93 rhat16 q018_1 = some x1 ∧ s = (⟨135, [(2, U t39), (8, U t36), (9, U t41), (10, U t43), (14, U t58), (15, U q115), (16, U rhat16), (17, U t93), (18, U q018_1)], []⟩ : St)) ?_ ?_
      · obtain ⟨t103, et103, hs0_1⟩ := letk_elim hs0_0
        conv => whnf
        refine Nm.mk ⟨t103, et103, ?_⟩
        rcases t103 with _ | _
        · have hs0_2 := bif_f hs0_1
          obtain ⟨t107, et107, hs0_3⟩ := letk_elim hs0_2
          conv => whnf
          refine Nm.mk ⟨t107, et107, ?_⟩
          obtain ⟨t109, et109, hs0_4⟩ := letk_elim hs0_3
          conv => whnf
          refine Nm.mk ⟨t109, et109, ?_⟩
          obtain ⟨t111, et111, hs0_5⟩ := letk_elim hs0_4
          conv => whnf
          refine Nm.mk ⟨t111, et111, ?_⟩
          obtain ⟨t112, et112, hs0_6⟩ := letk_elim hs0_5
          conv => whnf
          refine Nm.mk ⟨t112, et112, ?_⟩
          rcases t112 with _ | _
          · have hs0_7 := bif_f hs0_6
            obtain ⟨yhs0_7_0, hs0_7u, ehs0_7_0⟩ := map_elim hs0_7
            have ehs0_7_0 := (hr1 _ ehs0_7_0.symm).symm
            subst ehs0_7_0
            exact BackS.by ⟨_, hs0_7u, rfl⟩ (Sees.e ⟨.s, .s, .s, .s, .s, .s, trivial⟩)
          have hs0_7 := bif_t hs0_6
          exact BackS.by ⟨hs0_7, rfl⟩ (Sees.e ⟨.s, .s, .s, .s, .s, .s, .s, .s, .s, trivial⟩)
        have hs0_2 := bif_t hs0_1
        exact BackS.by ⟨hs0_2, rfl⟩ (Sees.e ⟨.s, .s, .s, .s, .s, .s, .s, .s, .s, trivial⟩)
      rintro s ⟨hj0, rfl⟩
      unfold Bits.Div64.j4 at hj0
      obtain ⟨t115, et115, hj1⟩ := letk_elim hj0
      conv => whnf
      refine Nm.mk ⟨t115, et115, ?_⟩
      obtain ⟨t118, et118, hj2⟩ := letk_elim hj1
      conv => whnf
      refine Nm.mk ⟨t118, et118, ?_⟩
      obtain ⟨t120, et120, hj3⟩ := letk_elim hj2
      conv => whnf
      refine Nm.mk ⟨t120, et120, ?_⟩
      rcases t120 with _ | _
      · have hj4 := bif_f hj3
        exact BackS.by ⟨_, hl1 _ (Option.some.inj hj4).symm, rfl⟩ (Sees.e ⟨.s, .s, .s, .s, .s, .s, .s, .s, .s, trivial⟩)
      have hj4 := bif_t hj3
      obtain ⟨yhj4_0, hj4u, ehj4_0⟩ := map_elim hj4
      have ehj4_0 := (hr1 _ ehj4_0.symm).symm
      subst ehj4_0
      exact BackS.by ⟨_, hj4u, rfl⟩ (Sees.e ⟨.s, .s, .s, .s, .s, .s, trivial⟩)
    rintro s ⟨q018, hj0, rfl⟩
    unfold Bits.Div64.j3 at hj0
    obtain ⟨t122, et122, hj1⟩ := letk_elim hj0
    conv => whnf
    refine Nm.mk ⟨t122, et122, ?_⟩
    obtain ⟨t124, et124, hj2⟩ := letk_elim hj1
    conv => whnf
    refine Nm.mk ⟨t124, et124, ?_⟩
    obtain ⟨t126, et126, hj3⟩ := letk_elim hj2
    conv => whnf
    refine Nm.mk ⟨t126, et126, ?_⟩
    obtain ⟨t128, et128, hj4⟩ := letk_elim hj3
    conv => whnf
    refine Nm.mk ⟨t128, et128, ?_⟩
    obtain ⟨t131, et131, hj5⟩ := letk_elim hj4
    conv => whnf
    refine Nm.mk ⟨t131, et131, ?_⟩
    obtain ⟨t132, et132, hj6⟩ := letk_elim hj5
    conv => whnf
    refine Nm.mk ⟨t132, et132, ?_⟩
    obtain ⟨chj7, hj7⟩ := chk_elim hj6
    obtain ⟨t134, et134, hj8⟩ := letk_elim hj7
    conv => whnf
    refine Side.mk chj7 ?_
    conv => whnf
    refine Nm.mk ⟨t134, et134, ?_⟩
    have ehj8_0 := Option.some.inj hj8
    subst ehj8_0
    conv => whnf
    exact Returns.pure (r := .tup [U t124, U t134]) rfl rfl rfl rfl ⟨rfl, rfl⟩
  have hj2 := bif_t hj1
  conv => whnf
  refine DrawB.ofG [none, none, none, none, none, none, none, none] Tryz_mixed (by kernel_rfl) (by kernel_rfl) ?_
  conv => whnf
  refine DNodeB.of (U lo1) ?_ ?_
  · conv => whnf
    rfl
  conv => whnf
  refine DNodeB.of (U y2) ?_ ?_
  · conv => whnf
    rfl
  obtain ⟨chj3, hj3⟩ := chk_elim hj2
  obtain ⟨t30, et30, hj4⟩ := letk_elim hj3
  conv => whnf
  refine DNodeB.of (U t30) ?_ ?_
  · conv => whnf
    refine Side.mk chj3 ?_
    conv => whnf
    refine Nm.mk ⟨t30, et30, ?_⟩
    conv => whnf
    rfl
  conv => whnf
  refine DNodeB.of (U lo1) ?_ ?_
  · conv => whnf
    rfl
  conv => whnf
  refine DNodeB.of (U y2) ?_ ?_
  · conv => whnf
    rfl
  obtain ⟨chj5, hj5⟩ := chk_elim hj4
  obtain ⟨t33, et33, hj6⟩ := letk_elim hj5
  conv => whnf
  refine DNodeB.of (U t33) ?_ ?_
  · conv => whnf
    refine Side.mk chj5 ?_
    conv => whnf
    refine Nm.mk ⟨t33, et33, ?_⟩
    conv => whnf
    rfl
  conv => whnf
  refine DNodeB.of (U t30) ?_ ?_
  · conv => whnf
    rfl
  conv => whnf
  refine DNodeB.of (U t33) ?_ ?_
  · conv => whnf
    rfl
  have ehj6_0 := Option.some.inj hj6
  subst ehj6_0
  conv => whnf
  exact Returns.pure (r := .tup [U t30, U t33]) rfl rfl rfl rfl ⟨rfl, rfl⟩

noncomputable def Flt.Div.j0 (mode1 t34 s11_0 s11_1 x12_0 x12_1 x12_2 x12_3 y13_0 y13_1 y13_2 y13_3 : Int) : Option (Int × Int × Int) :=
  Option.bind (Flt.number.high (⟨x12_0, x12_1, x12_2, x12_3⟩ : float.number)) fun t86 =>
  Option.bind (Flt.number.high (⟨y13_0, y13_1, y13_2, y13_3⟩ : float.number)) fun t88 =>
  chk (0 ≤ (1 : Int)) <|
  letk ((IntKind.u64, t86.m.fdiv (2 ^ (min (1 : Int).toNat (IntKind.u64).bits))).2) fun t92 =>
  chk (0 ≤ (63 : Int)) <|
  letk (IntKind.u64.wrap (t86.m * 2 ^ (min (63 : Int).toNat (IntKind.u64).bits))) fun t95 =>
  Option.bind (Bits.Div64 t92 t95 t88.m) fun (t98_0, t98_1) =>
  letk (IntKind.i64.wrap (t86.e - t88.e)) fun t110 =>
  letk (IntKind.i64.wrap (t110 - (63 : Int))) fun t111 =>
  letk (t98_1 != (0 : Int)) fun t113 =>
  Option.bind (Flt.shape.round (⟨s11_0, s11_1⟩ : float.shape) mode1 t34 (⟨0, t98_0, t111, t113⟩ : float.exact)) fun (t115_0, t115_1) =>
  some (t115_0, t115_1, 0)

noncomputable def Flt.Div.j3 (mode1 : Int) (t23_0 : float.shape) (t23_1 t23_2 : float.number) (t34 : Int) (t66 : Bool) : Option (Int × Int × Int) :=
  bif t66 then
    Option.bind (Flt.shape.zero (⟨t23_0.p, t23_0.w⟩ : float.shape) t34) fun t77 =>
    some (t77, 0, 0)
  else
    letk (t23_2.class_ == (0 : Int)) fun t81 =>
    bif t81 then
      Option.bind (Flt.shape.infinite (⟨t23_0.p, t23_0.w⟩ : float.shape) t34) fun t84 =>
      some (t84, 2, 0)
    else
      Flt.Div.j0 mode1 t34 t23_0.p t23_0.w t23_1.class_ t23_1.sign t23_1.m t23_1.e t23_2.class_ t23_2.sign t23_2.m t23_2.e

noncomputable def Flt.Div.j2 (mode1 : Int) (t23_0 : float.shape) (t23_1 t23_2 : float.number) (t34 : Int) (t46 : Bool) : Option (Int × Int × Int) :=
  bif t46 then
    Option.bind (Flt.shape.quiet (⟨t23_0.p, t23_0.w⟩ : float.shape)) fun t58 =>
    some (t58, 1, 0)
  else
    letk (t23_1.class_ == (2 : Int)) fun t62 =>
    bif t62 then
      Option.bind (Flt.shape.infinite (⟨t23_0.p, t23_0.w⟩ : float.shape) t34) fun t65 =>
      some (t65, 0, 0)
    else
      letk (t23_1.class_ == (0 : Int)) fun t69 =>
      bif t69 then
        Flt.Div.j3 mode1 t23_0 t23_1 t23_2 t34 true
      else
        letk (t23_2.class_ == (2 : Int)) fun t73 =>
        Flt.Div.j3 mode1 t23_0 t23_1 t23_2 t34 t73

noncomputable def Flt.Div.j1 (mode1 : Int) (t23_0 : float.shape) (t23_1 t23_2 : float.number) (t34 : Int) (t35 : Bool) : Option (Int × Int × Int) :=
  bif t35 then
    Option.bind (Flt.shape.quiet (⟨t23_0.p, t23_0.w⟩ : float.shape)) fun t45 =>
    some (t45, 0, 0)
  else
    letk (t23_1.class_ == t23_2.class_) fun t51 =>
    bif t51 then
      letk (t23_1.class_ != (1 : Int)) fun t55 =>
      Flt.Div.j2 mode1 t23_0 t23_1 t23_2 t34 t55
    else
      Flt.Div.j2 mode1 t23_0 t23_1 t23_2 t34 false

noncomputable def Flt.Div (kind0 mode1 a2 b3 : Int) : Option (Int × Int × Int) :=
  Option.bind (Flt.two kind0 mode1 a2 b3) fun (t23_0, t23_1, t23_2, t23_3) =>
  letk (!t23_3) fun t29 =>
  bif t29 then
    some (0, 0, 2)
  else
    letk (IntKind.i64.wrap (BitVec.ofInt (IntKind.i64).bits t23_1.sign ^^^ BitVec.ofInt (IntKind.i64).bits t23_2.sign).toNat) fun t34 =>
    letk (t23_1.class_ == (3 : Int)) fun t38 =>
    bif t38 then
      Flt.Div.j1 mode1 t23_0 t23_1 t23_2 t34 true
    else
      letk (t23_2.class_ == (3 : Int)) fun t42 =>
      Flt.Div.j1 mode1 t23_0 t23_1 t23_2 t34 t42

theorem Flt.Div_ok {kind0 mode1 a2 b3 : Int} {r : Int × Int × Int} (h0 : Flt.Div kind0 mode1 a2 b3 = some r) : Gives Tryz.prog 146 [J kind0, J mode1, J a2, J b3] (.tup [J r.1, J r.2.1, J r.2.2]) := by
  unfold Flt.Div at h0
  refine ACalls.of_swp Tryz.func146 rfl (by decide) rfl (st0 := ⟨120, [(0, J kind0), (1, J mode1), (2, J a2), (3, J b3)], []⟩) rfl (bwp_ok (C := [(0, 15), (45, 13), (56, 17), (76, 25)]) ?_)
  obtain ⟨⟨t23_0, t23_1, t23_2, t23_3⟩, et23, h1⟩ := bind_elim h0
  conv => whnf
  refine Gate.go ?_
  conv => whnf
  refine CallN.by (v := .tup [float.shape.enc t23_0, float.number.enc t23_1, float.number.enc t23_2, .lit (.bool t23_3)]) (Flt.two_ok et23) rfl rfl ?_
  conv => whnf
  refine Nm.mk ⟨[J 0, J 0], rfl, ?_⟩
  conv => whnf
  refine Nm.mk ⟨[J 0, J 0, U 0, J 0], rfl, ?_⟩
  conv => whnf
  refine Nm.mk ⟨[J 0, J 0, U 0, J 0], rfl, ?_⟩
  conv => whnf
  refine Nm.mk ⟨[J t23_0.p, J t23_0.w], rfl, ?_⟩
  conv => whnf
  refine Nm.mk ⟨[J t23_1.class_, J t23_1.sign, U t23_1.m, J t23_1.e], rfl, ?_⟩
  conv => whnf
  refine Nm.mk ⟨[J t23_2.class_, J t23_2.sign, U t23_2.m, J t23_2.e], rfl, ?_⟩
  obtain ⟨t29, et29, h2⟩ := letk_elim h1
  conv => whnf
  refine Nm.mk ⟨t29, et29, ?_⟩
  rcases t29 with _ | _
  · have h3 := bif_f h2
    obtain ⟨t34, et34, h4⟩ := letk_elim h3
    conv => whnf
    refine Nm.mk ⟨t34, et34, ?_⟩
    conv => whnf
    refine CutN.of (fun s => ∃ (s11_0 s11_1 x12_0 x12_1 x12_2 x12_3 y13_0 y13_1 y13_2 y13_3 : Int), Flt.Div.j0 mode1 t34 s11_0 s11_1 x12_0 x12_1 x12_2 x12_3 y13_0 y13_1 y13_2 y13_3 = some r ∧ s = (⟨120, [(1, J mode1), (11, .ptr 0 0), (12, .ptr 1 0), (13, .ptr 2 0), (15, J t34)], [.box [J s11_0, J s11_1], .box [J x12_0, J x12_1, U x12_2, J x12_3], .box [J y13_0, J y13_1, U y13_2, J y13_3]]⟩ : St)) ?_ ?_
    · conv => whnf
      refine CutN.of (fun s => ∃ (t35 : Bool), Flt.Div.j1 mode1 t23_0 t23_1 t23_2 t34 t35 = some r ∧ s = (⟨120, [(1, J mode1), (11, .ptr 0 0), (12, .ptr 1 0), (13, .ptr 2 0), (15, J t34), (35, .lit (.bool t35))], [.box [J t23_0.p, J t23_0.w], .box [J t23_1.class_, J t23_1.sign, U t23_1.m, J t23_1.e], .box [J t23_2.class_, J t23_2.sign, U t23_2.m, J t23_2.e]]⟩ : St)) ?_ ?_
      · obtain ⟨t38, et38, h5⟩ := letk_elim h4
        conv => whnf
        refine Nm.mk ⟨t38, et38, ?_⟩
        rcases t38 with _ | _
        · have h6 := bif_f h5
          obtain ⟨t42, et42, h7⟩ := letk_elim h6
          conv => whnf
          refine Nm.mk ⟨t42, et42, ?_⟩
          exact BackS.by ⟨_, h7, rfl⟩ (Sees.of (Weak.objs (keep := [0, 1, 2]) (frz := []) (m := 0) rfl (by decide) rfl rfl ⟨⟨_, rfl, WO.boxs ⟨.s, .s, trivial⟩⟩, ⟨⟨_, rfl, WO.boxs ⟨.s, .s, .s, .s, trivial⟩⟩, ⟨⟨_, rfl, WO.boxs ⟨.s, .s, .s, .s, trivial⟩⟩, ⟨rfl, fun _ h => by cases h⟩⟩⟩⟩ ⟨.s, (.ptr _ _ 0 rfl), (.ptr _ _ 1 rfl), (.ptr _ _ 2 rfl), .s, .s, trivial⟩))
        have h6 := bif_t h5
        exact BackS.by ⟨_, h6, rfl⟩ (Sees.of (Weak.objs (keep := [0, 1, 2]) (frz := []) (m := 0) rfl (by decide) rfl rfl ⟨⟨_, rfl, WO.boxs ⟨.s, .s, trivial⟩⟩, ⟨⟨_, rfl, WO.boxs ⟨.s, .s, .s, .s, trivial⟩⟩, ⟨⟨_, rfl, WO.boxs ⟨.s, .s, .s, .s, trivial⟩⟩, ⟨rfl, fun _ h => by cases h⟩⟩⟩⟩ ⟨.s, (.ptr _ _ 0 rfl), (.ptr _ _ 1 rfl), (.ptr _ _ 2 rfl), .s, .s, trivial⟩))
      rintro s ⟨t35, hj0, rfl⟩
      unfold Flt.Div.j1 at hj0
      rcases t35 with _ | _
      · have hj1 := bif_f hj0
        conv => whnf
        refine CutN.of (fun s => ∃ (t46 : Bool), Flt.Div.j2 mode1 t23_0 t23_1 t23_2 t34 t46 = some r ∧ s = (⟨120, [(1, J mode1), (11, .ptr 0 0), (12, .ptr 1 0), (13, .ptr 2 0), (15, J t34), (46, .lit (.bool t46))], [.box [J t23_0.p, J t23_0.w], .box [J t23_1.class_, J t23_1.sign, U t23_1.m, J t23_1.e], .box [J t23_2.class_, J t23_2.sign, U t23_2.m, J t23_2.e]]⟩ : St)) ?_ ?_
        · obtain ⟨t51, et51, hj2⟩ := letk_elim hj1
          conv => whnf
          refine Nm.mk ⟨t51, et51, ?_⟩
          rcases t51 with _ | _
          · have hj3 := bif_f hj2
            exact BackS.by ⟨_, hj3, rfl⟩ (Sees.of (Weak.objs (keep := [0, 1, 2]) (frz := []) (m := 0) rfl (by decide) rfl rfl ⟨⟨_, rfl, WO.boxs ⟨.s, .s, trivial⟩⟩, ⟨⟨_, rfl, WO.boxs ⟨.s, .s, .s, .s, trivial⟩⟩, ⟨⟨_, rfl, WO.boxs ⟨.s, .s, .s, .s, trivial⟩⟩, ⟨rfl, fun _ h => by cases h⟩⟩⟩⟩ ⟨.s, (.ptr _ _ 0 rfl), (.ptr _ _ 1 rfl), (.ptr _ _ 2 rfl), .s, .s, trivial⟩))
          have hj3 := bif_t hj2
          obtain ⟨t55, et55, hj4⟩ := letk_elim hj3
          conv => whnf
          refine Nm.mk ⟨t55, et55, ?_⟩
          exact BackS.by ⟨_, hj4, rfl⟩ (Sees.of (Weak.objs (keep := [0, 1, 2]) (frz := []) (m := 0) rfl (by decide) rfl rfl ⟨⟨_, rfl, WO.boxs ⟨.s, .s, trivial⟩⟩, ⟨⟨_, rfl, WO.boxs ⟨.s, .s, .s, .s, trivial⟩⟩, ⟨⟨_, rfl, WO.boxs ⟨.s, .s, .s, .s, trivial⟩⟩, ⟨rfl, fun _ h => by cases h⟩⟩⟩⟩ ⟨.s, (.ptr _ _ 0 rfl), (.ptr _ _ 1 rfl), (.ptr _ _ 2 rfl), .s, .s, trivial⟩))
        rintro s ⟨t46, hj0, rfl⟩
        unfold Flt.Div.j2 at hj0
        rcases t46 with _ | _
        · have hj1 := bif_f hj0
          obtain ⟨t62, et62, hj2⟩ := letk_elim hj1
          conv => whnf
          refine Nm.mk ⟨t62, et62, ?_⟩
          rcases t62 with _ | _
          · have hj3 := bif_f hj2
            conv => whnf
            refine CutN.of (fun s => ∃ (t66 : Bool), Flt.Div.j3 mode1 t23_0 t23_1 t23_2 t34 t66 = some r ∧ s = (⟨120, [(1, J mode1), (11, .ptr 0 0), (12, .ptr 1 0), (13, .ptr 2 0), (15, J t34), (66, .lit (.bool t66))], [.box [J t23_0.p, J t23_0.w], .box [J t23_1.class_, J t23_1.sign, U t23_1.m, J t23_1.e], .box [J t23_2.class_, J t23_2.sign, U t23_2.m, J t23_2.e]]⟩ : St)) ?_ ?_
            · obtain ⟨t69, et69, hj4⟩ := letk_elim hj3
              conv => whnf
              refine Nm.mk ⟨t69, et69, ?_⟩
              rcases t69 with _ | _
              · have hj5 := bif_f hj4
                obtain ⟨t73, et73, hj6⟩ := letk_elim hj5
                conv => whnf
                refine Nm.mk ⟨t73, et73, ?_⟩
                exact BackS.by ⟨_, hj6, rfl⟩ (Sees.of (Weak.objs (keep := [0, 1, 2]) (frz := []) (m := 0) rfl (by decide) rfl rfl ⟨⟨_, rfl, WO.boxs ⟨.s, .s, trivial⟩⟩, ⟨⟨_, rfl, WO.boxs ⟨.s, .s, .s, .s, trivial⟩⟩, ⟨⟨_, rfl, WO.boxs ⟨.s, .s, .s, .s, trivial⟩⟩, ⟨rfl, fun _ h => by cases h⟩⟩⟩⟩ ⟨.s, (.ptr _ _ 0 rfl), (.ptr _ _ 1 rfl), (.ptr _ _ 2 rfl), .s, .s, trivial⟩))
              have hj5 := bif_t hj4
              exact BackS.by ⟨_, hj5, rfl⟩ (Sees.of (Weak.objs (keep := [0, 1, 2]) (frz := []) (m := 0) rfl (by decide) rfl rfl ⟨⟨_, rfl, WO.boxs ⟨.s, .s, trivial⟩⟩, ⟨⟨_, rfl, WO.boxs ⟨.s, .s, .s, .s, trivial⟩⟩, ⟨⟨_, rfl, WO.boxs ⟨.s, .s, .s, .s, trivial⟩⟩, ⟨rfl, fun _ h => by cases h⟩⟩⟩⟩ ⟨.s, (.ptr _ _ 0 rfl), (.ptr _ _ 1 rfl), (.ptr _ _ 2 rfl), .s, .s, trivial⟩))
            rintro s ⟨t66, hj0, rfl⟩
            unfold Flt.Div.j3 at hj0
            rcases t66 with _ | _
            · have hj1 := bif_f hj0
              obtain ⟨t81, et81, hj2⟩ := letk_elim hj1
              conv => whnf
              refine Nm.mk ⟨t81, et81, ?_⟩
              rcases t81 with _ | _
              · have hj3 := bif_f hj2
                exact BackS.by ⟨_, _, _, _, _, _, _, _, _, _, hj3, rfl⟩ (Sees.of (Weak.objs (keep := [0, 1, 2]) (frz := []) (m := 0) rfl (by decide) rfl rfl ⟨⟨_, rfl, WO.boxs ⟨.s, .s, trivial⟩⟩, ⟨⟨_, rfl, WO.boxs ⟨.s, .s, .s, .s, trivial⟩⟩, ⟨⟨_, rfl, WO.boxs ⟨.s, .s, .s, .s, trivial⟩⟩, ⟨rfl, fun _ h => by cases h⟩⟩⟩⟩ ⟨.s, (.ptr _ _ 0 rfl), (.ptr _ _ 1 rfl), (.ptr _ _ 2 rfl), .s, trivial⟩))
              have hj3 := bif_t hj2
              obtain ⟨t84, et84, hj4⟩ := bind_elim hj3
              conv => whnf
              refine Gate.go ?_
              conv => whnf
              refine CallN.by (v := J t84) (Flt.shape.infinite_ok et84) rfl rfl ?_
              have ehj4_0 := Option.some.inj hj4
              subst ehj4_0
              conv => whnf
              exact Returns.pure (r := .tup [J t84, J 2, J 0]) rfl rfl rfl rfl ⟨rfl, rfl⟩
            have hj1 := bif_t hj0
            obtain ⟨t77, et77, hj2⟩ := bind_elim hj1
            conv => whnf
            refine Gate.go ?_
            conv => whnf
            refine CallN.by (v := J t77) (Flt.shape.zero_ok et77) rfl rfl ?_
            have ehj2_0 := Option.some.inj hj2
            subst ehj2_0
            conv => whnf
            exact Returns.pure (r := .tup [J t77, J 0, J 0]) rfl rfl rfl rfl ⟨rfl, rfl⟩
          have hj3 := bif_t hj2
          obtain ⟨t65, et65, hj4⟩ := bind_elim hj3
          conv => whnf
          refine Gate.go ?_
          conv => whnf
          refine CallN.by (v := J t65) (Flt.shape.infinite_ok et65) rfl rfl ?_
          have ehj4_0 := Option.some.inj hj4
          subst ehj4_0
          conv => whnf
          exact Returns.pure (r := .tup [J t65, J 0, J 0]) rfl rfl rfl rfl ⟨rfl, rfl⟩
        have hj1 := bif_t hj0
        obtain ⟨t58, et58, hj2⟩ := bind_elim hj1
        conv => whnf
        refine Gate.go ?_
        conv => whnf
        refine CallN.by (v := J t58) (Flt.shape.quiet_ok et58) rfl rfl ?_
        have ehj2_0 := Option.some.inj hj2
        subst ehj2_0
        conv => whnf
        exact Returns.pure (r := .tup [J t58, J 1, J 0]) rfl rfl rfl rfl ⟨rfl, rfl⟩
      have hj1 := bif_t hj0
      obtain ⟨t45, et45, hj2⟩ := bind_elim hj1
      conv => whnf
      refine Gate.go ?_
      conv => whnf
      refine CallN.by (v := J t45) (Flt.shape.quiet_ok et45) rfl rfl ?_
      have ehj2_0 := Option.some.inj hj2
      subst ehj2_0
      conv => whnf
      exact Returns.pure (r := .tup [J t45, J 0, J 0]) rfl rfl rfl rfl ⟨rfl, rfl⟩
    rintro s ⟨s11_0, s11_1, x12_0, x12_1, x12_2, x12_3, y13_0, y13_1, y13_2, y13_3, hj0, rfl⟩
    unfold Flt.Div.j0 at hj0
    conv => whnf
    refine DrawB.ofFN 0 [.box [J s11_0, J s11_1], .box [J x12_0, J x12_1, U x12_2, J x12_3], .box [J y13_0, J y13_1, U y13_2, J y13_3]] 3 3 [[1], [], [2], [], [1], [2]] [[], [], [], [], [1], [2]] [none, none, none, none, none, none] Tryz_mixed (by kernel_rfl) rfl rfl rfl (by kernel_rfl) ?_
    conv => whnf
    refine FNode.rd (F := [1]) (W := []) (.agg [J x12_0, J x12_1, U x12_2, J x12_3]) ?_ rfl rfl ?_
    · conv => whnf
      rfl
    obtain ⟨t86, et86, hj1⟩ := bind_elim hj0
    conv => whnf
    refine FNode.no (W := []) (float.number.enc t86) ?_ rfl ?_
    · conv => whnf
      refine CallN.by (v := float.number.enc t86) (Flt.number.high_ok et86) rfl rfl ?_
      conv => whnf
      rfl
    conv => whnf
    refine FNode.rd (F := [2]) (W := []) (.agg [J y13_0, J y13_1, U y13_2, J y13_3]) ?_ rfl rfl ?_
    · conv => whnf
      rfl
    obtain ⟨t88, et88, hj2⟩ := bind_elim hj1
    conv => whnf
    refine FNode.no (W := []) (float.number.enc t88) ?_ rfl ?_
    · conv => whnf
      refine CallN.by (v := float.number.enc t88) (Flt.number.high_ok et88) rfl rfl ?_
      conv => whnf
      rfl
    conv => whnf
    refine FNode.pl (F := [1]) (W := [1]) (.undef) [.box [J s11_0, J s11_1], .box [J t86.class_, J t86.sign, U t86.m, J t86.e], .box [J y13_0, J y13_1, U y13_2, J y13_3]] ?_ rfl rfl rfl rfl ?_
    · conv => whnf
      refine Nm.mk ⟨[J t86.class_, J t86.sign, U t86.m, J t86.e], rfl, ?_⟩
      conv => whnf
      rfl
    conv => whnf
    refine FNode.pl (F := [2]) (W := [2]) (.undef) [.box [J s11_0, J s11_1], .box [J t86.class_, J t86.sign, U t86.m, J t86.e], .box [J t88.class_, J t88.sign, U t88.m, J t88.e]] ?_ rfl rfl rfl rfl ?_
    · conv => whnf
      refine Nm.mk ⟨[J t88.class_, J t88.sign, U t88.m, J t88.e], rfl, ?_⟩
      conv => whnf
      rfl
    obtain ⟨chj3, hj3⟩ := chk_elim hj2
    obtain ⟨t92, et92, hj4⟩ := letk_elim hj3
    conv => whnf
    refine Side.mk chj3 ?_
    conv => whnf
    refine Nm.mk ⟨t92, et92, ?_⟩
    obtain ⟨chj5, hj5⟩ := chk_elim hj4
    obtain ⟨t95, et95, hj6⟩ := letk_elim hj5
    conv => whnf
    refine Side.mk chj5 ?_
    conv => whnf
    refine Nm.mk ⟨t95, et95, ?_⟩
    obtain ⟨⟨t98_0, t98_1⟩, et98, hj7⟩ := bind_elim hj6
    conv => whnf
    refine Gate.go ?_
    conv => whnf
    refine CallN.by (v := .tup [U t98_0, U t98_1]) (Bits.Div64_ok et98) rfl rfl ?_
    obtain ⟨t110, et110, hj8⟩ := letk_elim hj7
    conv => whnf
    refine Nm.mk ⟨t110, et110, ?_⟩
    obtain ⟨t111, et111, hj9⟩ := letk_elim hj8
    conv => whnf
    refine Nm.mk ⟨t111, et111, ?_⟩
    obtain ⟨t113, et113, hj10⟩ := letk_elim hj9
    conv => whnf
    refine Nm.mk ⟨t113, et113, ?_⟩
    conv => whnf
    refine Gate.go ?_
    conv => whnf
    refine Nm.mk ⟨[U 0, U t98_0, J t111, .lit (.bool t113)], rfl, ?_⟩
    obtain ⟨⟨t115_0, t115_1⟩, et115, hj11⟩ := bind_elim hj10
    conv => whnf
    refine Gate.go ?_
    conv => whnf
    refine CallN.by (v := .tup [J t115_0, J t115_1]) (Flt.shape.round_ok et115) rfl rfl ?_
    have ehj11_0 := Option.some.inj hj11
    subst ehj11_0
    conv => whnf
    exact Returns.pure (r := .tup [J t115_0, J t115_1, J 0]) rfl rfl rfl rfl ⟨rfl, rfl⟩
  have h3 := bif_t h2
  have eh3_0 := Option.some.inj h3
  subst eh3_0
  conv => whnf
  exact Returns.pure (r := .tup [J 0, J 0, J 2]) rfl rfl rfl rfl ⟨rfl, rfl⟩

noncomputable def Arr.reckon (op0 : ByteArray) (a1 b2 : api.Value) : Option (api.Value × Int) :=
  letk (if b2.Kind > a1.Kind then b2.Kind else a1.Kind) fun t17 =>
  Option.bind (Arr.to t17 (⟨a1.Kind, a1.N⟩ : api.Value)) fun (t21_0, t21_1) =>
  Option.bind (Arr.to t17 (⟨b2.Kind, b2.N⟩ : api.Value)) fun (t27_0, t27_1) =>
  letk (t17 == (1 : Int)) fun t31 =>
  bif t31 then
    letk (op0.toList == (⟨#[43]⟩ : ByteArray).toList) fun t34 =>
    bif t34 then
      letk (IntKind.i64.wrap (t21_0.N + t27_0.N)) fun t39 =>
      Option.bind (Arr.integer t39) fun (t40_0, t40_1) =>
      some ((⟨t40_0.Kind, t40_0.N⟩ : api.Value), t40_1)
    else
      letk (op0.toList == (⟨#[45]⟩ : ByteArray).toList) fun t44 =>
      bif t44 then
        letk (IntKind.i64.wrap (t21_0.N - t27_0.N)) fun t49 =>
        Option.bind (Arr.integer t49) fun (t50_0, t50_1) =>
        some ((⟨t50_0.Kind, t50_0.N⟩ : api.Value), t50_1)
      else
        letk (op0.toList == (⟨#[42]⟩ : ByteArray).toList) fun t54 =>
        bif t54 then
          letk (IntKind.i64.wrap (t21_0.N * t27_0.N)) fun t59 =>
          Option.bind (Arr.integer t59) fun (t60_0, t60_1) =>
          some ((⟨t60_0.Kind, t60_0.N⟩ : api.Value), t60_1)
        else
          letk (t27_0.N == (0 : Int)) fun t65 =>
          bif t65 then
            some ((⟨0, 0⟩ : api.Value), 90)
          else
            chk (t27_0.N ≠ 0) <|
            letk (IntKind.i64.wrap (t21_0.N.tdiv t27_0.N)) fun t71 =>
            Option.bind (Arr.integer t71) fun (t72_0, t72_1) =>
            some ((⟨t72_0.Kind, t72_0.N⟩ : api.Value), t72_1)
  else
    letk (op0.toList == (⟨#[43]⟩ : ByteArray).toList) fun t78 =>
    bif t78 then
      Option.bind (Arr.bytes t17) fun t82_3 =>
      Option.bind (Flt.Add t82_3 0 t21_0.N t27_0.N) fun (t87_5_0, t87_5_1, t87_5_2) =>
      some ((⟨t17, t87_5_0⟩ : api.Value), 0)
    else
      letk (op0.toList == (⟨#[45]⟩ : ByteArray).toList) fun t78_1 =>
      bif t78_1 then
        Option.bind (Arr.bytes t17) fun t82_2 =>
        Option.bind (Flt.Sub t82_2 0 t21_0.N t27_0.N) fun (t87_4_0, t87_4_1, t87_4_2) =>
        some ((⟨t17, t87_4_0⟩ : api.Value), 0)
      else
        letk (op0.toList == (⟨#[42]⟩ : ByteArray).toList) fun t78_2 =>
        bif t78_2 then
          Option.bind (Arr.bytes t17) fun t82_1 =>
          Option.bind (Flt.Mul t82_1 0 t21_0.N t27_0.N) fun (t87_3_0, t87_3_1, t87_3_2) =>
          some ((⟨t17, t87_3_0⟩ : api.Value), 0)
        else
          letk (op0.toList == (⟨#[47]⟩ : ByteArray).toList) fun t78_3 =>
          bif t78_3 then
            Option.bind (Arr.bytes t17) fun t82 =>
            Option.bind (Flt.Div t82 0 t21_0.N t27_0.N) fun (t87_0, t87_1, t87_2) =>
            some ((⟨t17, t87_0⟩ : api.Value), 0)
          else
            none

theorem Arr.reckon_ok {op0 : ByteArray} {a1 b2 : api.Value} {r : api.Value × Int} (h0 : Arr.reckon op0 a1 b2 = some r) : Gives Tryz.prog 110 [.lit (.string op0), api.Value.enc a1, api.Value.enc b2] (.tup [api.Value.enc r.1, J r.2]) := by
  unfold Arr.reckon at h0
  refine ACalls.of_swp Tryz.func110 rfl (by decide) rfl (st0 := ⟨94, [(0, .lit (.string op0)), (1, api.Value.enc a1), (2, api.Value.enc b2)], []⟩) rfl (bwp_ok (C := []) ?_)
  conv => whnf
  refine Nm.mk ⟨[J a1.Kind, J a1.N], rfl, ?_⟩
  conv => whnf
  refine Nm.mk ⟨[J b2.Kind, J b2.N], rfl, ?_⟩
  conv => whnf
  refine Nm.mk ⟨[J 0, J 0], rfl, ?_⟩
  obtain ⟨t17, et17, h1⟩ := letk_elim h0
  conv => whnf
  refine Nm.mk ⟨t17, et17, ?_⟩
  obtain ⟨⟨t21_0, t21_1⟩, et21, h2⟩ := bind_elim h1
  conv => whnf
  refine Gate.go ?_
  conv => whnf
  refine CallN.by (v := .tup [api.Value.enc t21_0, J t21_1]) (Arr.to_ok et21) rfl rfl ?_
  conv => whnf
  refine Nm.mk ⟨[J t21_0.Kind, J t21_0.N], rfl, ?_⟩
  obtain ⟨⟨t27_0, t27_1⟩, et27, h3⟩ := bind_elim h2
  conv => whnf
  refine Gate.go ?_
  conv => whnf
  refine CallN.by (v := .tup [api.Value.enc t27_0, J t27_1]) (Arr.to_ok et27) rfl rfl ?_
  conv => whnf
  refine Nm.mk ⟨[J t27_0.Kind, J t27_0.N], rfl, ?_⟩
  obtain ⟨t31, et31, h4⟩ := letk_elim h3
  conv => whnf
  refine Nm.mk ⟨t31, et31, ?_⟩
  rcases t31 with _ | _
  · have h5 := bif_f h4
    conv => whnf
    refine MapB.of ?_
    conv => whnf
    refine ⟨SRM.start rfl rfl rfl (Nat.le_of_ble_eq_true rfl) ?_⟩
    refine SRM.ins (kind := .string) rfl rfl rfl (by decide) rfl rfl (.inl rfl) (fun _ => rfl) (fun _ => rfl) rfl ?_
    refine SRM.ins (kind := .string) rfl rfl rfl (by decide) rfl rfl (.inl rfl) (fun _ => rfl) (fun _ => rfl) rfl ?_
    refine SRM.ins (kind := .string) rfl rfl rfl (by decide) rfl rfl (.inl rfl) (fun _ => rfl) (fun _ => rfl) rfl ?_
    refine SRM.ins (kind := .string) rfl rfl rfl (by decide) rfl rfl (.inl rfl) (fun _ => rfl) (fun _ => rfl) rfl ?_
    refine SRM.mv (.inl rfl) rfl rfl (Nat.le_of_ble_eq_true rfl) (by decide) ?_
    refine SRM.op rfl (by decide) ?_
    conv => whnf
    refine ⟨rfl, ?_⟩
    obtain ⟨t78, et78, h6⟩ := letk_elim h5
    rcases t78 with _ | _
    · have h7 := bif_f h6
      obtain ⟨t78_1, et78_1, h8⟩ := letk_elim h7
      rcases t78_1 with _ | _
      · have h9 := bif_f h8
        obtain ⟨t78_2, et78_2, h10⟩ := letk_elim h9
        rcases t78_2 with _ | _
        · have h11 := bif_f h10
          obtain ⟨t78_3, et78_3, h12⟩ := letk_elim h11
          rcases t78_3 with _ | _
          · have h13 := bif_f h12
            cases h13
          have h13 := bif_t h12
          refine SRM.look (i := 3) (kind := .string) (v := .func (.func 146) #[] #[]) (av := .fn (.func 146) [] []) rfl rfl (by decide) rfl rfl (.inl rfl) rfl (fun _ _ _ => rel_fn0 _) ((findE_str op0 [(⟨#[43]⟩, .func (.func 143) #[] #[]), (⟨#[45]⟩, .func (.func 144) #[] #[]), (⟨#[42]⟩, .func (.func 145) #[] #[]), (⟨#[47]⟩, .func (.func 146) #[] #[])] 0).trans (congrArg some (by simp only [findS, ← et78, ← et78_1, ← et78_2, ← et78_3, cond]))) ?_
          conv => whnf
          refine DrawB.sees (Sees.of (Weak.objs (k := 94) (keep := [0, 1, 2]) (frz := []) (m := 0) (ts := [(4, .ptr 0 0), (5, .ptr 1 0), (6, .ptr 2 0), (8, J t17), (9, .fn (.func 146) [] [])]) (hs := [.box [J t21_0.Kind, J t21_0.N], .box [J t27_0.Kind, J t27_0.N], .box [J 0, J 0]]) rfl (by decide) rfl rfl ⟨⟨_, rfl, WO.refl rfl⟩, ⟨⟨_, rfl, WO.refl rfl⟩, ⟨⟨_, rfl, WO.refl rfl⟩, ⟨rfl, fun _ h => by cases h⟩⟩⟩⟩ ⟨(.ptr _ _ 0 rfl), (.ptr _ _ 1 rfl), (.ptr _ _ 2 rfl), .s, .s, trivial⟩)) ?_
          refine DrawB.ofG [none, none, none, none, none, none, none, none, none, none, none, none, none, none, none] Tryz_mixed (by kernel_rfl) (by kernel_rfl) ?_
          conv => whnf
          refine DNodeB.of (.fn (.func 146) [] []) ?_ ?_
          · conv => whnf
            rfl
          conv => whnf
          refine DNodeB.of (J t17) ?_ ?_
          · conv => whnf
            rfl
          obtain ⟨t82, et82, h14⟩ := bind_elim h13
          conv => whnf
          refine DNodeB.of (J t82) ?_ ?_
          · conv => whnf
            refine CallN.by (v := J t82) (Arr.bytes_ok et82) rfl rfl ?_
            conv => whnf
            rfl
          conv => whnf
          refine DNodeB.of (.ptr 0 1) ?_ ?_
          · conv => whnf
            rfl
          conv => whnf
          refine DNodeB.of (J t21_0.N) ?_ ?_
          · conv => whnf
            rfl
          conv => whnf
          refine DNodeB.of (.ptr 1 1) ?_ ?_
          · conv => whnf
            rfl
          conv => whnf
          refine DNodeB.of (J t27_0.N) ?_ ?_
          · conv => whnf
            rfl
          obtain ⟨⟨t87_0, t87_1, t87_2⟩, et87, h15⟩ := bind_elim h14
          conv => whnf
          refine DNodeB.of (.tup [J t87_0, J t87_1, J t87_2]) ?_ ?_
          · conv => whnf
            refine CallN.by (v := .tup [J t87_0, J t87_1, J t87_2]) (Flt.Div_ok et87) rfl rfl ?_
            conv => whnf
            rfl
          conv => whnf
          refine DNodeB.of (.tup [J t87_0, J t87_1, J t87_2]) ?_ ?_
          · conv => whnf
            rfl
          conv => whnf
          refine DNodeB.of (J t87_0) ?_ ?_
          · conv => whnf
            rfl
          conv => whnf
          refine DNodeB.of (J t87_1) ?_ ?_
          · conv => whnf
            rfl
          conv => whnf
          refine DNodeB.of (J t87_2) ?_ ?_
          · conv => whnf
            rfl
          conv => whnf
          refine DNodeB.of (J t87_0) ?_ ?_
          · conv => whnf
            rfl
          conv => whnf
          refine DNodeB.of (J t87_1) ?_ ?_
          · conv => whnf
            rfl
          conv => whnf
          refine DNodeB.of (J t87_2) ?_ ?_
          · conv => whnf
            rfl
          conv => whnf
          refine Gate.go ?_
          conv => whnf
          refine Nm.mk ⟨[J t17, J t87_0], rfl, ?_⟩
          conv => whnf
          refine Nm.mk ⟨[J t17, J t87_0], rfl, ?_⟩
          have eh15_0 := Option.some.inj h15
          subst eh15_0
          conv => whnf
          exact Returns.pure (r := .tup [api.Value.enc ((⟨t17, t87_0⟩ : api.Value)), J 0]) rfl rfl rfl rfl ⟨rfl, rfl⟩
        have h11 := bif_t h10
        refine SRM.look (i := 2) (kind := .string) (v := .func (.func 145) #[] #[]) (av := .fn (.func 145) [] []) rfl rfl (by decide) rfl rfl (.inl rfl) rfl (fun _ _ _ => rel_fn0 _) ((findE_str op0 [(⟨#[43]⟩, .func (.func 143) #[] #[]), (⟨#[45]⟩, .func (.func 144) #[] #[]), (⟨#[42]⟩, .func (.func 145) #[] #[]), (⟨#[47]⟩, .func (.func 146) #[] #[])] 0).trans (congrArg some (by simp only [findS, ← et78, ← et78_1, ← et78_2, cond]))) ?_
        conv => whnf
        refine DrawB.sees (Sees.of (Weak.objs (k := 94) (keep := [0, 1, 2]) (frz := []) (m := 0) (ts := [(4, .ptr 0 0), (5, .ptr 1 0), (6, .ptr 2 0), (8, J t17), (9, .fn (.func 145) [] [])]) (hs := [.box [J t21_0.Kind, J t21_0.N], .box [J t27_0.Kind, J t27_0.N], .box [J 0, J 0]]) rfl (by decide) rfl rfl ⟨⟨_, rfl, WO.refl rfl⟩, ⟨⟨_, rfl, WO.refl rfl⟩, ⟨⟨_, rfl, WO.refl rfl⟩, ⟨rfl, fun _ h => by cases h⟩⟩⟩⟩ ⟨(.ptr _ _ 0 rfl), (.ptr _ _ 1 rfl), (.ptr _ _ 2 rfl), .s, .s, trivial⟩)) ?_
        refine DrawB.ofG [none, none, none, none, none, none, none, none, none, none, none, none, none, none, none] Tryz_mixed (by kernel_rfl) (by kernel_rfl) ?_
        conv => whnf
        refine DNodeB.of (.fn (.func 145) [] []) ?_ ?_
        · conv => whnf
          rfl
        conv => whnf
        refine DNodeB.of (J t17) ?_ ?_
        · conv => whnf
          rfl
        obtain ⟨t82_1, et82_1, h12⟩ := bind_elim h11
        conv => whnf
        refine DNodeB.of (J t82_1) ?_ ?_
        · conv => whnf
          refine CallN.by (v := J t82_1) (Arr.bytes_ok et82_1) rfl rfl ?_
          conv => whnf
          rfl
        conv => whnf
        refine DNodeB.of (.ptr 0 1) ?_ ?_
        · conv => whnf
          rfl
        conv => whnf
        refine DNodeB.of (J t21_0.N) ?_ ?_
        · conv => whnf
          rfl
        conv => whnf
        refine DNodeB.of (.ptr 1 1) ?_ ?_
        · conv => whnf
          rfl
        conv => whnf
        refine DNodeB.of (J t27_0.N) ?_ ?_
        · conv => whnf
          rfl
        obtain ⟨⟨t87_3_0, t87_3_1, t87_3_2⟩, et87_3, h13⟩ := bind_elim h12
        conv => whnf
        refine DNodeB.of (.tup [J t87_3_0, J t87_3_1, J t87_3_2]) ?_ ?_
        · conv => whnf
          refine CallN.by (v := .tup [J t87_3_0, J t87_3_1, J t87_3_2]) (Flt.Mul_ok et87_3) rfl rfl ?_
          conv => whnf
          rfl
        conv => whnf
        refine DNodeB.of (.tup [J t87_3_0, J t87_3_1, J t87_3_2]) ?_ ?_
        · conv => whnf
          rfl
        conv => whnf
        refine DNodeB.of (J t87_3_0) ?_ ?_
        · conv => whnf
          rfl
        conv => whnf
        refine DNodeB.of (J t87_3_1) ?_ ?_
        · conv => whnf
          rfl
        conv => whnf
        refine DNodeB.of (J t87_3_2) ?_ ?_
        · conv => whnf
          rfl
        conv => whnf
        refine DNodeB.of (J t87_3_0) ?_ ?_
        · conv => whnf
          rfl
        conv => whnf
        refine DNodeB.of (J t87_3_1) ?_ ?_
        · conv => whnf
          rfl
        conv => whnf
        refine DNodeB.of (J t87_3_2) ?_ ?_
        · conv => whnf
          rfl
        conv => whnf
        refine Gate.go ?_
        conv => whnf
        refine Nm.mk ⟨[J t17, J t87_3_0], rfl, ?_⟩
        conv => whnf
        refine Nm.mk ⟨[J t17, J t87_3_0], rfl, ?_⟩
        have eh13_0 := Option.some.inj h13
        subst eh13_0
        conv => whnf
        exact Returns.pure (r := .tup [api.Value.enc ((⟨t17, t87_3_0⟩ : api.Value)), J 0]) rfl rfl rfl rfl ⟨rfl, rfl⟩
      have h9 := bif_t h8
      refine SRM.look (i := 1) (kind := .string) (v := .func (.func 144) #[] #[]) (av := .fn (.func 144) [] []) rfl rfl (by decide) rfl rfl (.inl rfl) rfl (fun _ _ _ => rel_fn0 _) ((findE_str op0 [(⟨#[43]⟩, .func (.func 143) #[] #[]), (⟨#[45]⟩, .func (.func 144) #[] #[]), (⟨#[42]⟩, .func (.func 145) #[] #[]), (⟨#[47]⟩, .func (.func 146) #[] #[])] 0).trans (congrArg some (by simp only [findS, ← et78, ← et78_1, cond]))) ?_
      conv => whnf
      refine DrawB.sees (Sees.of (Weak.objs (k := 94) (keep := [0, 1, 2]) (frz := []) (m := 0) (ts := [(4, .ptr 0 0), (5, .ptr 1 0), (6, .ptr 2 0), (8, J t17), (9, .fn (.func 144) [] [])]) (hs := [.box [J t21_0.Kind, J t21_0.N], .box [J t27_0.Kind, J t27_0.N], .box [J 0, J 0]]) rfl (by decide) rfl rfl ⟨⟨_, rfl, WO.refl rfl⟩, ⟨⟨_, rfl, WO.refl rfl⟩, ⟨⟨_, rfl, WO.refl rfl⟩, ⟨rfl, fun _ h => by cases h⟩⟩⟩⟩ ⟨(.ptr _ _ 0 rfl), (.ptr _ _ 1 rfl), (.ptr _ _ 2 rfl), .s, .s, trivial⟩)) ?_
      refine DrawB.ofG [none, none, none, none, none, none, none, none, none, none, none, none, none, none, none] Tryz_mixed (by kernel_rfl) (by kernel_rfl) ?_
      conv => whnf
      refine DNodeB.of (.fn (.func 144) [] []) ?_ ?_
      · conv => whnf
        rfl
      conv => whnf
      refine DNodeB.of (J t17) ?_ ?_
      · conv => whnf
        rfl
      obtain ⟨t82_2, et82_2, h10⟩ := bind_elim h9
      conv => whnf
      refine DNodeB.of (J t82_2) ?_ ?_
      · conv => whnf
        refine CallN.by (v := J t82_2) (Arr.bytes_ok et82_2) rfl rfl ?_
        conv => whnf
        rfl
      conv => whnf
      refine DNodeB.of (.ptr 0 1) ?_ ?_
      · conv => whnf
        rfl
      conv => whnf
      refine DNodeB.of (J t21_0.N) ?_ ?_
      · conv => whnf
        rfl
      conv => whnf
      refine DNodeB.of (.ptr 1 1) ?_ ?_
      · conv => whnf
        rfl
      conv => whnf
      refine DNodeB.of (J t27_0.N) ?_ ?_
      · conv => whnf
        rfl
      obtain ⟨⟨t87_4_0, t87_4_1, t87_4_2⟩, et87_4, h11⟩ := bind_elim h10
      conv => whnf
      refine DNodeB.of (.tup [J t87_4_0, J t87_4_1, J t87_4_2]) ?_ ?_
      · conv => whnf
        refine CallN.by (v := .tup [J t87_4_0, J t87_4_1, J t87_4_2]) (Flt.Sub_ok et87_4) rfl rfl ?_
        conv => whnf
        rfl
      conv => whnf
      refine DNodeB.of (.tup [J t87_4_0, J t87_4_1, J t87_4_2]) ?_ ?_
      · conv => whnf
        rfl
      conv => whnf
      refine DNodeB.of (J t87_4_0) ?_ ?_
      · conv => whnf
        rfl
      conv => whnf
      refine DNodeB.of (J t87_4_1) ?_ ?_
      · conv => whnf
        rfl
      conv => whnf
      refine DNodeB.of (J t87_4_2) ?_ ?_
      · conv => whnf
        rfl
      conv => whnf
      refine DNodeB.of (J t87_4_0) ?_ ?_
      · conv => whnf
        rfl
      conv => whnf
      refine DNodeB.of (J t87_4_1) ?_ ?_
      · conv => whnf
        rfl
      conv => whnf
      refine DNodeB.of (J t87_4_2) ?_ ?_
      · conv => whnf
        rfl
      conv => whnf
      refine Gate.go ?_
      conv => whnf
      refine Nm.mk ⟨[J t17, J t87_4_0], rfl, ?_⟩
      conv => whnf
      refine Nm.mk ⟨[J t17, J t87_4_0], rfl, ?_⟩
      have eh11_0 := Option.some.inj h11
      subst eh11_0
      conv => whnf
      exact Returns.pure (r := .tup [api.Value.enc ((⟨t17, t87_4_0⟩ : api.Value)), J 0]) rfl rfl rfl rfl ⟨rfl, rfl⟩
    have h7 := bif_t h6
    refine SRM.look (i := 0) (kind := .string) (v := .func (.func 143) #[] #[]) (av := .fn (.func 143) [] []) rfl rfl (by decide) rfl rfl (.inl rfl) rfl (fun _ _ _ => rel_fn0 _) ((findE_str op0 [(⟨#[43]⟩, .func (.func 143) #[] #[]), (⟨#[45]⟩, .func (.func 144) #[] #[]), (⟨#[42]⟩, .func (.func 145) #[] #[]), (⟨#[47]⟩, .func (.func 146) #[] #[])] 0).trans (congrArg some (by simp only [findS, ← et78, cond]))) ?_
    conv => whnf
    refine DrawB.sees (Sees.of (Weak.objs (k := 94) (keep := [0, 1, 2]) (frz := []) (m := 0) (ts := [(4, .ptr 0 0), (5, .ptr 1 0), (6, .ptr 2 0), (8, J t17), (9, .fn (.func 143) [] [])]) (hs := [.box [J t21_0.Kind, J t21_0.N], .box [J t27_0.Kind, J t27_0.N], .box [J 0, J 0]]) rfl (by decide) rfl rfl ⟨⟨_, rfl, WO.refl rfl⟩, ⟨⟨_, rfl, WO.refl rfl⟩, ⟨⟨_, rfl, WO.refl rfl⟩, ⟨rfl, fun _ h => by cases h⟩⟩⟩⟩ ⟨(.ptr _ _ 0 rfl), (.ptr _ _ 1 rfl), (.ptr _ _ 2 rfl), .s, .s, trivial⟩)) ?_
    refine DrawB.ofG [none, none, none, none, none, none, none, none, none, none, none, none, none, none, none] Tryz_mixed (by kernel_rfl) (by kernel_rfl) ?_
    conv => whnf
    refine DNodeB.of (.fn (.func 143) [] []) ?_ ?_
    · conv => whnf
      rfl
    conv => whnf
    refine DNodeB.of (J t17) ?_ ?_
    · conv => whnf
      rfl
    obtain ⟨t82_3, et82_3, h8⟩ := bind_elim h7
    conv => whnf
    refine DNodeB.of (J t82_3) ?_ ?_
    · conv => whnf
      refine CallN.by (v := J t82_3) (Arr.bytes_ok et82_3) rfl rfl ?_
      conv => whnf
      rfl
    conv => whnf
    refine DNodeB.of (.ptr 0 1) ?_ ?_
    · conv => whnf
      rfl
    conv => whnf
    refine DNodeB.of (J t21_0.N) ?_ ?_
    · conv => whnf
      rfl
    conv => whnf
    refine DNodeB.of (.ptr 1 1) ?_ ?_
    · conv => whnf
      rfl
    conv => whnf
    refine DNodeB.of (J t27_0.N) ?_ ?_
    · conv => whnf
      rfl
    obtain ⟨⟨t87_5_0, t87_5_1, t87_5_2⟩, et87_5, h9⟩ := bind_elim h8
    conv => whnf
    refine DNodeB.of (.tup [J t87_5_0, J t87_5_1, J t87_5_2]) ?_ ?_
    · conv => whnf
      refine CallN.by (v := .tup [J t87_5_0, J t87_5_1, J t87_5_2]) (Flt.Add_ok et87_5) rfl rfl ?_
      conv => whnf
      rfl
    conv => whnf
    refine DNodeB.of (.tup [J t87_5_0, J t87_5_1, J t87_5_2]) ?_ ?_
    · conv => whnf
      rfl
    conv => whnf
    refine DNodeB.of (J t87_5_0) ?_ ?_
    · conv => whnf
      rfl
    conv => whnf
    refine DNodeB.of (J t87_5_1) ?_ ?_
    · conv => whnf
      rfl
    conv => whnf
    refine DNodeB.of (J t87_5_2) ?_ ?_
    · conv => whnf
      rfl
    conv => whnf
    refine DNodeB.of (J t87_5_0) ?_ ?_
    · conv => whnf
      rfl
    conv => whnf
    refine DNodeB.of (J t87_5_1) ?_ ?_
    · conv => whnf
      rfl
    conv => whnf
    refine DNodeB.of (J t87_5_2) ?_ ?_
    · conv => whnf
      rfl
    conv => whnf
    refine Gate.go ?_
    conv => whnf
    refine Nm.mk ⟨[J t17, J t87_5_0], rfl, ?_⟩
    conv => whnf
    refine Nm.mk ⟨[J t17, J t87_5_0], rfl, ?_⟩
    have eh9_0 := Option.some.inj h9
    subst eh9_0
    conv => whnf
    exact Returns.pure (r := .tup [api.Value.enc ((⟨t17, t87_5_0⟩ : api.Value)), J 0]) rfl rfl rfl rfl ⟨rfl, rfl⟩
  have h5 := bif_t h4
  obtain ⟨t34, et34, h6⟩ := letk_elim h5
  conv => whnf
  refine Nm.mk ⟨t34, et34, ?_⟩
  rcases t34 with _ | _
  · have h7 := bif_f h6
    obtain ⟨t44, et44, h8⟩ := letk_elim h7
    conv => whnf
    refine Nm.mk ⟨t44, et44, ?_⟩
    rcases t44 with _ | _
    · have h9 := bif_f h8
      obtain ⟨t54, et54, h10⟩ := letk_elim h9
      conv => whnf
      refine Nm.mk ⟨t54, et54, ?_⟩
      rcases t54 with _ | _
      · have h11 := bif_f h10
        obtain ⟨t65, et65, h12⟩ := letk_elim h11
        conv => whnf
        refine Nm.mk ⟨t65, et65, ?_⟩
        rcases t65 with _ | _
        · have h13 := bif_f h12
          obtain ⟨ch14, h14⟩ := chk_elim h13
          obtain ⟨t71, et71, h15⟩ := letk_elim h14
          conv => whnf
          refine Side.mk ch14 ?_
          conv => whnf
          refine Nm.mk ⟨t71, et71, ?_⟩
          obtain ⟨⟨t72_0, t72_1⟩, et72, h16⟩ := bind_elim h15
          conv => whnf
          refine Gate.go ?_
          conv => whnf
          refine CallN.by (v := .tup [api.Value.enc t72_0, J t72_1]) (Arr.integer_ok et72) rfl rfl ?_
          conv => whnf
          refine Nm.mk ⟨[J t72_0.Kind, J t72_0.N], rfl, ?_⟩
          have eh16_0 := Option.some.inj h16
          subst eh16_0
          conv => whnf
          exact Returns.pure (r := .tup [api.Value.enc ((⟨t72_0.Kind, t72_0.N⟩ : api.Value)), J t72_1]) rfl rfl rfl rfl ⟨rfl, rfl⟩
        have h13 := bif_t h12
        conv => whnf
        refine Gate.go ?_
        conv => whnf
        refine Nm.mk ⟨[J 0, J 0], rfl, ?_⟩
        conv => whnf
        refine Nm.mk ⟨[J 0, J 0], rfl, ?_⟩
        have eh13_0 := Option.some.inj h13
        subst eh13_0
        conv => whnf
        exact Returns.pure (r := .tup [api.Value.enc ((⟨0, 0⟩ : api.Value)), J 90]) rfl rfl rfl rfl ⟨rfl, rfl⟩
      have h11 := bif_t h10
      obtain ⟨t59, et59, h12⟩ := letk_elim h11
      conv => whnf
      refine Nm.mk ⟨t59, et59, ?_⟩
      obtain ⟨⟨t60_0, t60_1⟩, et60, h13⟩ := bind_elim h12
      conv => whnf
      refine Gate.go ?_
      conv => whnf
      refine CallN.by (v := .tup [api.Value.enc t60_0, J t60_1]) (Arr.integer_ok et60) rfl rfl ?_
      conv => whnf
      refine Nm.mk ⟨[J t60_0.Kind, J t60_0.N], rfl, ?_⟩
      have eh13_0 := Option.some.inj h13
      subst eh13_0
      conv => whnf
      exact Returns.pure (r := .tup [api.Value.enc ((⟨t60_0.Kind, t60_0.N⟩ : api.Value)), J t60_1]) rfl rfl rfl rfl ⟨rfl, rfl⟩
    have h9 := bif_t h8
    obtain ⟨t49, et49, h10⟩ := letk_elim h9
    conv => whnf
    refine Nm.mk ⟨t49, et49, ?_⟩
    obtain ⟨⟨t50_0, t50_1⟩, et50, h11⟩ := bind_elim h10
    conv => whnf
    refine Gate.go ?_
    conv => whnf
    refine CallN.by (v := .tup [api.Value.enc t50_0, J t50_1]) (Arr.integer_ok et50) rfl rfl ?_
    conv => whnf
    refine Nm.mk ⟨[J t50_0.Kind, J t50_0.N], rfl, ?_⟩
    have eh11_0 := Option.some.inj h11
    subst eh11_0
    conv => whnf
    exact Returns.pure (r := .tup [api.Value.enc ((⟨t50_0.Kind, t50_0.N⟩ : api.Value)), J t50_1]) rfl rfl rfl rfl ⟨rfl, rfl⟩
  have h7 := bif_t h6
  obtain ⟨t39, et39, h8⟩ := letk_elim h7
  conv => whnf
  refine Nm.mk ⟨t39, et39, ?_⟩
  obtain ⟨⟨t40_0, t40_1⟩, et40, h9⟩ := bind_elim h8
  conv => whnf
  refine Gate.go ?_
  conv => whnf
  refine CallN.by (v := .tup [api.Value.enc t40_0, J t40_1]) (Arr.integer_ok et40) rfl rfl ?_
  conv => whnf
  refine Nm.mk ⟨[J t40_0.Kind, J t40_0.N], rfl, ?_⟩
  have eh9_0 := Option.some.inj h9
  subst eh9_0
  conv => whnf
  exact Returns.pure (r := .tup [api.Value.enc ((⟨t40_0.Kind, t40_0.N⟩ : api.Value)), J t40_1]) rfl rfl rfl rfl ⟨rfl, rfl⟩

noncomputable def Flt.shape.place (s0 : float.shape) (a1 : Int) : Option Int :=
  letk (IntKind.u64.wrap a1) fun t7 =>
  letk (IntKind.i64.wrap (s0.p + s0.w)) fun t12 =>
  letk (IntKind.i64.wrap (t12 - (1 : Int))) fun t13 =>
  chk (0 ≤ t13) <|
  letk (IntKind.u64.wrap ((1 : Int) * 2 ^ (min t13.toNat (IntKind.u64).bits))) fun t14 =>
  letk (IntKind.u64.wrap (t14 - (1 : Int))) fun t15 =>
  letk (IntKind.u64.wrap (BitVec.ofInt (IntKind.u64).bits t7 &&& BitVec.ofInt (IntKind.u64).bits t15).toNat) fun t16 =>
  letk (IntKind.i64.wrap t16) fun t17 =>
  letk (IntKind.u64.wrap a1) fun t19 =>
  letk (IntKind.i64.wrap (s0.p + s0.w)) fun t24 =>
  letk (IntKind.i64.wrap (t24 - (1 : Int))) fun t25 =>
  chk (0 ≤ t25) <|
  letk ((IntKind.u64, t19.fdiv (2 ^ (min t25.toNat (IntKind.u64).bits))).2) fun t26 =>
  letk (IntKind.u64.wrap (BitVec.ofInt (IntKind.u64).bits t26 &&& BitVec.ofInt (IntKind.u64).bits (1 : Int)).toNat) fun t27 =>
  letk (t27 == (1 : Int)) fun t28 =>
  bif t28 then
    letk (IntKind.i64.wrap (0 - t17)) fun t30 =>
    some t30
  else
    some t17

theorem Flt.shape.place_ok {s0 : float.shape} {a1 r : Int} (h0 : Flt.shape.place s0 a1 = some r) : Gives Tryz.prog 195 [float.shape.enc s0, J a1] (J r) := by
  unfold Flt.shape.place at h0
  refine ACalls.of_swp Tryz.func195 rfl (by decide) rfl (st0 := ⟨32, [(0, float.shape.enc s0), (1, J a1)], []⟩) rfl (bwp_ok (C := []) ?_)
  conv => whnf
  refine Nm.mk ⟨[J s0.p, J s0.w], rfl, ?_⟩
  obtain ⟨t7, et7, h1⟩ := letk_elim h0
  conv => whnf
  refine Nm.mk ⟨t7, et7, ?_⟩
  obtain ⟨t12, et12, h2⟩ := letk_elim h1
  conv => whnf
  refine Nm.mk ⟨t12, et12, ?_⟩
  obtain ⟨t13, et13, h3⟩ := letk_elim h2
  conv => whnf
  refine Nm.mk ⟨t13, et13, ?_⟩
  obtain ⟨ch4, h4⟩ := chk_elim h3
  obtain ⟨t14, et14, h5⟩ := letk_elim h4
  conv => whnf
  refine Side.mk ch4 ?_
  conv => whnf
  refine Nm.mk ⟨t14, et14, ?_⟩
  obtain ⟨t15, et15, h6⟩ := letk_elim h5
  conv => whnf
  refine Nm.mk ⟨t15, et15, ?_⟩
  obtain ⟨t16, et16, h7⟩ := letk_elim h6
  conv => whnf
  refine Nm.mk ⟨t16, et16, ?_⟩
  obtain ⟨t17, et17, h8⟩ := letk_elim h7
  conv => whnf
  refine Nm.mk ⟨t17, et17, ?_⟩
  obtain ⟨t19, et19, h9⟩ := letk_elim h8
  conv => whnf
  refine Nm.mk ⟨t19, et19, ?_⟩
  obtain ⟨t24, et24, h10⟩ := letk_elim h9
  conv => whnf
  refine Nm.mk ⟨t24, et24, ?_⟩
  obtain ⟨t25, et25, h11⟩ := letk_elim h10
  conv => whnf
  refine Nm.mk ⟨t25, et25, ?_⟩
  obtain ⟨ch12, h12⟩ := chk_elim h11
  obtain ⟨t26, et26, h13⟩ := letk_elim h12
  conv => whnf
  refine Side.mk ch12 ?_
  conv => whnf
  refine Nm.mk ⟨t26, et26, ?_⟩
  obtain ⟨t27, et27, h14⟩ := letk_elim h13
  conv => whnf
  refine Nm.mk ⟨t27, et27, ?_⟩
  obtain ⟨t28, et28, h15⟩ := letk_elim h14
  conv => whnf
  refine Nm.mk ⟨t28, et28, ?_⟩
  rcases t28 with _ | _
  · have h16 := bif_f h15
    have eh16_0 := Option.some.inj h16
    subst eh16_0
    conv => whnf
    exact Returns.pure (r := J t17) rfl rfl rfl rfl ⟨rfl, rfl⟩
  have h16 := bif_t h15
  obtain ⟨t30, et30, h17⟩ := letk_elim h16
  conv => whnf
  refine Nm.mk ⟨t30, et30, ?_⟩
  have eh17_0 := Option.some.inj h17
  subst eh17_0
  conv => whnf
  exact Returns.pure (r := J t30) rfl rfl rfl rfl ⟨rfl, rfl⟩

noncomputable def Flt.Compare.j0 (a1 b2 : Int) (t18_0 : float.shape) : Option (Int × Int) :=
  Option.bind (Flt.shape.place (⟨t18_0.p, t18_0.w⟩ : float.shape) a1) fun t46 =>
  Option.bind (Flt.shape.place (⟨t18_0.p, t18_0.w⟩ : float.shape) b2) fun t49 =>
  letk (decide (t46 < t49)) fun t53 =>
  bif t53 then
    some ((-1), 0)
  else
    letk (decide (t46 > t49)) fun t57 =>
    bif t57 then
      some (1, 0)
    else
      some (0, 0)

noncomputable def Flt.Compare.j1 (a1 b2 : Int) (t18_0 : float.shape) (t18_1 t18_2 : float.number) (t26 : Bool) : Option (Int × Int) :=
  bif t26 then
    some (2, 0)
  else
    letk (t18_1.class_ == (0 : Int)) fun t38 =>
    bif t38 then
      letk (t18_2.class_ == (0 : Int)) fun t42 =>
      bif t42 then
        some (0, 0)
      else
        Flt.Compare.j0 a1 b2 t18_0
    else
      Flt.Compare.j0 a1 b2 t18_0

noncomputable def Flt.Compare (kind0 a1 b2 : Int) : Option (Int × Int) :=
  Option.bind (Flt.two kind0 0 a1 b2) fun (t18_0, t18_1, t18_2, t18_3) =>
  letk (!t18_3) fun t25 =>
  bif t25 then
    some (0, 2)
  else
    letk (t18_1.class_ == (3 : Int)) fun t29 =>
    bif t29 then
      Flt.Compare.j1 a1 b2 t18_0 t18_1 t18_2 true
    else
      letk (t18_2.class_ == (3 : Int)) fun t33 =>
      Flt.Compare.j1 a1 b2 t18_0 t18_1 t18_2 t33

theorem Flt.Compare_ok {kind0 a1 b2 : Int} {r : Int × Int} (h0 : Flt.Compare kind0 a1 b2 = some r) : Gives Tryz.prog 147 [J kind0, J a1, J b2] (.tup [J r.1, J r.2]) := by
  unfold Flt.Compare at h0
  refine ACalls.of_swp Tryz.func147 rfl (by decide) rfl (st0 := ⟨58, [(0, J kind0), (1, J a1), (2, J b2)], []⟩) rfl (bwp_ok (C := [(0, 8), (36, 11)]) ?_)
  obtain ⟨⟨t18_0, t18_1, t18_2, t18_3⟩, et18, h1⟩ := bind_elim h0
  conv => whnf
  refine Gate.go ?_
  conv => whnf
  refine CallN.by (v := .tup [float.shape.enc t18_0, float.number.enc t18_1, float.number.enc t18_2, .lit (.bool t18_3)]) (Flt.two_ok et18) rfl rfl ?_
  conv => whnf
  refine Nm.mk ⟨[J 0, J 0], rfl, ?_⟩
  conv => whnf
  refine Nm.mk ⟨[J 0, J 0, U 0, J 0], rfl, ?_⟩
  conv => whnf
  refine Nm.mk ⟨[J 0, J 0, U 0, J 0], rfl, ?_⟩
  conv => whnf
  refine Nm.mk ⟨[J t18_0.p, J t18_0.w], rfl, ?_⟩
  conv => whnf
  refine Nm.mk ⟨[J t18_1.class_, J t18_1.sign, U t18_1.m, J t18_1.e], rfl, ?_⟩
  conv => whnf
  refine Nm.mk ⟨[J t18_2.class_, J t18_2.sign, U t18_2.m, J t18_2.e], rfl, ?_⟩
  conv => whnf
  refine CutN.of (fun s => Flt.Compare.j0 a1 b2 t18_0 = some r ∧ s = (⟨58, [(1, J a1), (2, J b2), (8, .ptr 0 0)], [.box [J t18_0.p, J t18_0.w]]⟩ : St)) ?_ ?_
  · obtain ⟨t25, et25, h2⟩ := letk_elim h1
    conv => whnf
    refine Nm.mk ⟨t25, et25, ?_⟩
    rcases t25 with _ | _
    · have h3 := bif_f h2
      conv => whnf
      refine CutN.of (fun s => ∃ (t26 : Bool), Flt.Compare.j1 a1 b2 t18_0 t18_1 t18_2 t26 = some r ∧ s = (⟨58, [(1, J a1), (2, J b2), (8, .ptr 0 0), (9, .ptr 1 0), (10, .ptr 2 0), (26, .lit (.bool t26))], [.box [J t18_0.p, J t18_0.w], .box [J t18_1.class_, J t18_1.sign, U t18_1.m, J t18_1.e], .box [J t18_2.class_, J t18_2.sign, U t18_2.m, J t18_2.e]]⟩ : St)) ?_ ?_
      · obtain ⟨t29, et29, h4⟩ := letk_elim h3
        conv => whnf
        refine Nm.mk ⟨t29, et29, ?_⟩
        rcases t29 with _ | _
        · have h5 := bif_f h4
          obtain ⟨t33, et33, h6⟩ := letk_elim h5
          conv => whnf
          refine Nm.mk ⟨t33, et33, ?_⟩
          exact BackS.by ⟨_, h6, rfl⟩ (Sees.of (Weak.objs (keep := [0, 1, 2]) (frz := []) (m := 0) rfl (by decide) rfl rfl ⟨⟨_, rfl, WO.boxs ⟨.s, .s, trivial⟩⟩, ⟨⟨_, rfl, WO.boxs ⟨.s, .s, .s, .s, trivial⟩⟩, ⟨⟨_, rfl, WO.boxs ⟨.s, .s, .s, .s, trivial⟩⟩, ⟨rfl, fun _ h => by cases h⟩⟩⟩⟩ ⟨.s, .s, (.ptr _ _ 0 rfl), (.ptr _ _ 1 rfl), (.ptr _ _ 2 rfl), .s, trivial⟩))
        have h5 := bif_t h4
        exact BackS.by ⟨_, h5, rfl⟩ (Sees.of (Weak.objs (keep := [0, 1, 2]) (frz := []) (m := 0) rfl (by decide) rfl rfl ⟨⟨_, rfl, WO.boxs ⟨.s, .s, trivial⟩⟩, ⟨⟨_, rfl, WO.boxs ⟨.s, .s, .s, .s, trivial⟩⟩, ⟨⟨_, rfl, WO.boxs ⟨.s, .s, .s, .s, trivial⟩⟩, ⟨rfl, fun _ h => by cases h⟩⟩⟩⟩ ⟨.s, .s, (.ptr _ _ 0 rfl), (.ptr _ _ 1 rfl), (.ptr _ _ 2 rfl), .s, trivial⟩))
      rintro s ⟨t26, hj0, rfl⟩
      unfold Flt.Compare.j1 at hj0
      rcases t26 with _ | _
      · have hj1 := bif_f hj0
        obtain ⟨t38, et38, hj2⟩ := letk_elim hj1
        conv => whnf
        refine Nm.mk ⟨t38, et38, ?_⟩
        rcases t38 with _ | _
        · have hj3 := bif_f hj2
          exact BackS.by ⟨hj3, rfl⟩ (Sees.of (Weak.objs (keep := [0]) (frz := []) (m := 0) rfl (by decide) rfl rfl ⟨⟨_, rfl, WO.boxs ⟨.s, .s, trivial⟩⟩, ⟨rfl, fun _ h => by cases h⟩⟩ ⟨.s, .s, (.ptr _ _ 0 rfl), trivial⟩))
        have hj3 := bif_t hj2
        obtain ⟨t42, et42, hj4⟩ := letk_elim hj3
        conv => whnf
        refine Nm.mk ⟨t42, et42, ?_⟩
        rcases t42 with _ | _
        · have hj5 := bif_f hj4
          exact BackS.by ⟨hj5, rfl⟩ (Sees.of (Weak.objs (keep := [0]) (frz := []) (m := 0) rfl (by decide) rfl rfl ⟨⟨_, rfl, WO.boxs ⟨.s, .s, trivial⟩⟩, ⟨rfl, fun _ h => by cases h⟩⟩ ⟨.s, .s, (.ptr _ _ 0 rfl), trivial⟩))
        have hj5 := bif_t hj4
        have ehj5_0 := Option.some.inj hj5
        subst ehj5_0
        conv => whnf
        exact Returns.pure (r := .tup [J 0, J 0]) rfl rfl rfl rfl ⟨rfl, rfl⟩
      have hj1 := bif_t hj0
      have ehj1_0 := Option.some.inj hj1
      subst ehj1_0
      conv => whnf
      exact Returns.pure (r := .tup [J 2, J 0]) rfl rfl rfl rfl ⟨rfl, rfl⟩
    have h3 := bif_t h2
    have eh3_0 := Option.some.inj h3
    subst eh3_0
    conv => whnf
    exact Returns.pure (r := .tup [J 0, J 2]) rfl rfl rfl rfl ⟨rfl, rfl⟩
  rintro s ⟨hj0, rfl⟩
  unfold Flt.Compare.j0 at hj0
  conv => whnf
  refine DrawB.ofG [none, none, none, none, none, none, none, none] Tryz_mixed (by kernel_rfl) (by kernel_rfl) ?_
  conv => whnf
  refine DNodeB.of (.agg [J t18_0.p, J t18_0.w]) ?_ ?_
  · conv => whnf
    rfl
  conv => whnf
  refine DNodeB.of (J a1) ?_ ?_
  · conv => whnf
    rfl
  obtain ⟨t46, et46, hj1⟩ := bind_elim hj0
  conv => whnf
  refine DNodeB.of (J t46) ?_ ?_
  · conv => whnf
    refine CallN.by (v := J t46) (Flt.shape.place_ok et46) rfl rfl ?_
    conv => whnf
    rfl
  conv => whnf
  refine DNodeB.of (.agg [J t18_0.p, J t18_0.w]) ?_ ?_
  · conv => whnf
    rfl
  conv => whnf
  refine DNodeB.of (J b2) ?_ ?_
  · conv => whnf
    rfl
  obtain ⟨t49, et49, hj2⟩ := bind_elim hj1
  conv => whnf
  refine DNodeB.of (J t49) ?_ ?_
  · conv => whnf
    refine CallN.by (v := J t49) (Flt.shape.place_ok et49) rfl rfl ?_
    conv => whnf
    rfl
  conv => whnf
  refine DNodeB.of (J t46) ?_ ?_
  · conv => whnf
    rfl
  conv => whnf
  refine DNodeB.of (J t49) ?_ ?_
  · conv => whnf
    rfl
  obtain ⟨t53, et53, hj3⟩ := letk_elim hj2
  conv => whnf
  refine Nm.mk ⟨t53, et53, ?_⟩
  rcases t53 with _ | _
  · have hj4 := bif_f hj3
    obtain ⟨t57, et57, hj5⟩ := letk_elim hj4
    conv => whnf
    refine Nm.mk ⟨t57, et57, ?_⟩
    rcases t57 with _ | _
    · have hj6 := bif_f hj5
      have ehj6_0 := Option.some.inj hj6
      subst ehj6_0
      conv => whnf
      exact Returns.pure (r := .tup [J 0, J 0]) rfl rfl rfl rfl ⟨rfl, rfl⟩
    have hj6 := bif_t hj5
    have ehj6_0 := Option.some.inj hj6
    subst ehj6_0
    conv => whnf
    exact Returns.pure (r := .tup [J 1, J 0]) rfl rfl rfl rfl ⟨rfl, rfl⟩
  have hj4 := bif_t hj3
  have ehj4_0 := Option.some.inj hj4
  subst ehj4_0
  conv => whnf
  exact Returns.pure (r := .tup [J ((-1)), J 0]) rfl rfl rfl rfl ⟨rfl, rfl⟩

noncomputable def Arr.compared (a0 b1 : api.Value) : Option Int :=
  letk (if b1.Kind > a0.Kind then b1.Kind else a0.Kind) fun t12 =>
  Option.bind (Arr.to t12 (⟨a0.Kind, a0.N⟩ : api.Value)) fun (t16_0, t16_1) =>
  Option.bind (Arr.to t12 (⟨b1.Kind, b1.N⟩ : api.Value)) fun (t22_0, t22_1) =>
  letk (t12 == (1 : Int)) fun t26 =>
  bif t26 then
    letk (IntKind.i64.wrap (t16_0.N - t22_0.N)) fun t31 =>
    letk (if ((-1)) > t31 then (-1) else t31) fun t32 =>
    letk (if 1 < t32 then 1 else t32) fun t33 =>
    some t33
  else
    Option.bind (Arr.bytes t12) fun t36 =>
    Option.bind (Flt.Compare t36 t16_0.N t22_0.N) fun (t41_0, t41_1) =>
    some t41_0

theorem Arr.compared_ok {a0 b1 : api.Value} {r : Int} (h0 : Arr.compared a0 b1 = some r) : Gives Tryz.prog 112 [api.Value.enc a0, api.Value.enc b1] (J r) := by
  unfold Arr.compared at h0
  refine ACalls.of_swp Tryz.func112 rfl (by decide) rfl (st0 := ⟨45, [(0, api.Value.enc a0), (1, api.Value.enc b1)], []⟩) rfl (bwp_ok (C := []) ?_)
  conv => whnf
  refine Nm.mk ⟨[J a0.Kind, J a0.N], rfl, ?_⟩
  conv => whnf
  refine Nm.mk ⟨[J b1.Kind, J b1.N], rfl, ?_⟩
  obtain ⟨t12, et12, h1⟩ := letk_elim h0
  conv => whnf
  refine Nm.mk ⟨t12, et12, ?_⟩
  obtain ⟨⟨t16_0, t16_1⟩, et16, h2⟩ := bind_elim h1
  conv => whnf
  refine Gate.go ?_
  conv => whnf
  refine CallN.by (v := .tup [api.Value.enc t16_0, J t16_1]) (Arr.to_ok et16) rfl rfl ?_
  conv => whnf
  refine Nm.mk ⟨[J t16_0.Kind, J t16_0.N], rfl, ?_⟩
  obtain ⟨⟨t22_0, t22_1⟩, et22, h3⟩ := bind_elim h2
  conv => whnf
  refine Gate.go ?_
  conv => whnf
  refine CallN.by (v := .tup [api.Value.enc t22_0, J t22_1]) (Arr.to_ok et22) rfl rfl ?_
  conv => whnf
  refine Nm.mk ⟨[J t22_0.Kind, J t22_0.N], rfl, ?_⟩
  obtain ⟨t26, et26, h4⟩ := letk_elim h3
  conv => whnf
  refine Nm.mk ⟨t26, et26, ?_⟩
  rcases t26 with _ | _
  · have h5 := bif_f h4
    conv => whnf
    refine DrawB.sees (Sees.of (Weak.objs (k := 45) (keep := [0, 1]) (frz := []) (m := 0) (ts := [(2, .ptr 0 0), (3, .ptr 1 0), (5, J t12)]) (hs := [.box [J t16_0.Kind, J t16_0.N], .box [J t22_0.Kind, J t22_0.N]]) rfl (by decide) rfl rfl ⟨⟨_, rfl, WO.refl rfl⟩, ⟨⟨_, rfl, WO.refl rfl⟩, ⟨rfl, fun _ h => by cases h⟩⟩⟩ ⟨(.ptr _ _ 0 rfl), (.ptr _ _ 1 rfl), .s, trivial⟩)) ?_
    refine DrawB.ofG [none, none, none, none, none, none, none, none, none, none, none, none] Tryz_mixed (by kernel_rfl) (by kernel_rfl) ?_
    conv => whnf
    refine DNodeB.of (J t12) ?_ ?_
    · conv => whnf
      rfl
    obtain ⟨t36, et36, h6⟩ := bind_elim h5
    conv => whnf
    refine DNodeB.of (J t36) ?_ ?_
    · conv => whnf
      refine CallN.by (v := J t36) (Arr.bytes_ok et36) rfl rfl ?_
      conv => whnf
      rfl
    conv => whnf
    refine DNodeB.of (.ptr 0 1) ?_ ?_
    · conv => whnf
      rfl
    conv => whnf
    refine DNodeB.of (J t16_0.N) ?_ ?_
    · conv => whnf
      rfl
    conv => whnf
    refine DNodeB.of (.ptr 1 1) ?_ ?_
    · conv => whnf
      rfl
    conv => whnf
    refine DNodeB.of (J t22_0.N) ?_ ?_
    · conv => whnf
      rfl
    obtain ⟨⟨t41_0, t41_1⟩, et41, h7⟩ := bind_elim h6
    conv => whnf
    refine DNodeB.of (.tup [J t41_0, J t41_1]) ?_ ?_
    · conv => whnf
      refine CallN.by (v := .tup [J t41_0, J t41_1]) (Flt.Compare_ok et41) rfl rfl ?_
      conv => whnf
      rfl
    conv => whnf
    refine DNodeB.of (.tup [J t41_0, J t41_1]) ?_ ?_
    · conv => whnf
      rfl
    conv => whnf
    refine DNodeB.of (J t41_0) ?_ ?_
    · conv => whnf
      rfl
    conv => whnf
    refine DNodeB.of (J t41_1) ?_ ?_
    · conv => whnf
      rfl
    conv => whnf
    refine DNodeB.of (J t41_0) ?_ ?_
    · conv => whnf
      rfl
    conv => whnf
    refine DNodeB.of (J t41_1) ?_ ?_
    · conv => whnf
      rfl
    have eh7_0 := Option.some.inj h7
    subst eh7_0
    conv => whnf
    exact Returns.pure (r := J t41_0) rfl rfl rfl rfl ⟨rfl, rfl⟩
  have h5 := bif_t h4
  obtain ⟨t31, et31, h6⟩ := letk_elim h5
  conv => whnf
  refine Nm.mk ⟨t31, et31, ?_⟩
  obtain ⟨t32, et32, h7⟩ := letk_elim h6
  conv => whnf
  refine Nm.mk ⟨t32, et32, ?_⟩
  obtain ⟨t33, et33, h8⟩ := letk_elim h7
  conv => whnf
  refine Nm.mk ⟨t33, et33, ?_⟩
  have eh8_0 := Option.some.inj h8
  subst eh8_0
  conv => whnf
  exact Returns.pure (r := J t33) rfl rfl rfl rfl ⟨rfl, rfl⟩

noncomputable def Arr.holds (op0 : ByteArray) (n1 : Int) : Option Bool :=
  letk (op0.toList == (⟨#[61, 61]⟩ : ByteArray).toList) fun t7 =>
  bif t7 then
    letk (n1 == (0 : Int)) fun t9 =>
    some t9
  else
    letk (op0.toList == (⟨#[47, 61]⟩ : ByteArray).toList) fun t11 =>
    bif t11 then
      letk (n1 != (0 : Int)) fun t13 =>
      some t13
    else
      letk (op0.toList == (⟨#[60]⟩ : ByteArray).toList) fun t15 =>
      bif t15 then
        letk (n1 == ((-1) : Int)) fun t17 =>
        some t17
      else
        letk (op0.toList == (⟨#[60, 61]⟩ : ByteArray).toList) fun t19 =>
        bif t19 then
          letk (n1 == ((-1) : Int)) fun t21 =>
          bif t21 then
            some true
          else
            letk (n1 == (0 : Int)) fun t24 =>
            some t24
        else
          letk (op0.toList == (⟨#[62]⟩ : ByteArray).toList) fun t27 =>
          bif t27 then
            letk (n1 == (1 : Int)) fun t29 =>
            some t29
          else
            letk (n1 == (0 : Int)) fun t31 =>
            bif t31 then
              some true
            else
              letk (n1 == (1 : Int)) fun t34 =>
              some t34

theorem Arr.holds_ok {op0 : ByteArray} {n1 : Int} {r : Bool} (h0 : Arr.holds op0 n1 = some r) : Gives Tryz.prog 111 [.lit (.string op0), J n1] (.lit (.bool r)) := by
  unfold Arr.holds at h0
  refine ACalls.of_swp Tryz.func111 rfl (by decide) rfl (st0 := ⟨36, [(0, .lit (.string op0)), (1, J n1)], []⟩) rfl (bwp_ok (C := []) ?_)
  obtain ⟨t7, et7, h1⟩ := letk_elim h0
  conv => whnf
  refine Nm.mk ⟨t7, et7, ?_⟩
  rcases t7 with _ | _
  · have h2 := bif_f h1
    obtain ⟨t11, et11, h3⟩ := letk_elim h2
    conv => whnf
    refine Nm.mk ⟨t11, et11, ?_⟩
    rcases t11 with _ | _
    · have h4 := bif_f h3
      obtain ⟨t15, et15, h5⟩ := letk_elim h4
      conv => whnf
      refine Nm.mk ⟨t15, et15, ?_⟩
      rcases t15 with _ | _
      · have h6 := bif_f h5
        obtain ⟨t19, et19, h7⟩ := letk_elim h6
        conv => whnf
        refine Nm.mk ⟨t19, et19, ?_⟩
        rcases t19 with _ | _
        · have h8 := bif_f h7
          obtain ⟨t27, et27, h9⟩ := letk_elim h8
          conv => whnf
          refine Nm.mk ⟨t27, et27, ?_⟩
          rcases t27 with _ | _
          · have h10 := bif_f h9
            obtain ⟨t31, et31, h11⟩ := letk_elim h10
            conv => whnf
            refine Nm.mk ⟨t31, et31, ?_⟩
            rcases t31 with _ | _
            · have h12 := bif_f h11
              obtain ⟨t34, et34, h13⟩ := letk_elim h12
              conv => whnf
              refine Nm.mk ⟨t34, et34, ?_⟩
              have eh13_0 := Option.some.inj h13
              subst eh13_0
              conv => whnf
              exact Returns.pure (r := .lit (.bool t34)) rfl rfl rfl rfl ⟨rfl, rfl⟩
            have h12 := bif_t h11
            have eh12_0 := Option.some.inj h12
            subst eh12_0
            conv => whnf
            exact Returns.pure (r := .lit (.bool true)) rfl rfl rfl rfl ⟨rfl, rfl⟩
          have h10 := bif_t h9
          obtain ⟨t29, et29, h11⟩ := letk_elim h10
          conv => whnf
          refine Nm.mk ⟨t29, et29, ?_⟩
          have eh11_0 := Option.some.inj h11
          subst eh11_0
          conv => whnf
          exact Returns.pure (r := .lit (.bool t29)) rfl rfl rfl rfl ⟨rfl, rfl⟩
        have h8 := bif_t h7
        obtain ⟨t21, et21, h9⟩ := letk_elim h8
        conv => whnf
        refine Nm.mk ⟨t21, et21, ?_⟩
        rcases t21 with _ | _
        · have h10 := bif_f h9
          obtain ⟨t24, et24, h11⟩ := letk_elim h10
          conv => whnf
          refine Nm.mk ⟨t24, et24, ?_⟩
          have eh11_0 := Option.some.inj h11
          subst eh11_0
          conv => whnf
          exact Returns.pure (r := .lit (.bool t24)) rfl rfl rfl rfl ⟨rfl, rfl⟩
        have h10 := bif_t h9
        have eh10_0 := Option.some.inj h10
        subst eh10_0
        conv => whnf
        exact Returns.pure (r := .lit (.bool true)) rfl rfl rfl rfl ⟨rfl, rfl⟩
      have h6 := bif_t h5
      obtain ⟨t17, et17, h7⟩ := letk_elim h6
      conv => whnf
      refine Nm.mk ⟨t17, et17, ?_⟩
      have eh7_0 := Option.some.inj h7
      subst eh7_0
      conv => whnf
      exact Returns.pure (r := .lit (.bool t17)) rfl rfl rfl rfl ⟨rfl, rfl⟩
    have h4 := bif_t h3
    obtain ⟨t13, et13, h5⟩ := letk_elim h4
    conv => whnf
    refine Nm.mk ⟨t13, et13, ?_⟩
    have eh5_0 := Option.some.inj h5
    subst eh5_0
    conv => whnf
    exact Returns.pure (r := .lit (.bool t13)) rfl rfl rfl rfl ⟨rfl, rfl⟩
  have h2 := bif_t h1
  obtain ⟨t9, et9, h3⟩ := letk_elim h2
  conv => whnf
  refine Nm.mk ⟨t9, et9, ?_⟩
  have eh3_0 := Option.some.inj h3
  subst eh3_0
  conv => whnf
  exact Returns.pure (r := .lit (.bool t9)) rfl rfl rfl rfl ⟨rfl, rfl⟩

end Go.Q
