import Derived.Test.YtoecgpemlfoogaaGreatDoorGO5
import Derived.Test.YtoecgpemlfoogaaGreatDoorFX
import Derived.Test.YtoecgpemlfoogaaGreatDoorProg
namespace Go.Q
open Go Go.Proofs
set_option maxRecDepth 10000
set_option maxHeartbeats 2000000

noncomputable def Ref3.SameLines.s0 (a0 : List api.Line) (b1 : List api.Line) (at2_1 : Bool) (i7 : Int) : Option ((Bool × Int) ⊕ Bool) :=
  letk ((a0.length : Int)) fun t15 =>
  letk (decide (i7 < t15)) fun t16 =>
  bif t16 then
    chk (0 ≤ i7) <|
    Option.bind (a0[i7.toNat]?) fun t21 =>
    chk (0 ≤ i7) <|
    Option.bind (b1[i7.toNat]?) fun t26 =>
    letk (t21.Label != t26.Label) fun t29 =>
    bif t29 then
      some (.inr false)
    else
      chk (0 ≤ i7) <|
      Option.bind (a0[i7.toNat]?) fun t33 =>
      chk (0 ≤ i7) <|
      Option.bind (b1[i7.toNat]?) fun t38 =>
      letk (!(t33.Text.toList == t38.Text.toList)) fun t41 =>
      bif t41 then
        some (.inr false)
      else
        bif at2_1 then
          chk (0 ≤ i7) <|
          Option.bind (a0[i7.toNat]?) fun t48 =>
          chk (0 ≤ i7) <|
          Option.bind (b1[i7.toNat]?) fun t53 =>
          letk (t48.At != t53.At) fun t56 =>
          bif t56 then
            some (.inr false)
          else
            letk (IntKind.i64.wrap (i7 + (1 : Int))) fun t18_1 =>
            some (.inl (true, t18_1))
        else
          letk (IntKind.i64.wrap (i7 + (1 : Int))) fun t18 =>
          some (.inl (false, t18))
  else
    some (.inr true)

noncomputable def Ref3.SameLines.l0 (a0 : List api.Line) (b1 : List api.Line) (at2_1 : Bool) (i7 : Int) : Option Bool := loopO (fun v : Bool × Int => Ref3.SameLines.s0 a0 b1 v.1 v.2) (at2_1, i7)
theorem Ref3.SameLines.l0_eq (a0 : List api.Line) (b1 : List api.Line) (at2_1 : Bool) (i7 : Int) : Ref3.SameLines.l0 a0 b1 at2_1 i7 = (Ref3.SameLines.s0 a0 b1 at2_1 i7).bind (Sum.elim (fun v => Ref3.SameLines.l0 a0 b1 v.1 v.2) some) := loopO_eq _ _

noncomputable def Ref3.SameLines (a0 : List api.Line) (b1 : List api.Line) (at2 : Bool) : Option Bool :=
  letk ((a0.length : Int)) fun t9 =>
  letk ((b1.length : Int)) fun t11 =>
  letk (t9 != t11) fun t12 =>
  bif t12 then
    some false
  else
    Ref3.SameLines.l0 a0 b1 at2 0

theorem Ref3.SameLines_ok {a0 : List api.Line} {b1 : List api.Line} {at2 : Bool} {r : Bool} (h0 : Ref3.SameLines a0 b1 at2 = some r) : Gives Tryz.prog 11 [.vs 3 (a0.map (api.Line.enc)), .vs 3 (b1.map (api.Line.enc)), .lit (.bool at2)] (.lit (.bool r)) := by
  unfold Ref3.SameLines at h0
  refine ACalls.of_swp Tryz.func11 rfl (by decide) rfl (st0 := ⟨59, [(0, .vs 3 (a0.map (api.Line.enc))), (1, .vs 3 (b1.map (api.Line.enc))), (2, .lit (.bool at2))], []⟩) rfl (bwp_ok (C := []) ?_)
  obtain ⟨t9, et9, h1⟩ := letk_elim h0; clear h0
  conv => whnf
  refine Nm.mk ⟨t9, by rw [et9, List.length_map], ?_⟩
  obtain ⟨t11, et11, h2⟩ := letk_elim h1; clear h1
  conv => whnf
  refine Nm.mk ⟨t11, by rw [et11, List.length_map], ?_⟩
  obtain ⟨t12, et12, h3⟩ := letk_elim h2; clear h2
  conv => whnf
  refine Nm.mk ⟨t12, et12, ?_⟩
  rcases t12 with _ | _
  · have h4 := bif_f h3
    clear h3
    conv => whnf
    unfold Ref3.SameLines.l0 at h4
    refine LoopB.of (σ := Bool × Int) (ρ := Bool) (fun v : Bool × Int => Ref3.SameLines.s0 a0 b1 v.1 v.2) (fun v => (⟨59, [(0, .vs 3 (a0.map (api.Line.enc))), (1, .vs 3 (b1.map (api.Line.enc))), (2, .lit (.bool v.1)), (7, .lit (.int .i64 v.2))], []⟩ : St)) (at2, 0) h4 (BackS.of (Sees.of (Weak.objs (keep := []) (frz := []) (m := 0) (ts := [(0, .vs 3 (a0.map (api.Line.enc))), (1, .vs 3 (b1.map (api.Line.enc))), (2, .lit (.bool at2)), (7, .lit (.int .i64 0))]) (hs := []) rfl (by decide) rfl rfl ⟨rfl, fun _ h => by cases h⟩ ⟨(.same (.vs 3 (a0.map (api.Line.enc))) rfl), (.same (.vs 3 (b1.map (api.Line.enc))) rfl), (.same (.lit (.bool at2)) rfl), (.same (.lit (.int .i64 0)) rfl), trivial⟩)) rfl) ?_
    clear h4
    rintro K1 ⟨at2_1, i7⟩ x1 hs0_0 hl1 hr1
    replace hs0_0 : Ref3.SameLines.s0 a0 b1 at2_1 i7 = some x1 := hs0_0
    unfold Ref3.SameLines.s0 at hs0_0
    change bwp _ _ _ _ _ (⟨59, [(0, .vs 3 (a0.map (api.Line.enc))), (1, .vs 3 (b1.map (api.Line.enc))), (2, .lit (.bool at2_1)), (7, .lit (.int .i64 i7))], []⟩ : St)
    obtain ⟨t15, et15, hs0_1⟩ := letk_elim hs0_0; clear hs0_0
    conv => whnf
    refine Nm.mk ⟨t15, by rw [et15, List.length_map], ?_⟩
    obtain ⟨t16, et16, hs0_2⟩ := letk_elim hs0_1; clear hs0_1
    conv => whnf
    refine Nm.mk ⟨t16, et16, ?_⟩
    rcases t16 with _ | _
    · have hs0_3 := bif_f hs0_2
      clear hs0_2
      have ehs0_3u_0 := hr1 _ (Option.some.inj hs0_3).symm
      have hs0_3u := congrArg some ehs0_3u_0
      have ehs0_3u_0 := Option.some.inj hs0_3u
      subst ehs0_3u_0
      conv => whnf
      exact Returns.pure (r := .lit (.bool true)) rfl rfl rfl rfl ⟨rfl, rfl⟩
    · have hs0_3 := bif_t hs0_2
      clear hs0_2
      conv => whnf
      refine DrawB.of Tryz_mixed rfl ?_
      conv => whnf
      refine DNodeB.of (.vs 3 (a0.map (api.Line.enc))) ?_ ?_
      · conv => whnf
        rfl
      · conv => whnf
        refine DNodeB.of (.lit (.int .i64 i7)) ?_ ?_
        · conv => whnf
          rfl
        · obtain ⟨chs0_4, hs0_4⟩ := chk_elim hs0_3; clear hs0_3
          obtain ⟨t21, et21, hs0_5⟩ := bind_elim hs0_4; clear hs0_4
          conv => whnf
          refine DNodeB.of (.iptr (api.Line.enc t21)) ?_ ?_
          · conv => whnf
            refine Side.mk chs0_4 ?_
            conv => whnf
            refine At.by et21 ?_
            conv => whnf
            rfl
          · conv => whnf
            refine DNodeB.of (.iptr (.lit (.int .i64 t21.Label))) ?_ ?_
            · conv => whnf
              rfl
            · conv => whnf
              refine DNodeB.of (.lit (.int .i64 t21.Label)) ?_ ?_
              · conv => whnf
                rfl
              · conv => whnf
                refine DNodeB.of (.vs 3 (b1.map (api.Line.enc))) ?_ ?_
                · conv => whnf
                  rfl
                · conv => whnf
                  refine DNodeB.of (.lit (.int .i64 i7)) ?_ ?_
                  · conv => whnf
                    rfl
                  · obtain ⟨chs0_6, hs0_6⟩ := chk_elim hs0_5; clear hs0_5
                    obtain ⟨t26, et26, hs0_7⟩ := bind_elim hs0_6; clear hs0_6
                    conv => whnf
                    refine DNodeB.of (.iptr (api.Line.enc t26)) ?_ ?_
                    · conv => whnf
                      refine Side.mk chs0_6 ?_
                      conv => whnf
                      refine At.by et26 ?_
                      conv => whnf
                      rfl
                    · conv => whnf
                      refine DNodeB.of (.iptr (.lit (.int .i64 t26.Label))) ?_ ?_
                      · conv => whnf
                        rfl
                      · conv => whnf
                        refine DNodeB.of (.lit (.int .i64 t26.Label)) ?_ ?_
                        · conv => whnf
                          rfl
                        · obtain ⟨t29, et29, hs0_8⟩ := letk_elim hs0_7; clear hs0_7
                          conv => whnf
                          refine DNodeB.of (.lit (.bool t29)) ?_ ?_
                          · conv => whnf
                            refine Nm.mk ⟨t29, et29, ?_⟩
                            conv => whnf
                            rfl
                          · conv => whnf
                            refine DNodeB.of (.lit (.bool t29)) ?_ ?_
                            · conv => whnf
                              rfl
                            · rcases t29 with _ | _
                              · have hs0_9 := bif_f hs0_8
                                clear hs0_8
                                conv => whnf
                                refine DNodeB.of (.vs 3 (a0.map (api.Line.enc))) ?_ ?_
                                · conv => whnf
                                  rfl
                                · conv => whnf
                                  refine DNodeB.of (.lit (.int .i64 i7)) ?_ ?_
                                  · conv => whnf
                                    rfl
                                  · obtain ⟨chs0_10, hs0_10⟩ := chk_elim hs0_9; clear hs0_9
                                    obtain ⟨t33, et33, hs0_11⟩ := bind_elim hs0_10; clear hs0_10
                                    conv => whnf
                                    refine DNodeB.of (.iptr (api.Line.enc t33)) ?_ ?_
                                    · conv => whnf
                                      refine Side.mk chs0_10 ?_
                                      conv => whnf
                                      refine At.by et33 ?_
                                      conv => whnf
                                      rfl
                                    · conv => whnf
                                      refine DNodeB.of (.iptr (.lit (.string t33.Text))) ?_ ?_
                                      · conv => whnf
                                        rfl
                                      · conv => whnf
                                        refine DNodeB.of (.lit (.string t33.Text)) ?_ ?_
                                        · conv => whnf
                                          rfl
                                        · conv => whnf
                                          refine DNodeB.of (.vs 3 (b1.map (api.Line.enc))) ?_ ?_
                                          · conv => whnf
                                            rfl
                                          · conv => whnf
                                            refine DNodeB.of (.lit (.int .i64 i7)) ?_ ?_
                                            · conv => whnf
                                              rfl
                                            · obtain ⟨chs0_12, hs0_12⟩ := chk_elim hs0_11; clear hs0_11
                                              obtain ⟨t38, et38, hs0_13⟩ := bind_elim hs0_12; clear hs0_12
                                              conv => whnf
                                              refine DNodeB.of (.iptr (api.Line.enc t38)) ?_ ?_
                                              · conv => whnf
                                                refine Side.mk chs0_12 ?_
                                                conv => whnf
                                                refine At.by et38 ?_
                                                conv => whnf
                                                rfl
                                              · conv => whnf
                                                refine DNodeB.of (.iptr (.lit (.string t38.Text))) ?_ ?_
                                                · conv => whnf
                                                  rfl
                                                · conv => whnf
                                                  refine DNodeB.of (.lit (.string t38.Text)) ?_ ?_
                                                  · conv => whnf
                                                    rfl
                                                  · obtain ⟨t41, et41, hs0_14⟩ := letk_elim hs0_13; clear hs0_13
                                                    conv => whnf
                                                    refine DNodeB.of (.lit (.bool t41)) ?_ ?_
                                                    · conv => whnf
                                                      refine Nm.mk ⟨t41, et41, ?_⟩
                                                      conv => whnf
                                                      rfl
                                                    · conv => whnf
                                                      refine DNodeB.of (.lit (.bool t41)) ?_ ?_
                                                      · conv => whnf
                                                        rfl
                                                      · conv => whnf
                                                        refine DNodeB.of (.lit (.bool t41)) ?_ ?_
                                                        · conv => whnf
                                                          rfl
                                                        · rcases t41 with _ | _
                                                          · have hs0_15 := bif_f hs0_14
                                                            clear hs0_14
                                                            conv => whnf
                                                            refine DNodeB.of (.lit (.bool at2_1)) ?_ ?_
                                                            · conv => whnf
                                                              rfl
                                                            · conv => whnf
                                                              refine DNodeB.of (.lit (.bool at2_1)) ?_ ?_
                                                              · conv => whnf
                                                                rfl
                                                              · rcases at2_1 with _ | _
                                                                · have hs0_16 := bif_f hs0_15
                                                                  clear hs0_15
                                                                  conv => whnf
                                                                  refine DNodeB.of (.lit (.bool false)) ?_ ?_
                                                                  · conv => whnf
                                                                    rfl
                                                                  · conv => whnf
                                                                    refine DNodeB.of (.lit (.bool false)) ?_ ?_
                                                                    · conv => whnf
                                                                      rfl
                                                                    · obtain ⟨t18, et18, hs0_17⟩ := letk_elim hs0_16; clear hs0_16
                                                                      conv => whnf
                                                                      refine Nm.mk ⟨t18, et18, ?_⟩
                                                                      exact BackS.of (Sees.of (Weak.objs (keep := []) (frz := []) (m := 0) (ts := [(0, .vs 3 (a0.map (api.Line.enc))), (1, .vs 3 (b1.map (api.Line.enc))), (2, .lit (.bool false)), (7, .lit (.int .i64 t18))]) (hs := []) rfl (by decide) rfl rfl ⟨rfl, fun _ h => by cases h⟩ ⟨(.same (.vs 3 (a0.map (api.Line.enc))) rfl), (.same (.vs 3 (b1.map (api.Line.enc))) rfl), (.same (.lit (.bool false)) rfl), (.same (.lit (.int .i64 t18)) rfl), trivial⟩)) ⟨_, hl1 _ (Option.some.inj hs0_17).symm, rfl⟩
                                                                · have hs0_16 := bif_t hs0_15
                                                                  clear hs0_15
                                                                  conv => whnf
                                                                  refine DNodeB.of (.vs 3 (a0.map (api.Line.enc))) ?_ ?_
                                                                  · conv => whnf
                                                                    rfl
                                                                  · conv => whnf
                                                                    refine DNodeB.of (.lit (.int .i64 i7)) ?_ ?_
                                                                    · conv => whnf
                                                                      rfl
                                                                    · obtain ⟨chs0_17, hs0_17⟩ := chk_elim hs0_16; clear hs0_16
                                                                      obtain ⟨t48, et48, hs0_18⟩ := bind_elim hs0_17; clear hs0_17
                                                                      conv => whnf
                                                                      refine DNodeB.of (.iptr (api.Line.enc t48)) ?_ ?_
                                                                      · conv => whnf
                                                                        refine Side.mk chs0_17 ?_
                                                                        conv => whnf
                                                                        refine At.by et48 ?_
                                                                        conv => whnf
                                                                        rfl
                                                                      · conv => whnf
                                                                        refine DNodeB.of (.iptr (.lit (.int .i64 t48.At))) ?_ ?_
                                                                        · conv => whnf
                                                                          rfl
                                                                        · conv => whnf
                                                                          refine DNodeB.of (.lit (.int .i64 t48.At)) ?_ ?_
                                                                          · conv => whnf
                                                                            rfl
                                                                          · conv => whnf
                                                                            refine DNodeB.of (.vs 3 (b1.map (api.Line.enc))) ?_ ?_
                                                                            · conv => whnf
                                                                              rfl
                                                                            · conv => whnf
                                                                              refine DNodeB.of (.lit (.int .i64 i7)) ?_ ?_
                                                                              · conv => whnf
                                                                                rfl
                                                                              · obtain ⟨chs0_19, hs0_19⟩ := chk_elim hs0_18; clear hs0_18
                                                                                obtain ⟨t53, et53, hs0_20⟩ := bind_elim hs0_19; clear hs0_19
                                                                                conv => whnf
                                                                                refine DNodeB.of (.iptr (api.Line.enc t53)) ?_ ?_
                                                                                · conv => whnf
                                                                                  refine Side.mk chs0_19 ?_
                                                                                  conv => whnf
                                                                                  refine At.by et53 ?_
                                                                                  conv => whnf
                                                                                  rfl
                                                                                · conv => whnf
                                                                                  refine DNodeB.of (.iptr (.lit (.int .i64 t53.At))) ?_ ?_
                                                                                  · conv => whnf
                                                                                    rfl
                                                                                  · conv => whnf
                                                                                    refine DNodeB.of (.lit (.int .i64 t53.At)) ?_ ?_
                                                                                    · conv => whnf
                                                                                      rfl
                                                                                    · obtain ⟨t56, et56, hs0_21⟩ := letk_elim hs0_20; clear hs0_20
                                                                                      conv => whnf
                                                                                      refine DNodeB.of (.lit (.bool t56)) ?_ ?_
                                                                                      · conv => whnf
                                                                                        refine Nm.mk ⟨t56, et56, ?_⟩
                                                                                        conv => whnf
                                                                                        rfl
                                                                                      · conv => whnf
                                                                                        refine DNodeB.of (.lit (.bool t56)) ?_ ?_
                                                                                        · conv => whnf
                                                                                          rfl
                                                                                        · conv => whnf
                                                                                          refine DNodeB.of (.lit (.bool t56)) ?_ ?_
                                                                                          · conv => whnf
                                                                                            rfl
                                                                                          · rcases t56 with _ | _
                                                                                            · have hs0_22 := bif_f hs0_21
                                                                                              clear hs0_21
                                                                                              obtain ⟨t18_1, et18_1, hs0_23⟩ := letk_elim hs0_22; clear hs0_22
                                                                                              conv => whnf
                                                                                              refine Nm.mk ⟨t18_1, et18_1, ?_⟩
                                                                                              exact BackS.of (Sees.of (Weak.objs (keep := []) (frz := []) (m := 0) (ts := [(0, .vs 3 (a0.map (api.Line.enc))), (1, .vs 3 (b1.map (api.Line.enc))), (2, .lit (.bool true)), (7, .lit (.int .i64 t18_1))]) (hs := []) rfl (by decide) rfl rfl ⟨rfl, fun _ h => by cases h⟩ ⟨(.same (.vs 3 (a0.map (api.Line.enc))) rfl), (.same (.vs 3 (b1.map (api.Line.enc))) rfl), (.same (.lit (.bool true)) rfl), (.same (.lit (.int .i64 t18_1)) rfl), trivial⟩)) ⟨_, hl1 _ (Option.some.inj hs0_23).symm, rfl⟩
                                                                                            · have hs0_22 := bif_t hs0_21
                                                                                              clear hs0_21
                                                                                              have ehs0_22_0 := hr1 _ (Option.some.inj hs0_22).symm
                                                                                              subst ehs0_22_0
                                                                                              conv => whnf
                                                                                              exact Returns.pure (r := .lit (.bool false)) rfl rfl rfl rfl ⟨rfl, rfl⟩
                                                          · have hs0_15 := bif_t hs0_14
                                                            clear hs0_14
                                                            conv => whnf
                                                            refine DNodeB.of (.lit (.bool true)) ?_ ?_
                                                            · conv => whnf
                                                              rfl
                                                            · have ehs0_15_0 := hr1 _ (Option.some.inj hs0_15).symm
                                                              subst ehs0_15_0
                                                              conv => whnf
                                                              exact Returns.pure (r := .lit (.bool false)) rfl rfl rfl rfl ⟨rfl, rfl⟩
                              · have hs0_9 := bif_t hs0_8
                                clear hs0_8
                                conv => whnf
                                refine DNodeB.of (.lit (.bool true)) ?_ ?_
                                · conv => whnf
                                  rfl
                                · conv => whnf
                                  refine DNodeB.of (.lit (.bool true)) ?_ ?_
                                  · conv => whnf
                                    rfl
                                  · conv => whnf
                                    refine DNodeB.of (.lit (.bool true)) ?_ ?_
                                    · conv => whnf
                                      rfl
                                    · have ehs0_9_0 := hr1 _ (Option.some.inj hs0_9).symm
                                      subst ehs0_9_0
                                      conv => whnf
                                      exact Returns.pure (r := .lit (.bool false)) rfl rfl rfl rfl ⟨rfl, rfl⟩
  · have h4 := bif_t h3
    clear h3
    have eh4_0 := Option.some.inj h4
    subst eh4_0
    conv => whnf
    exact Returns.pure (r := .lit (.bool false)) rfl rfl rfl rfl ⟨rfl, rfl⟩

noncomputable def Law3.FormOlds (text0 : ByteArray) : Option Bool :=
  letk ((text0.size : Int)) fun t10 =>
  letk (decide (t10 > (9000 : Int))) fun t11 =>
  bif t11 then
    Option.bind (Law3.Awake) fun t12 =>
    some t12
  else
    Option.bind (Src.Old text0) fun (t15_0, t15_1, t15_2) =>
    Option.bind (Ref3.Old text0) fun (t21_0, t21_1, t21_2) =>
    letk (t15_1 == t21_1) fun t27 =>
    bif t27 then
      letk (t15_2 == t21_2) fun t31 =>
      bif t31 then
        Option.bind (Ref3.SameLines t15_0 t21_0 true) fun t36 =>
        bif t36 then
          Option.bind (Law3.Awake) fun t39 =>
          some t39
        else
          some false
      else
        some false
    else
      some false

theorem Law3.FormOlds_ok {text0 : ByteArray} {r : Bool} (h0 : Law3.FormOlds text0 = some r) : Gives Tryz.prog 3 [.lit (.string text0)] (.lit (.bool r)) := by
  unfold Law3.FormOlds at h0
  refine ACalls.of_swp Tryz.func3 rfl (by decide) rfl (st0 := ⟨41, [(0, .lit (.string text0))], []⟩) rfl (bwp_ok (C := []) ?_)
  obtain ⟨t10, et10, h1⟩ := letk_elim h0; clear h0
  conv => whnf
  refine Nm.mk ⟨t10, et10, ?_⟩
  obtain ⟨t11, et11, h2⟩ := letk_elim h1; clear h1
  conv => whnf
  refine Nm.mk ⟨t11, et11, ?_⟩
  rcases t11 with _ | _
  · have h3 := bif_f h2
    clear h2
    obtain ⟨⟨t15_0, t15_1, t15_2⟩, et15, h4⟩ := bind_elim h3; clear h3
    conv => whnf
    refine Gate.go ?_
    conv => whnf
    refine CallN.by (v := .tup [.vs 3 (t15_0.map (api.Line.enc)), .lit (.int .i64 t15_1), .lit (.int .i64 t15_2)]) (Src.Old_ok et15) rfl rfl ?_
    obtain ⟨⟨t21_0, t21_1, t21_2⟩, et21, h5⟩ := bind_elim h4; clear h4
    conv => whnf
    refine Gate.go ?_
    conv => whnf
    refine CallN.by (v := .tup [.vs 3 (t21_0.map (api.Line.enc)), .lit (.int .i64 t21_1), .lit (.int .i64 t21_2)]) (Ref3.Old_ok et21) rfl rfl ?_
    obtain ⟨t27, et27, h6⟩ := letk_elim h5; clear h5
    conv => whnf
    refine Nm.mk ⟨t27, et27, ?_⟩
    rcases t27 with _ | _
    · have h7 := bif_f h6
      clear h6
      have eh7_0 := Option.some.inj h7
      subst eh7_0
      conv => whnf
      exact Returns.pure (r := .lit (.bool false)) rfl rfl rfl rfl ⟨rfl, rfl⟩
    · have h7 := bif_t h6
      clear h6
      obtain ⟨t31, et31, h8⟩ := letk_elim h7; clear h7
      conv => whnf
      refine Nm.mk ⟨t31, et31, ?_⟩
      rcases t31 with _ | _
      · have h9 := bif_f h8
        clear h8
        have eh9_0 := Option.some.inj h9
        subst eh9_0
        conv => whnf
        exact Returns.pure (r := .lit (.bool false)) rfl rfl rfl rfl ⟨rfl, rfl⟩
      · have h9 := bif_t h8
        clear h8
        obtain ⟨t36, et36, h10⟩ := bind_elim h9; clear h9
        conv => whnf
        refine Gate.go ?_
        conv => whnf
        refine CallN.by (v := .lit (.bool t36)) (Ref3.SameLines_ok et36) rfl rfl ?_
        rcases t36 with _ | _
        · have h11 := bif_f h10
          clear h10
          have eh11_0 := Option.some.inj h11
          subst eh11_0
          conv => whnf
          exact Returns.pure (r := .lit (.bool false)) rfl rfl rfl rfl ⟨rfl, rfl⟩
        · have h11 := bif_t h10
          clear h10
          obtain ⟨t39, et39, h12⟩ := bind_elim h11; clear h11
          conv => whnf
          refine Gate.go ?_
          conv => whnf
          refine CallN.by (v := .lit (.bool t39)) (Law3.Awake_ok et39) rfl rfl ?_
          have eh12_0 := Option.some.inj h12
          subst eh12_0
          conv => whnf
          exact Returns.pure (r := .lit (.bool t39)) rfl rfl rfl rfl ⟨rfl, rfl⟩
  · have h3 := bif_t h2
    clear h2
    obtain ⟨t12, et12, h4⟩ := bind_elim h3; clear h3
    conv => whnf
    refine Gate.go ?_
    conv => whnf
    refine CallN.by (v := .lit (.bool t12)) (Law3.Awake_ok et12) rfl rfl ?_
    have eh4_0 := Option.some.inj h4
    subst eh4_0
    conv => whnf
    exact Returns.pure (r := .lit (.bool t12)) rfl rfl rfl rfl ⟨rfl, rfl⟩

end Go.Q
