import Derived.Test.YthdklcpkoeehnaaGreatDoorGT2
import Derived.Test.YthdklcpkoeehnaaGreatDoorGR1
import Derived.Test.YthdklcpkoeehnaaGreatDoorProg
namespace Go.Q
open Go Go.Proofs
set_option maxRecDepth 10000
set_option maxHeartbeats 2000000

noncomputable def Law4.Awake  : Option Bool :=
  Option.bind (Tok.Scan ⟨#[97, 40, 49, 58, 50, 41, 61, 98, 37, 99]⟩) fun (t5_0, t5_1, t5_2) =>
  letk ((t5_0.length : Int)) fun t10 =>
  letk (t10 == (10 : Int)) fun t11 =>
  bif t11 then
    letk (t5_1 == (0 : Int)) fun t14 =>
    bif t14 then
      letk (t5_2 == (0 : Int)) fun t18 =>
      bif t18 then
        chk (0 ≤ (3 : Int)) <|
        Option.bind (t5_0[(3 : Int).toNat]?) fun t22 =>
        letk (((t22.Kind.toList == (⟨#[111, 112]⟩ : ByteArray).toList) && ((t22.Text.toList == (⟨#[58]⟩ : ByteArray).toList) && true))) fun t25 =>
        bif t25 then
          chk (0 ≤ (4 : Int)) <|
          Option.bind (t5_0[(4 : Int).toNat]?) fun t29 =>
          letk (t29.Kind.toList == (⟨#[105, 110, 116]⟩ : ByteArray).toList) fun t32 =>
          some t32
        else
          some false
      else
        some false
    else
      some false
  else
    some false

theorem Law4.Awake_ok {r : Bool} (h0 : Law4.Awake = some r) : Gives Tryz.prog 5 [] (.lit (.bool r)) := by
  unfold Law4.Awake at h0
  refine ACalls.of_swp Tryz.func5 rfl (by decide) rfl (st0 := ⟨34, [], []⟩) rfl (bwp_ok (C := []) ?_)
  obtain ⟨⟨t5_0, t5_1, t5_2⟩, et5, h1⟩ := bind_elim h0; clear h0
  conv => whnf
  refine Gate.go ?_
  conv => whnf
  refine CallN.by (v := .tup [.vs 2 (t5_0.map (api.Token.enc)), .lit (.int .i64 t5_1), .lit (.int .i64 t5_2)]) (Tok.Scan_ok et5) rfl rfl ?_
  obtain ⟨t10, et10, h2⟩ := letk_elim h1; clear h1
  conv => whnf
  refine Nm.mk ⟨t10, by rw [et10, List.length_map], ?_⟩
  obtain ⟨t11, et11, h3⟩ := letk_elim h2; clear h2
  conv => whnf
  refine Nm.mk ⟨t11, et11, ?_⟩
  rcases t11 with _ | _
  · have h4 := bif_f h3
    clear h3
    have eh4_0 := Option.some.inj h4
    subst eh4_0
    conv => whnf
    exact Returns.pure (r := .lit (.bool false)) rfl rfl rfl rfl ⟨rfl, rfl⟩
  · have h4 := bif_t h3
    clear h3
    obtain ⟨t14, et14, h5⟩ := letk_elim h4; clear h4
    conv => whnf
    refine Nm.mk ⟨t14, et14, ?_⟩
    rcases t14 with _ | _
    · have h6 := bif_f h5
      clear h5
      have eh6_0 := Option.some.inj h6
      subst eh6_0
      conv => whnf
      exact Returns.pure (r := .lit (.bool false)) rfl rfl rfl rfl ⟨rfl, rfl⟩
    · have h6 := bif_t h5
      clear h5
      obtain ⟨t18, et18, h7⟩ := letk_elim h6; clear h6
      conv => whnf
      refine Nm.mk ⟨t18, et18, ?_⟩
      rcases t18 with _ | _
      · have h8 := bif_f h7
        clear h7
        have eh8_0 := Option.some.inj h8
        subst eh8_0
        conv => whnf
        exact Returns.pure (r := .lit (.bool false)) rfl rfl rfl rfl ⟨rfl, rfl⟩
      · have h8 := bif_t h7
        clear h7
        obtain ⟨ch9, h9⟩ := chk_elim h8; clear h8
        obtain ⟨t22, et22, h10⟩ := bind_elim h9; clear h9
        conv => whnf
        refine Side.mk ch9 ?_
        conv => whnf
        refine At.by et22 ?_
        conv => whnf
        refine Gate.go ?_
        conv => whnf
        refine Nm.mk ⟨[.lit (.string (⟨#[111, 112]⟩)), .lit (.string (⟨#[58]⟩))], rfl, ?_⟩
        obtain ⟨t25, et25, h11⟩ := letk_elim h10; clear h10
        conv => whnf
        refine EqS.mk ⟨[.s, .s], by kernel_rfl, ?_⟩
        conv => whnf
        refine Nm.mk ⟨t25, et25, ?_⟩
        rcases t25 with _ | _
        · have h12 := bif_f h11
          clear h11
          have eh12_0 := Option.some.inj h12
          subst eh12_0
          conv => whnf
          exact Returns.pure (r := .lit (.bool false)) rfl rfl rfl rfl ⟨rfl, rfl⟩
        · have h12 := bif_t h11
          clear h11
          obtain ⟨ch13, h13⟩ := chk_elim h12; clear h12
          obtain ⟨t29, et29, h14⟩ := bind_elim h13; clear h13
          conv => whnf
          refine Side.mk ch13 ?_
          conv => whnf
          refine At.by et29 ?_
          obtain ⟨t32, et32, h15⟩ := letk_elim h14; clear h14
          conv => whnf
          refine Nm.mk ⟨t32, et32, ?_⟩
          have eh15_0 := Option.some.inj h15
          subst eh15_0
          conv => whnf
          exact Returns.pure (r := .lit (.bool t32)) rfl rfl rfl rfl ⟨rfl, rfl⟩

noncomputable def Law4.TokenValids.s0 (t44_0 : List api.Token) (t44_2 : Int) (i8 : Int) : Option (Int ⊕ Bool) :=
  letk ((t44_0.length : Int)) fun t50 =>
  letk (decide (i8 < t50)) fun t51 =>
  bif t51 then
    letk (t44_2 != (0 : Int)) fun t55 =>
    bif t55 then
      some (.inr false)
    else
      chk (0 ≤ i8) <|
      Option.bind (t44_0[i8.toNat]?) fun t59 =>
      Option.bind (Tok.Valid t59) fun t61 =>
      letk (!t61) fun t62 =>
      bif t62 then
        some (.inr false)
      else
        letk (IntKind.i64.wrap (i8 + (1 : Int))) fun t53 =>
        some (.inl t53)
  else
    ((
    Option.bind (Law4.Awake) fun t64 =>
    some t64)).map .inr

noncomputable def Law4.TokenValids.l0 (t44_0 : List api.Token) (t44_2 : Int) (i8 : Int) : Option Bool := loopO (fun v : Int => Law4.TokenValids.s0 t44_0 t44_2 v) i8
theorem Law4.TokenValids.l0_eq (t44_0 : List api.Token) (t44_2 : Int) (i8 : Int) : Law4.TokenValids.l0 t44_0 t44_2 i8 = (Law4.TokenValids.s0 t44_0 t44_2 i8).bind (Sum.elim (fun v => Law4.TokenValids.l0 t44_0 t44_2 v) some) := loopO_eq _ _

noncomputable def Law4.TokenValids.j1 (text1 : ByteArray) : Option Bool :=
  Option.bind (Tok.Scan text1) fun (t44_0, t44_1, t44_2) =>
  Law4.TokenValids.l0 t44_0 t44_2 0

noncomputable def Law4.TokenValids.j0 (text1 : ByteArray) (t2_0 : ByteArray) (t2_1 : ByteArray) : Option Bool :=
  Option.bind (Tok.Valid (⟨t2_0, t2_1⟩ : api.Token)) fun t20 =>
  Option.bind (Ref4.Valid (⟨t2_0, t2_1⟩ : api.Token)) fun t22 =>
  letk (!(t20 == t22)) fun t23 =>
  bif t23 then
    some false
  else
    Option.bind (Tok.IsName t2_1) fun t27 =>
    Option.bind (Ref4.IsName t2_1) fun t30 =>
    letk (!(t27 == t30)) fun t31 =>
    bif t31 then
      some false
    else
      Option.bind (Tok.Kind8 t2_1) fun t36 =>
      Option.bind (Ref4.Kind8 t2_1) fun t39 =>
      letk (!(t36 == t39)) fun t40 =>
      bif t40 then
        some false
      else
        Law4.TokenValids.j1 text1

noncomputable def Law4.TokenValids (t0 : api.Token) (text1 : ByteArray) : Option Bool :=
  letk ((t0.Text.size : Int)) fun t11 =>
  letk (decide (t11 > (300 : Int))) fun t12 =>
  bif t12 then
    Option.bind (Law4.Awake) fun t18_1 =>
    some t18_1
  else
    letk ((text1.size : Int)) fun t15 =>
    letk (decide (t15 > (300 : Int))) fun t16 =>
    bif t16 then
      Option.bind (Law4.Awake) fun t18 =>
      some t18
    else
      Law4.TokenValids.j0 text1 t0.Kind t0.Text

theorem Law4.TokenValids_ok {t0 : api.Token} {text1 : ByteArray} {r : Bool} (h0 : Law4.TokenValids t0 text1 = some r) : Gives Tryz.prog 3 [api.Token.enc t0, .lit (.string text1)] (.lit (.bool r)) := by
  unfold Law4.TokenValids at h0
  refine ACalls.of_swp Tryz.func3 rfl (by decide) rfl (st0 := ⟨65, [(0, api.Token.enc t0), (1, .lit (.string text1))], []⟩) rfl (bwp_ok (C := [(0, 3), (0, 5)]) ?_)
  conv => whnf
  refine Nm.mk ⟨[.lit (.string t0.Kind), .lit (.string t0.Text)], rfl, ?_⟩
  conv => whnf
  refine CutN.of (fun s => ∃ (t2_0 : ByteArray) (t2_1 : ByteArray), Law4.TokenValids.j0 text1 t2_0 t2_1 = some r ∧ s = (⟨65, [(1, .lit (.string text1)), (2, .ptr 0 0)], [.box [.lit (.string t2_0), .lit (.string t2_1)]]⟩ : St)) ?_ ?_
  · obtain ⟨t11, et11, h1⟩ := letk_elim h0; clear h0
    conv => whnf
    refine Nm.mk ⟨t11, et11, ?_⟩
    obtain ⟨t12, et12, h2⟩ := letk_elim h1; clear h1
    conv => whnf
    refine Nm.mk ⟨t12, et12, ?_⟩
    rcases t12 with _ | _
    · have h3 := bif_f h2
      clear h2
      obtain ⟨t15, et15, h4⟩ := letk_elim h3; clear h3
      conv => whnf
      refine Nm.mk ⟨t15, et15, ?_⟩
      obtain ⟨t16, et16, h5⟩ := letk_elim h4; clear h4
      conv => whnf
      refine Nm.mk ⟨t16, et16, ?_⟩
      rcases t16 with _ | _
      · have h6 := bif_f h5
        clear h5
        exact BackS.of (Sees.of (Weak.objs (keep := [0]) (frz := []) (m := 0) (ts := [(1, .lit (.string text1)), (2, .ptr 0 0)]) (hs := [.box [.lit (.string t0.Kind), .lit (.string t0.Text)]]) rfl (by decide) rfl rfl ⟨⟨_, rfl, WO.boxs ⟨(.same (.lit (.string t0.Kind)) rfl), (.same (.lit (.string t0.Text)) rfl), trivial⟩⟩, ⟨rfl, fun _ h => by cases h⟩⟩ ⟨(.same (.lit (.string text1)) rfl), (.ptr _ _ 0 rfl), trivial⟩)) ⟨_, _, h6, rfl⟩
      · have h6 := bif_t h5
        clear h5
        obtain ⟨t18, et18, h7⟩ := bind_elim h6; clear h6
        conv => whnf
        refine Gate.go ?_
        conv => whnf
        refine CallN.by (v := .lit (.bool t18)) (Law4.Awake_ok et18) rfl rfl ?_
        have eh7_0 := Option.some.inj h7
        subst eh7_0
        conv => whnf
        exact Returns.pure (r := .lit (.bool t18)) rfl rfl rfl rfl ⟨rfl, rfl⟩
    · have h3 := bif_t h2
      clear h2
      obtain ⟨t18_1, et18_1, h4⟩ := bind_elim h3; clear h3
      conv => whnf
      refine Gate.go ?_
      conv => whnf
      refine CallN.by (v := .lit (.bool t18_1)) (Law4.Awake_ok et18_1) rfl rfl ?_
      have eh4_0 := Option.some.inj h4
      subst eh4_0
      conv => whnf
      exact Returns.pure (r := .lit (.bool t18_1)) rfl rfl rfl rfl ⟨rfl, rfl⟩
  · clear h0
    rintro s ⟨t2_0, t2_1, hj0, rfl⟩
    unfold Law4.TokenValids.j0 at hj0
    conv => whnf
    refine CutN.of (fun s => Law4.TokenValids.j1 text1 = some r ∧ s = (⟨65, [(1, .lit (.string text1))], []⟩ : St)) ?_ ?_
    · conv => whnf
      refine DrawB.of Tryz_mixed rfl ?_
      conv => whnf
      refine DNodeB.of (.agg [.lit (.string t2_0), .lit (.string t2_1)]) ?_ ?_
      · conv => whnf
        rfl
      · obtain ⟨t20, et20, hj1⟩ := bind_elim hj0; clear hj0
        conv => whnf
        refine DNodeB.of (.lit (.bool t20)) ?_ ?_
        · conv => whnf
          refine CallN.by (v := .lit (.bool t20)) (Tok.Valid_ok et20) rfl rfl ?_
          conv => whnf
          rfl
        · conv => whnf
          refine DNodeB.of (.agg [.lit (.string t2_0), .lit (.string t2_1)]) ?_ ?_
          · conv => whnf
            rfl
          · obtain ⟨t22, et22, hj2⟩ := bind_elim hj1; clear hj1
            conv => whnf
            refine DNodeB.of (.lit (.bool t22)) ?_ ?_
            · conv => whnf
              refine CallN.by (v := .lit (.bool t22)) (Ref4.Valid_ok et22) rfl rfl ?_
              conv => whnf
              rfl
            · obtain ⟨t23, et23, hj3⟩ := letk_elim hj2; clear hj2
              conv => whnf
              refine DNodeB.of (.lit (.bool t23)) ?_ ?_
              · conv => whnf
                refine Nm.mk ⟨t23, et23, ?_⟩
                conv => whnf
                rfl
              · conv => whnf
                refine DNodeB.of (.lit (.bool t23)) ?_ ?_
                · conv => whnf
                  rfl
                · rcases t23 with _ | _
                  · have hj4 := bif_f hj3
                    clear hj3
                    conv => whnf
                    refine DNodeB.of (.ptr 0 1) ?_ ?_
                    · conv => whnf
                      rfl
                    · conv => whnf
                      refine DNodeB.of (.lit (.string t2_1)) ?_ ?_
                      · conv => whnf
                        rfl
                      · obtain ⟨t27, et27, hj5⟩ := bind_elim hj4; clear hj4
                        conv => whnf
                        refine DNodeB.of (.lit (.bool t27)) ?_ ?_
                        · conv => whnf
                          refine CallN.by (v := .lit (.bool t27)) (Tok.IsName_ok et27) rfl rfl ?_
                          conv => whnf
                          rfl
                        · conv => whnf
                          refine DNodeB.of (.ptr 0 1) ?_ ?_
                          · conv => whnf
                            rfl
                          · conv => whnf
                            refine DNodeB.of (.lit (.string t2_1)) ?_ ?_
                            · conv => whnf
                              rfl
                            · obtain ⟨t30, et30, hj6⟩ := bind_elim hj5; clear hj5
                              conv => whnf
                              refine DNodeB.of (.lit (.bool t30)) ?_ ?_
                              · conv => whnf
                                refine CallN.by (v := .lit (.bool t30)) (Ref4.IsName_ok et30) rfl rfl ?_
                                conv => whnf
                                rfl
                              · obtain ⟨t31, et31, hj7⟩ := letk_elim hj6; clear hj6
                                conv => whnf
                                refine DNodeB.of (.lit (.bool t31)) ?_ ?_
                                · conv => whnf
                                  refine Nm.mk ⟨t31, et31, ?_⟩
                                  conv => whnf
                                  rfl
                                · conv => whnf
                                  refine DNodeB.of (.lit (.bool t31)) ?_ ?_
                                  · conv => whnf
                                    rfl
                                  · conv => whnf
                                    refine DNodeB.of (.lit (.bool t31)) ?_ ?_
                                    · conv => whnf
                                      rfl
                                    · rcases t31 with _ | _
                                      · have hj8 := bif_f hj7
                                        clear hj7
                                        conv => whnf
                                        refine DNodeB.of (.ptr 0 1) ?_ ?_
                                        · conv => whnf
                                          rfl
                                        · conv => whnf
                                          refine DNodeB.of (.lit (.string t2_1)) ?_ ?_
                                          · conv => whnf
                                            rfl
                                          · obtain ⟨t36, et36, hj9⟩ := bind_elim hj8; clear hj8
                                            conv => whnf
                                            refine DNodeB.of (.lit (.bool t36)) ?_ ?_
                                            · conv => whnf
                                              refine CallN.by (v := .lit (.bool t36)) (Tok.Kind8_ok et36) rfl rfl ?_
                                              conv => whnf
                                              rfl
                                            · conv => whnf
                                              refine DNodeB.of (.ptr 0 1) ?_ ?_
                                              · conv => whnf
                                                rfl
                                              · conv => whnf
                                                refine DNodeB.of (.lit (.string t2_1)) ?_ ?_
                                                · conv => whnf
                                                  rfl
                                                · obtain ⟨t39, et39, hj10⟩ := bind_elim hj9; clear hj9
                                                  conv => whnf
                                                  refine DNodeB.of (.lit (.bool t39)) ?_ ?_
                                                  · conv => whnf
                                                    refine CallN.by (v := .lit (.bool t39)) (Ref4.Kind8_ok et39) rfl rfl ?_
                                                    conv => whnf
                                                    rfl
                                                  · obtain ⟨t40, et40, hj11⟩ := letk_elim hj10; clear hj10
                                                    conv => whnf
                                                    refine DNodeB.of (.lit (.bool t40)) ?_ ?_
                                                    · conv => whnf
                                                      refine Nm.mk ⟨t40, et40, ?_⟩
                                                      conv => whnf
                                                      rfl
                                                    · conv => whnf
                                                      refine DNodeB.of (.lit (.bool t40)) ?_ ?_
                                                      · conv => whnf
                                                        rfl
                                                      · rcases t40 with _ | _
                                                        · have hj12 := bif_f hj11
                                                          clear hj11
                                                          exact BackS.of (Sees.of (Weak.objs (keep := []) (frz := []) (m := 0) (ts := [(1, .lit (.string text1))]) (hs := []) rfl (by decide) rfl rfl ⟨rfl, fun _ h => by cases h⟩ ⟨(.same (.lit (.string text1)) rfl), trivial⟩)) ⟨hj12, rfl⟩
                                                        · have hj12 := bif_t hj11
                                                          clear hj11
                                                          have ehj12_0 := Option.some.inj hj12
                                                          subst ehj12_0
                                                          conv => whnf
                                                          exact Returns.pure (r := .lit (.bool false)) rfl rfl rfl rfl ⟨rfl, rfl⟩
                                      · have hj8 := bif_t hj7
                                        clear hj7
                                        conv => whnf
                                        refine DNodeB.of (.lit (.bool true)) ?_ ?_
                                        · conv => whnf
                                          rfl
                                        · have ehj8_0 := Option.some.inj hj8
                                          subst ehj8_0
                                          conv => whnf
                                          exact Returns.pure (r := .lit (.bool false)) rfl rfl rfl rfl ⟨rfl, rfl⟩
                  · have hj4 := bif_t hj3
                    clear hj3
                    conv => whnf
                    refine DNodeB.of (.lit (.bool true)) ?_ ?_
                    · conv => whnf
                      rfl
                    · conv => whnf
                      refine DNodeB.of (.lit (.bool true)) ?_ ?_
                      · conv => whnf
                        rfl
                      · conv => whnf
                        refine DNodeB.of (.lit (.bool true)) ?_ ?_
                        · conv => whnf
                          rfl
                        · have ehj4_0 := Option.some.inj hj4
                          subst ehj4_0
                          conv => whnf
                          exact Returns.pure (r := .lit (.bool false)) rfl rfl rfl rfl ⟨rfl, rfl⟩
    · clear hj0
      rintro s ⟨hj0, rfl⟩
      unfold Law4.TokenValids.j1 at hj0
      obtain ⟨⟨t44_0, t44_1, t44_2⟩, et44, hj1⟩ := bind_elim hj0; clear hj0
      conv => whnf
      refine Gate.go ?_
      conv => whnf
      refine CallN.by (v := .tup [.vs 2 (t44_0.map (api.Token.enc)), .lit (.int .i64 t44_1), .lit (.int .i64 t44_2)]) (Tok.Scan_ok et44) rfl rfl ?_
      conv => whnf
      unfold Law4.TokenValids.l0 at hj1
      refine LoopB.of (σ := Int) (ρ := Bool) (fun v : Int => Law4.TokenValids.s0 t44_0 t44_2 v) (fun v => (⟨65, [(5, .vs 2 (t44_0.map (api.Token.enc))), (7, .lit (.int .i64 t44_2)), (8, .lit (.int .i64 v))], []⟩ : St)) 0 hj1 (BackS.of (Sees.of (Weak.objs (keep := []) (frz := []) (m := 0) (ts := [(5, .vs 2 (t44_0.map (api.Token.enc))), (7, .lit (.int .i64 t44_2)), (8, .lit (.int .i64 0))]) (hs := []) rfl (by decide) rfl rfl ⟨rfl, fun _ h => by cases h⟩ ⟨(.same (.vs 2 (t44_0.map (api.Token.enc))) rfl), (.same (.lit (.int .i64 t44_2)) rfl), (.same (.lit (.int .i64 0)) rfl), trivial⟩)) rfl) ?_
      clear hj1
      rintro K1 i8 x1 hs0_0 hl1 hr1
      replace hs0_0 : Law4.TokenValids.s0 t44_0 t44_2 i8 = some x1 := hs0_0
      unfold Law4.TokenValids.s0 at hs0_0
      change bwp _ _ _ _ _ (⟨65, [(5, .vs 2 (t44_0.map (api.Token.enc))), (7, .lit (.int .i64 t44_2)), (8, .lit (.int .i64 i8))], []⟩ : St)
      obtain ⟨t50, et50, hs0_1⟩ := letk_elim hs0_0; clear hs0_0
      conv => whnf
      refine Nm.mk ⟨t50, by rw [et50, List.length_map], ?_⟩
      obtain ⟨t51, et51, hs0_2⟩ := letk_elim hs0_1; clear hs0_1
      conv => whnf
      refine Nm.mk ⟨t51, et51, ?_⟩
      rcases t51 with _ | _
      · have hs0_3 := bif_f hs0_2
        clear hs0_2
        obtain ⟨yhs0_3_0, hs0_3u, ehs0_3_0⟩ := map_elim hs0_3
        have ehs0_3_0 := (hr1 _ ehs0_3_0.symm).symm
        subst ehs0_3_0
        obtain ⟨t64, et64, hs0_3u0⟩ := bind_elim hs0_3u; clear hs0_3u
        conv => whnf
        refine Gate.go ?_
        conv => whnf
        refine CallN.by (v := .lit (.bool t64)) (Law4.Awake_ok et64) rfl rfl ?_
        have ehs0_3u0_0 := Option.some.inj hs0_3u0
        subst ehs0_3u0_0
        conv => whnf
        exact Returns.pure (r := .lit (.bool t64)) rfl rfl rfl rfl ⟨rfl, rfl⟩
      · have hs0_3 := bif_t hs0_2
        clear hs0_2
        obtain ⟨t55, et55, hs0_4⟩ := letk_elim hs0_3; clear hs0_3
        conv => whnf
        refine Nm.mk ⟨t55, et55, ?_⟩
        rcases t55 with _ | _
        · have hs0_5 := bif_f hs0_4
          clear hs0_4
          obtain ⟨chs0_6, hs0_6⟩ := chk_elim hs0_5; clear hs0_5
          obtain ⟨t59, et59, hs0_7⟩ := bind_elim hs0_6; clear hs0_6
          conv => whnf
          refine Side.mk chs0_6 ?_
          conv => whnf
          refine At.by et59 ?_
          obtain ⟨t61, et61, hs0_8⟩ := bind_elim hs0_7; clear hs0_7
          conv => whnf
          refine Gate.go ?_
          conv => whnf
          refine CallN.by (v := .lit (.bool t61)) (Tok.Valid_ok et61) rfl rfl ?_
          obtain ⟨t62, et62, hs0_9⟩ := letk_elim hs0_8; clear hs0_8
          conv => whnf
          refine Nm.mk ⟨t62, et62, ?_⟩
          rcases t62 with _ | _
          · have hs0_10 := bif_f hs0_9
            clear hs0_9
            obtain ⟨t53, et53, hs0_11⟩ := letk_elim hs0_10; clear hs0_10
            conv => whnf
            refine Nm.mk ⟨t53, et53, ?_⟩
            exact BackS.of (Sees.of (Weak.objs (keep := []) (frz := []) (m := 0) (ts := [(5, .vs 2 (t44_0.map (api.Token.enc))), (7, .lit (.int .i64 t44_2)), (8, .lit (.int .i64 t53))]) (hs := []) rfl (by decide) rfl rfl ⟨rfl, fun _ h => by cases h⟩ ⟨(.same (.vs 2 (t44_0.map (api.Token.enc))) rfl), (.same (.lit (.int .i64 t44_2)) rfl), (.same (.lit (.int .i64 t53)) rfl), trivial⟩)) ⟨_, hl1 _ (Option.some.inj hs0_11).symm, rfl⟩
          · have hs0_10 := bif_t hs0_9
            clear hs0_9
            have ehs0_10_0 := hr1 _ (Option.some.inj hs0_10).symm
            subst ehs0_10_0
            conv => whnf
            exact Returns.pure (r := .lit (.bool false)) rfl rfl rfl rfl ⟨rfl, rfl⟩
        · have hs0_5 := bif_t hs0_4
          clear hs0_4
          have ehs0_5_0 := hr1 _ (Option.some.inj hs0_5).symm
          subst ehs0_5_0
          conv => whnf
          exact Returns.pure (r := .lit (.bool false)) rfl rfl rfl rfl ⟨rfl, rfl⟩

noncomputable def Law4.TokenWrites.j0 (l0 : List api.Token) (t31_0 : ByteArray) (t31_1 : Int) : Option Bool :=
  letk (t31_1 != (0 : Int)) fun t48 =>
  bif t48 then
    Option.bind (Law4.Awake) fun t49 =>
    some t49
  else
    Option.bind (Tok.Scan t31_0) fun (t52_0, t52_1, t52_2) =>
    letk (t52_2 == (0 : Int)) fun t57 =>
    bif t57 then
      letk (t52_1 == (0 : Int)) fun t60 =>
      bif t60 then
        Option.bind (Tok.Same t52_0 l0) fun t65 =>
        bif t65 then
          Option.bind (Ref4.Same t52_0 l0) fun t70 =>
          bif t70 then
            Option.bind (Law4.Awake) fun t73 =>
            some t73
          else
            some false
        else
          some false
      else
        some false
    else
      some false

noncomputable def Law4.TokenWrites.s0 (l0 : List api.Token) (i3 : Int) : Option (Int ⊕ Bool) :=
  letk ((l0.length : Int)) fun t17 =>
  letk (decide (i3 < t17)) fun t18 =>
  bif t18 then
    chk (0 ≤ i3) <|
    Option.bind (l0[i3.toNat]?) fun t23 =>
    letk ((t23.Text.size : Int)) fun t26 =>
    letk (decide (t26 > (200 : Int))) fun t27 =>
    bif t27 then
      Option.bind (Law4.Awake) fun t28 =>
      some (.inr t28)
    else
      letk (IntKind.i64.wrap (i3 + (1 : Int))) fun t20 =>
      some (.inl t20)
  else
    ((
    Option.bind (Tok.Write l0) fun (t31_0, t31_1) =>
    Option.bind (Ref4.Write l0) fun (t36_0, t36_1) =>
    letk (!(t31_0.toList == t36_0.toList)) fun t41 =>
    bif t41 then
      some false
    else
      letk (t31_1 != t36_1) fun t45 =>
      bif t45 then
        some false
      else
        Law4.TokenWrites.j0 l0 t31_0 t31_1)).map .inr

noncomputable def Law4.TokenWrites.l0 (l0 : List api.Token) (i3 : Int) : Option Bool := loopO (fun v : Int => Law4.TokenWrites.s0 l0 v) i3
theorem Law4.TokenWrites.l0_eq (l0 : List api.Token) (i3 : Int) : Law4.TokenWrites.l0 l0 i3 = (Law4.TokenWrites.s0 l0 i3).bind (Sum.elim (fun v => Law4.TokenWrites.l0 l0 v) some) := loopO_eq _ _

noncomputable def Law4.TokenWrites (l0 : List api.Token) : Option Bool :=
  letk ((l0.length : Int)) fun t12 =>
  letk (decide (t12 > (100 : Int))) fun t13 =>
  bif t13 then
    Option.bind (Law4.Awake) fun t14 =>
    some t14
  else
    Law4.TokenWrites.l0 l0 0

theorem Law4.TokenWrites_ok {l0 : List api.Token} {r : Bool} (h0 : Law4.TokenWrites l0 = some r) : Gives Tryz.prog 4 [.vs 2 (l0.map (api.Token.enc))] (.lit (.bool r)) := by
  unfold Law4.TokenWrites at h0
  refine ACalls.of_swp Tryz.func4 rfl (by decide) rfl (st0 := ⟨75, [(0, .vs 2 (l0.map (api.Token.enc)))], []⟩) rfl (bwp_ok (C := [(0, 12)]) ?_)
  obtain ⟨t12, et12, h1⟩ := letk_elim h0; clear h0
  conv => whnf
  refine Nm.mk ⟨t12, by rw [et12, List.length_map], ?_⟩
  obtain ⟨t13, et13, h2⟩ := letk_elim h1; clear h1
  conv => whnf
  refine Nm.mk ⟨t13, et13, ?_⟩
  rcases t13 with _ | _
  · have h3 := bif_f h2
    clear h2
    conv => whnf
    unfold Law4.TokenWrites.l0 at h3
    refine LoopB.of (σ := Int) (ρ := Bool) (fun v : Int => Law4.TokenWrites.s0 l0 v) (fun v => (⟨75, [(0, .vs 2 (l0.map (api.Token.enc))), (3, .lit (.int .i64 v))], []⟩ : St)) 0 h3 (BackS.of (Sees.of (Weak.objs (keep := []) (frz := []) (m := 0) (ts := [(0, .vs 2 (l0.map (api.Token.enc))), (3, .lit (.int .i64 0))]) (hs := []) rfl (by decide) rfl rfl ⟨rfl, fun _ h => by cases h⟩ ⟨(.same (.vs 2 (l0.map (api.Token.enc))) rfl), (.same (.lit (.int .i64 0)) rfl), trivial⟩)) rfl) ?_
    clear h3
    rintro K1 i3 x1 hs0_0 hl1 hr1
    replace hs0_0 : Law4.TokenWrites.s0 l0 i3 = some x1 := hs0_0
    unfold Law4.TokenWrites.s0 at hs0_0
    change bwp _ _ _ _ _ (⟨75, [(0, .vs 2 (l0.map (api.Token.enc))), (3, .lit (.int .i64 i3))], []⟩ : St)
    obtain ⟨t17, et17, hs0_1⟩ := letk_elim hs0_0; clear hs0_0
    conv => whnf
    refine Nm.mk ⟨t17, by rw [et17, List.length_map], ?_⟩
    obtain ⟨t18, et18, hs0_2⟩ := letk_elim hs0_1; clear hs0_1
    conv => whnf
    refine Nm.mk ⟨t18, et18, ?_⟩
    rcases t18 with _ | _
    · have hs0_3 := bif_f hs0_2
      clear hs0_2
      obtain ⟨yhs0_3_0, hs0_3u, ehs0_3_0⟩ := map_elim hs0_3
      have ehs0_3_0 := (hr1 _ ehs0_3_0.symm).symm
      subst ehs0_3_0
      obtain ⟨⟨t31_0, t31_1⟩, et31, hs0_3u0⟩ := bind_elim hs0_3u; clear hs0_3u
      conv => whnf
      refine Gate.go ?_
      conv => whnf
      refine CallN.by (v := .tup [.lit (.string t31_0), .lit (.int .i64 t31_1)]) (Tok.Write_ok et31) rfl rfl ?_
      obtain ⟨⟨t36_0, t36_1⟩, et36, hs0_3u1⟩ := bind_elim hs0_3u0; clear hs0_3u0
      conv => whnf
      refine Gate.go ?_
      conv => whnf
      refine CallN.by (v := .tup [.lit (.string t36_0), .lit (.int .i64 t36_1)]) (Ref4.Write_ok et36) rfl rfl ?_
      conv => whnf
      refine CutN.of (fun s => Law4.TokenWrites.j0 l0 t31_0 t31_1 = some r ∧ s = (⟨75, [(0, .vs 2 (l0.map (api.Token.enc))), (4, .lit (.string t31_0)), (5, .lit (.int .i64 t31_1))], []⟩ : St)) ?_ ?_
      · obtain ⟨t41, et41, hs0_3u2⟩ := letk_elim hs0_3u1; clear hs0_3u1
        conv => whnf
        refine Nm.mk ⟨t41, et41, ?_⟩
        rcases t41 with _ | _
        · have hs0_3u3 := bif_f hs0_3u2
          clear hs0_3u2
          obtain ⟨t45, et45, hs0_3u4⟩ := letk_elim hs0_3u3; clear hs0_3u3
          conv => whnf
          refine Nm.mk ⟨t45, et45, ?_⟩
          rcases t45 with _ | _
          · have hs0_3u5 := bif_f hs0_3u4
            clear hs0_3u4
            exact BackS.of (Sees.of (Weak.objs (keep := []) (frz := []) (m := 0) (ts := [(0, .vs 2 (l0.map (api.Token.enc))), (4, .lit (.string t31_0)), (5, .lit (.int .i64 t31_1))]) (hs := []) rfl (by decide) rfl rfl ⟨rfl, fun _ h => by cases h⟩ ⟨(.same (.vs 2 (l0.map (api.Token.enc))) rfl), (.same (.lit (.string t31_0)) rfl), (.same (.lit (.int .i64 t31_1)) rfl), trivial⟩)) ⟨hs0_3u5, rfl⟩
          · have hs0_3u5 := bif_t hs0_3u4
            clear hs0_3u4
            have ehs0_3u5_0 := Option.some.inj hs0_3u5
            subst ehs0_3u5_0
            conv => whnf
            exact Returns.pure (r := .lit (.bool false)) rfl rfl rfl rfl ⟨rfl, rfl⟩
        · have hs0_3u3 := bif_t hs0_3u2
          clear hs0_3u2
          have ehs0_3u3_0 := Option.some.inj hs0_3u3
          subst ehs0_3u3_0
          conv => whnf
          exact Returns.pure (r := .lit (.bool false)) rfl rfl rfl rfl ⟨rfl, rfl⟩
      · clear hs0_3u1
        rintro s ⟨hj0, rfl⟩
        unfold Law4.TokenWrites.j0 at hj0
        obtain ⟨t48, et48, hj1⟩ := letk_elim hj0; clear hj0
        conv => whnf
        refine Nm.mk ⟨t48, et48, ?_⟩
        rcases t48 with _ | _
        · have hj2 := bif_f hj1
          clear hj1
          obtain ⟨⟨t52_0, t52_1, t52_2⟩, et52, hj3⟩ := bind_elim hj2; clear hj2
          conv => whnf
          refine Gate.go ?_
          conv => whnf
          refine CallN.by (v := .tup [.vs 2 (t52_0.map (api.Token.enc)), .lit (.int .i64 t52_1), .lit (.int .i64 t52_2)]) (Tok.Scan_ok et52) rfl rfl ?_
          obtain ⟨t57, et57, hj4⟩ := letk_elim hj3; clear hj3
          conv => whnf
          refine Nm.mk ⟨t57, et57, ?_⟩
          rcases t57 with _ | _
          · have hj5 := bif_f hj4
            clear hj4
            have ehj5_0 := Option.some.inj hj5
            subst ehj5_0
            conv => whnf
            exact Returns.pure (r := .lit (.bool false)) rfl rfl rfl rfl ⟨rfl, rfl⟩
          · have hj5 := bif_t hj4
            clear hj4
            obtain ⟨t60, et60, hj6⟩ := letk_elim hj5; clear hj5
            conv => whnf
            refine Nm.mk ⟨t60, et60, ?_⟩
            rcases t60 with _ | _
            · have hj7 := bif_f hj6
              clear hj6
              have ehj7_0 := Option.some.inj hj7
              subst ehj7_0
              conv => whnf
              exact Returns.pure (r := .lit (.bool false)) rfl rfl rfl rfl ⟨rfl, rfl⟩
            · have hj7 := bif_t hj6
              clear hj6
              obtain ⟨t65, et65, hj8⟩ := bind_elim hj7; clear hj7
              conv => whnf
              refine Gate.go ?_
              conv => whnf
              refine CallN.by (v := .lit (.bool t65)) (Tok.Same_ok et65) rfl rfl ?_
              rcases t65 with _ | _
              · have hj9 := bif_f hj8
                clear hj8
                have ehj9_0 := Option.some.inj hj9
                subst ehj9_0
                conv => whnf
                exact Returns.pure (r := .lit (.bool false)) rfl rfl rfl rfl ⟨rfl, rfl⟩
              · have hj9 := bif_t hj8
                clear hj8
                obtain ⟨t70, et70, hj10⟩ := bind_elim hj9; clear hj9
                conv => whnf
                refine Gate.go ?_
                conv => whnf
                refine CallN.by (v := .lit (.bool t70)) (Ref4.Same_ok et70) rfl rfl ?_
                rcases t70 with _ | _
                · have hj11 := bif_f hj10
                  clear hj10
                  have ehj11_0 := Option.some.inj hj11
                  subst ehj11_0
                  conv => whnf
                  exact Returns.pure (r := .lit (.bool false)) rfl rfl rfl rfl ⟨rfl, rfl⟩
                · have hj11 := bif_t hj10
                  clear hj10
                  obtain ⟨t73, et73, hj12⟩ := bind_elim hj11; clear hj11
                  conv => whnf
                  refine Gate.go ?_
                  conv => whnf
                  refine CallN.by (v := .lit (.bool t73)) (Law4.Awake_ok et73) rfl rfl ?_
                  have ehj12_0 := Option.some.inj hj12
                  subst ehj12_0
                  conv => whnf
                  exact Returns.pure (r := .lit (.bool t73)) rfl rfl rfl rfl ⟨rfl, rfl⟩
        · have hj2 := bif_t hj1
          clear hj1
          obtain ⟨t49, et49, hj3⟩ := bind_elim hj2; clear hj2
          conv => whnf
          refine Gate.go ?_
          conv => whnf
          refine CallN.by (v := .lit (.bool t49)) (Law4.Awake_ok et49) rfl rfl ?_
          have ehj3_0 := Option.some.inj hj3
          subst ehj3_0
          conv => whnf
          exact Returns.pure (r := .lit (.bool t49)) rfl rfl rfl rfl ⟨rfl, rfl⟩
    · have hs0_3 := bif_t hs0_2
      clear hs0_2
      obtain ⟨chs0_4, hs0_4⟩ := chk_elim hs0_3; clear hs0_3
      obtain ⟨t23, et23, hs0_5⟩ := bind_elim hs0_4; clear hs0_4
      conv => whnf
      refine Side.mk chs0_4 ?_
      conv => whnf
      refine At.by et23 ?_
      obtain ⟨t26, et26, hs0_6⟩ := letk_elim hs0_5; clear hs0_5
      conv => whnf
      refine Nm.mk ⟨t26, et26, ?_⟩
      obtain ⟨t27, et27, hs0_7⟩ := letk_elim hs0_6; clear hs0_6
      conv => whnf
      refine Nm.mk ⟨t27, et27, ?_⟩
      rcases t27 with _ | _
      · have hs0_8 := bif_f hs0_7
        clear hs0_7
        obtain ⟨t20, et20, hs0_9⟩ := letk_elim hs0_8; clear hs0_8
        conv => whnf
        refine Nm.mk ⟨t20, et20, ?_⟩
        exact BackS.of (Sees.of (Weak.objs (keep := []) (frz := []) (m := 0) (ts := [(0, .vs 2 (l0.map (api.Token.enc))), (3, .lit (.int .i64 t20))]) (hs := []) rfl (by decide) rfl rfl ⟨rfl, fun _ h => by cases h⟩ ⟨(.same (.vs 2 (l0.map (api.Token.enc))) rfl), (.same (.lit (.int .i64 t20)) rfl), trivial⟩)) ⟨_, hl1 _ (Option.some.inj hs0_9).symm, rfl⟩
      · have hs0_8 := bif_t hs0_7
        clear hs0_7
        obtain ⟨t28, et28, hs0_9⟩ := bind_elim hs0_8; clear hs0_8
        conv => whnf
        refine Gate.go ?_
        conv => whnf
        refine CallN.by (v := .lit (.bool t28)) (Law4.Awake_ok et28) rfl rfl ?_
        have ehs0_9_0 := hr1 _ (Option.some.inj hs0_9).symm
        subst ehs0_9_0
        conv => whnf
        exact Returns.pure (r := .lit (.bool t28)) rfl rfl rfl rfl ⟨rfl, rfl⟩
  · have h3 := bif_t h2
    clear h2
    obtain ⟨t14, et14, h4⟩ := bind_elim h3; clear h3
    conv => whnf
    refine Gate.go ?_
    conv => whnf
    refine CallN.by (v := .lit (.bool t14)) (Law4.Awake_ok et14) rfl rfl ?_
    have eh4_0 := Option.some.inj h4
    subst eh4_0
    conv => whnf
    exact Returns.pure (r := .lit (.bool t14)) rfl rfl rfl rfl ⟨rfl, rfl⟩

end Go.Q
