import Derived.Test.YthdklcpkoeehnaaDoorGT2
import Derived.Test.YthdklcpkoeehnaaDoorGR1
import Derived.Test.YthdklcpkoeehnaaDoorProg
namespace Go.Q
open Go Go.Proofs
set_option maxRecDepth 10000
set_option maxHeartbeats 2000000

noncomputable def Law4.Awake  : Option Bool :=
  Option.bind (Tok.Scan ⟨#[97, 40, 49, 58, 50, 41, 61, 98, 37, 99]⟩) fun (t5_0, t5_1, t5_2) =>
  letk ((t5_0.length : Int)) fun t10 =>
  letk (t10 == (10 : Int)) fun t11 =>
  bif t11 then
    letk (t5_1 == (0 : Int)) fun t14 =>
    bif t14 then
      letk (t5_2 == (0 : Int)) fun t18 =>
      bif t18 then
        chk (0 ≤ (3 : Int)) <|
        Option.bind (t5_0[(3 : Int).toNat]?) fun t22 =>
        letk (((t22.Kind.toList == (⟨#[111, 112]⟩ : ByteArray).toList) && ((t22.Text.toList == (⟨#[58]⟩ : ByteArray).toList) && true))) fun t25 =>
        bif t25 then
          chk (0 ≤ (4 : Int)) <|
          Option.bind (t5_0[(4 : Int).toNat]?) fun t29 =>
          letk (t29.Kind.toList == (⟨#[105, 110, 116]⟩ : ByteArray).toList) fun t32 =>
          some t32
        else
          some false
      else
        some false
    else
      some false
  else
    some false

theorem Law4.Awake_ok {r : Bool} (h0 : Law4.Awake = some r) : Gives Tryd.prog 7 [] (.lit (.bool r)) := by
  unfold Law4.Awake at h0
  refine ACalls.of_swp Tryd.func7 rfl (by decide) rfl (st0 := ⟨34, [], []⟩) rfl (bwp_ok (C := []) ?_)
  obtain ⟨⟨t5_0, t5_1, t5_2⟩, et5, h1⟩ := bind_elim h0; clear h0
  conv => whnf
  refine Gate.go ?_
  conv => whnf
  refine CallN.by (v := .tup [.vs 2 (t5_0.map (api.Token.enc)), .lit (.int .i64 t5_1), .lit (.int .i64 t5_2)]) (Tok.Scan_ok et5) rfl rfl ?_
  obtain ⟨t10, et10, h2⟩ := letk_elim h1; clear h1
  conv => whnf
  refine Nm.mk ⟨t10, by rw [et10, List.length_map], ?_⟩
  obtain ⟨t11, et11, h3⟩ := letk_elim h2; clear h2
  conv => whnf
  refine Nm.mk ⟨t11, et11, ?_⟩
  rcases t11 with _ | _
  · have h4 := bif_f h3
    clear h3
    have eh4_0 := Option.some.inj h4
    subst eh4_0
    conv => whnf
    exact Returns.pure (r := .lit (.bool false)) rfl rfl rfl rfl ⟨rfl, rfl⟩
  · have h4 := bif_t h3
    clear h3
    obtain ⟨t14, et14, h5⟩ := letk_elim h4; clear h4
    conv => whnf
    refine Nm.mk ⟨t14, et14, ?_⟩
    rcases t14 with _ | _
    · have h6 := bif_f h5
      clear h5
      have eh6_0 := Option.some.inj h6
      subst eh6_0
      conv => whnf
      exact Returns.pure (r := .lit (.bool false)) rfl rfl rfl rfl ⟨rfl, rfl⟩
    · have h6 := bif_t h5
      clear h5
      obtain ⟨t18, et18, h7⟩ := letk_elim h6; clear h6
      conv => whnf
      refine Nm.mk ⟨t18, et18, ?_⟩
      rcases t18 with _ | _
      · have h8 := bif_f h7
        clear h7
        have eh8_0 := Option.some.inj h8
        subst eh8_0
        conv => whnf
        exact Returns.pure (r := .lit (.bool false)) rfl rfl rfl rfl ⟨rfl, rfl⟩
      · have h8 := bif_t h7
        clear h7
        obtain ⟨ch9, h9⟩ := chk_elim h8; clear h8
        obtain ⟨t22, et22, h10⟩ := bind_elim h9; clear h9
        conv => whnf
        refine Side.mk ch9 ?_
        conv => whnf
        refine At.by et22 ?_
        conv => whnf
        refine Gate.go ?_
        conv => whnf
        refine Nm.mk ⟨[.lit (.string (⟨#[111, 112]⟩)), .lit (.string (⟨#[58]⟩))], rfl, ?_⟩
        obtain ⟨t25, et25, h11⟩ := letk_elim h10; clear h10
        conv => whnf
        refine EqS.mk ⟨[.s, .s], by kernel_rfl, ?_⟩
        conv => whnf
        refine Nm.mk ⟨t25, et25, ?_⟩
        rcases t25 with _ | _
        · have h12 := bif_f h11
          clear h11
          have eh12_0 := Option.some.inj h12
          subst eh12_0
          conv => whnf
          exact Returns.pure (r := .lit (.bool false)) rfl rfl rfl rfl ⟨rfl, rfl⟩
        · have h12 := bif_t h11
          clear h11
          obtain ⟨ch13, h13⟩ := chk_elim h12; clear h12
          obtain ⟨t29, et29, h14⟩ := bind_elim h13; clear h13
          conv => whnf
          refine Side.mk ch13 ?_
          conv => whnf
          refine At.by et29 ?_
          obtain ⟨t32, et32, h15⟩ := letk_elim h14; clear h14
          conv => whnf
          refine Nm.mk ⟨t32, et32, ?_⟩
          have eh15_0 := Option.some.inj h15
          subst eh15_0
          conv => whnf
          exact Returns.pure (r := .lit (.bool t32)) rfl rfl rfl rfl ⟨rfl, rfl⟩

noncomputable def Law4.TokenScans (text0 : ByteArray) : Option Bool :=
  letk ((text0.size : Int)) fun t10 =>
  letk (decide (t10 > (300 : Int))) fun t11 =>
  bif t11 then
    Option.bind (Law4.Awake) fun t12 =>
    some t12
  else
    Option.bind (Tok.Scan text0) fun (t15_0, t15_1, t15_2) =>
    Option.bind (Ref4.Scan text0) fun (t21_0, t21_1, t21_2) =>
    Option.bind (Tok.Same t15_0 t21_0) fun t27 =>
    bif t27 then
      Option.bind (Ref4.Same t15_0 t21_0) fun t31 =>
      bif t31 then
        letk (t15_1 == t21_1) fun t36 =>
        bif t36 then
          letk (t15_2 == t21_2) fun t41 =>
          bif t41 then
            Option.bind (Law4.Awake) fun t44 =>
            some t44
          else
            some false
        else
          some false
      else
        some false
    else
      some false

theorem Law4.TokenScans_ok {text0 : ByteArray} {r : Bool} (h0 : Law4.TokenScans text0 = some r) : Gives Tryd.prog 3 [.lit (.string text0)] (.lit (.bool r)) := by
  unfold Law4.TokenScans at h0
  refine ACalls.of_swp Tryd.func3 rfl (by decide) rfl (st0 := ⟨46, [(0, .lit (.string text0))], []⟩) rfl (bwp_ok (C := []) ?_)
  obtain ⟨t10, et10, h1⟩ := letk_elim h0; clear h0
  conv => whnf
  refine Nm.mk ⟨t10, et10, ?_⟩
  obtain ⟨t11, et11, h2⟩ := letk_elim h1; clear h1
  conv => whnf
  refine Nm.mk ⟨t11, et11, ?_⟩
  rcases t11 with _ | _
  · have h3 := bif_f h2
    clear h2
    obtain ⟨⟨t15_0, t15_1, t15_2⟩, et15, h4⟩ := bind_elim h3; clear h3
    conv => whnf
    refine Gate.go ?_
    conv => whnf
    refine CallN.by (v := .tup [.vs 2 (t15_0.map (api.Token.enc)), .lit (.int .i64 t15_1), .lit (.int .i64 t15_2)]) (Tok.Scan_ok et15) rfl rfl ?_
    obtain ⟨⟨t21_0, t21_1, t21_2⟩, et21, h5⟩ := bind_elim h4; clear h4
    conv => whnf
    refine Gate.go ?_
    conv => whnf
    refine CallN.by (v := .tup [.vs 2 (t21_0.map (api.Token.enc)), .lit (.int .i64 t21_1), .lit (.int .i64 t21_2)]) (Ref4.Scan_ok et21) rfl rfl ?_
    obtain ⟨t27, et27, h6⟩ := bind_elim h5; clear h5
    conv => whnf
    refine Gate.go ?_
    conv => whnf
    refine CallN.by (v := .lit (.bool t27)) (Tok.Same_ok et27) rfl rfl ?_
    rcases t27 with _ | _
    · have h7 := bif_f h6
      clear h6
      have eh7_0 := Option.some.inj h7
      subst eh7_0
      conv => whnf
      exact Returns.pure (r := .lit (.bool false)) rfl rfl rfl rfl ⟨rfl, rfl⟩
    · have h7 := bif_t h6
      clear h6
      obtain ⟨t31, et31, h8⟩ := bind_elim h7; clear h7
      conv => whnf
      refine Gate.go ?_
      conv => whnf
      refine CallN.by (v := .lit (.bool t31)) (Ref4.Same_ok et31) rfl rfl ?_
      rcases t31 with _ | _
      · have h9 := bif_f h8
        clear h8
        have eh9_0 := Option.some.inj h9
        subst eh9_0
        conv => whnf
        exact Returns.pure (r := .lit (.bool false)) rfl rfl rfl rfl ⟨rfl, rfl⟩
      · have h9 := bif_t h8
        clear h8
        obtain ⟨t36, et36, h10⟩ := letk_elim h9; clear h9
        conv => whnf
        refine Nm.mk ⟨t36, et36, ?_⟩
        rcases t36 with _ | _
        · have h11 := bif_f h10
          clear h10
          have eh11_0 := Option.some.inj h11
          subst eh11_0
          conv => whnf
          exact Returns.pure (r := .lit (.bool false)) rfl rfl rfl rfl ⟨rfl, rfl⟩
        · have h11 := bif_t h10
          clear h10
          obtain ⟨t41, et41, h12⟩ := letk_elim h11; clear h11
          conv => whnf
          refine Nm.mk ⟨t41, et41, ?_⟩
          rcases t41 with _ | _
          · have h13 := bif_f h12
            clear h12
            have eh13_0 := Option.some.inj h13
            subst eh13_0
            conv => whnf
            exact Returns.pure (r := .lit (.bool false)) rfl rfl rfl rfl ⟨rfl, rfl⟩
          · have h13 := bif_t h12
            clear h12
            obtain ⟨t44, et44, h14⟩ := bind_elim h13; clear h13
            conv => whnf
            refine Gate.go ?_
            conv => whnf
            refine CallN.by (v := .lit (.bool t44)) (Law4.Awake_ok et44) rfl rfl ?_
            have eh14_0 := Option.some.inj h14
            subst eh14_0
            conv => whnf
            exact Returns.pure (r := .lit (.bool t44)) rfl rfl rfl rfl ⟨rfl, rfl⟩
  · have h3 := bif_t h2
    clear h2
    obtain ⟨t12, et12, h4⟩ := bind_elim h3; clear h3
    conv => whnf
    refine Gate.go ?_
    conv => whnf
    refine CallN.by (v := .lit (.bool t12)) (Law4.Awake_ok et12) rfl rfl ?_
    have eh4_0 := Option.some.inj h4
    subst eh4_0
    conv => whnf
    exact Returns.pure (r := .lit (.bool t12)) rfl rfl rfl rfl ⟨rfl, rfl⟩

noncomputable def Law4.TokenSames (a0 : List api.Token) (b1 : List api.Token) : Option Bool :=
  Option.bind (Tok.Same a0 b1) fun t7 =>
  Option.bind (Ref4.Same a0 b1) fun t10 =>
  letk (t7 == t10) fun t11 =>
  bif t11 then
    Option.bind (Tok.Same a0 a0) fun t15 =>
    bif t15 then
      Option.bind (Law4.Awake) fun t18 =>
      some t18
    else
      some false
  else
    some false

theorem Law4.TokenSames_ok {a0 : List api.Token} {b1 : List api.Token} {r : Bool} (h0 : Law4.TokenSames a0 b1 = some r) : Gives Tryd.prog 4 [.vs 2 (a0.map (api.Token.enc)), .vs 2 (b1.map (api.Token.enc))] (.lit (.bool r)) := by
  unfold Law4.TokenSames at h0
  refine ACalls.of_swp Tryd.func4 rfl (by decide) rfl (st0 := ⟨20, [(0, .vs 2 (a0.map (api.Token.enc))), (1, .vs 2 (b1.map (api.Token.enc)))], []⟩) rfl (bwp_ok (C := []) ?_)
  obtain ⟨t7, et7, h1⟩ := bind_elim h0; clear h0
  conv => whnf
  refine Gate.go ?_
  conv => whnf
  refine CallN.by (v := .lit (.bool t7)) (Tok.Same_ok et7) rfl rfl ?_
  obtain ⟨t10, et10, h2⟩ := bind_elim h1; clear h1
  conv => whnf
  refine Gate.go ?_
  conv => whnf
  refine CallN.by (v := .lit (.bool t10)) (Ref4.Same_ok et10) rfl rfl ?_
  obtain ⟨t11, et11, h3⟩ := letk_elim h2; clear h2
  conv => whnf
  refine Nm.mk ⟨t11, et11, ?_⟩
  rcases t11 with _ | _
  · have h4 := bif_f h3
    clear h3
    have eh4_0 := Option.some.inj h4
    subst eh4_0
    conv => whnf
    exact Returns.pure (r := .lit (.bool false)) rfl rfl rfl rfl ⟨rfl, rfl⟩
  · have h4 := bif_t h3
    clear h3
    obtain ⟨t15, et15, h5⟩ := bind_elim h4; clear h4
    conv => whnf
    refine Gate.go ?_
    conv => whnf
    refine CallN.by (v := .lit (.bool t15)) (Tok.Same_ok et15) rfl rfl ?_
    rcases t15 with _ | _
    · have h6 := bif_f h5
      clear h5
      have eh6_0 := Option.some.inj h6
      subst eh6_0
      conv => whnf
      exact Returns.pure (r := .lit (.bool false)) rfl rfl rfl rfl ⟨rfl, rfl⟩
    · have h6 := bif_t h5
      clear h5
      obtain ⟨t18, et18, h7⟩ := bind_elim h6; clear h6
      conv => whnf
      refine Gate.go ?_
      conv => whnf
      refine CallN.by (v := .lit (.bool t18)) (Law4.Awake_ok et18) rfl rfl ?_
      have eh7_0 := Option.some.inj h7
      subst eh7_0
      conv => whnf
      exact Returns.pure (r := .lit (.bool t18)) rfl rfl rfl rfl ⟨rfl, rfl⟩

noncomputable def Law4.TokenCase.j1 (_text0 : ByteArray) (i4 : Int) (other3_1 : ByteArray) (c5 : Int) : Option ((ByteArray × Int) ⊕ Bool) :=
  letk (ofInts ([c5])) fun t55 =>
  chk (((other3_1.size + t55.size : Nat) : Int) ≤ 9223372036854775807) <|
  letk (other3_1 ++ t55) fun t56 =>
  letk (IntKind.i64.wrap (i4 + (1 : Int))) fun t25 =>
  some (.inl (t56, t25))

noncomputable def Law4.TokenCase.j3 (text0 : ByteArray) (other3 : ByteArray) (i4 : Int) (t28 : Int) (t38 : Bool) : Option ((ByteArray × Int) ⊕ Bool) :=
  bif t38 then
    letk (IntKind.u8.wrap (t28 + (32 : Int))) fun t46 =>
    Law4.TokenCase.j1 text0 i4 other3 t46
  else
    letk (t28 == (32 : Int)) fun t49 =>
    bif t49 then
      chk (((other3.size + (⟨#[32, 32]⟩ : ByteArray).size : Nat) : Int) ≤ 9223372036854775807) <|
      letk (other3 ++ (⟨#[32, 32]⟩ : ByteArray)) fun t51 =>
      Law4.TokenCase.j1 text0 i4 t51 t28
    else
      Law4.TokenCase.j1 text0 i4 other3 t28

noncomputable def Law4.TokenCase.j2 (text0 : ByteArray) (other3 : ByteArray) (i4 : Int) (t28 : Int) (t29 : Bool) : Option ((ByteArray × Int) ⊕ Bool) :=
  bif t29 then
    letk (IntKind.u8.wrap (t28 - (32 : Int))) fun t37 =>
    Law4.TokenCase.j1 text0 i4 other3 t37
  else
    letk (decide (t28 ≥ (65 : Int))) fun t40 =>
    bif t40 then
      letk (decide (t28 ≤ (90 : Int))) fun t43 =>
      Law4.TokenCase.j3 text0 other3 i4 t28 t43
    else
      Law4.TokenCase.j3 text0 other3 i4 t28 false

noncomputable def Law4.TokenCase.s0 (text0 : ByteArray) (other3 : ByteArray) (i4 : Int) : Option ((ByteArray × Int) ⊕ Bool) :=
  letk ((text0.size : Int)) fun t22 =>
  letk (decide (i4 < t22)) fun t23 =>
  bif t23 then
    chk (0 ≤ i4 ∧ i4 < (text0.size : Int)) <|
    letk (bt text0 i4) fun t28 =>
    letk (decide (t28 ≥ (97 : Int))) fun t31 =>
    bif t31 then
      letk (decide (t28 ≤ (122 : Int))) fun t34 =>
      Law4.TokenCase.j2 text0 other3 i4 t28 t34
    else
      Law4.TokenCase.j2 text0 other3 i4 t28 false
  else
    ((
    Option.bind (Tok.Scan text0) fun (t59_0, _t59_1, t59_2) =>
    Option.bind (Tok.Scan other3) fun (t65_0, _t65_1, t65_2) =>
    letk (t59_2 == t65_2) fun t71 =>
    bif t71 then
      Option.bind (Tok.Same t59_0 t65_0) fun t75 =>
      bif t75 then
        Option.bind (Law4.Awake) fun t78 =>
        some t78
      else
        some false
    else
      some false)).map .inr

noncomputable def Law4.TokenCase.l0 (text0 : ByteArray) (other3 : ByteArray) (i4 : Int) : Option Bool := loopO (fun v : ByteArray × Int => Law4.TokenCase.s0 text0 v.1 v.2) (other3, i4)
theorem Law4.TokenCase.l0_eq (text0 : ByteArray) (other3 : ByteArray) (i4 : Int) : Law4.TokenCase.l0 text0 other3 i4 = (Law4.TokenCase.s0 text0 other3 i4).bind (Sum.elim (fun v => Law4.TokenCase.l0 text0 v.1 v.2) some) := loopO_eq _ _

noncomputable def Law4.TokenCase.j0 (text0 : ByteArray) : Option Bool :=
  Law4.TokenCase.l0 text0 (⟨#[32]⟩) 0

noncomputable def Law4.TokenCase (text0 : ByteArray) : Option Bool :=
  letk ((text0.size : Int)) fun t13 =>
  letk (decide (t13 > (300 : Int))) fun t14 =>
  bif t14 then
    Option.bind (Law4.Awake) fun t19_1 =>
    some t19_1
  else
    Option.bind (Law4.hasQuote text0) fun t17 =>
    bif t17 then
      Option.bind (Law4.Awake) fun t19 =>
      some t19
    else
      Law4.TokenCase.j0 text0

theorem Law4.TokenCase_ok {text0 : ByteArray} {r : Bool} (h0 : Law4.TokenCase text0 = some r) : Gives Tryd.prog 5 [.lit (.string text0)] (.lit (.bool r)) := by
  unfold Law4.TokenCase at h0
  refine ACalls.of_swp Tryd.func5 rfl (by decide) rfl (st0 := ⟨80, [(0, .lit (.string text0))], []⟩) rfl (bwp_ok (C := [(0, 3), (0, 14), (39, 19), (48, 23)]) ?_)
  conv => whnf
  refine CutN.of (fun s => Law4.TokenCase.j0 text0 = some r ∧ s = (⟨80, [(0, .lit (.string text0))], []⟩ : St)) ?_ ?_
  · obtain ⟨t13, et13, h1⟩ := letk_elim h0; clear h0
    conv => whnf
    refine Nm.mk ⟨t13, et13, ?_⟩
    obtain ⟨t14, et14, h2⟩ := letk_elim h1; clear h1
    conv => whnf
    refine Nm.mk ⟨t14, et14, ?_⟩
    rcases t14 with _ | _
    · have h3 := bif_f h2
      clear h2
      obtain ⟨t17, et17, h4⟩ := bind_elim h3; clear h3
      conv => whnf
      refine Gate.go ?_
      conv => whnf
      refine CallN.by (v := .lit (.bool t17)) (Law4.hasQuote_ok et17) rfl rfl ?_
      rcases t17 with _ | _
      · have h5 := bif_f h4
        clear h4
        exact BackS.of (Sees.of (Weak.objs (keep := []) (frz := []) (m := 0) (ts := [(0, .lit (.string text0))]) (hs := []) rfl (by decide) rfl rfl ⟨rfl, fun _ h => by cases h⟩ ⟨(.same (.lit (.string text0)) rfl), trivial⟩)) ⟨h5, rfl⟩
      · have h5 := bif_t h4
        clear h4
        obtain ⟨t19, et19, h6⟩ := bind_elim h5; clear h5
        conv => whnf
        refine Gate.go ?_
        conv => whnf
        refine CallN.by (v := .lit (.bool t19)) (Law4.Awake_ok et19) rfl rfl ?_
        have eh6_0 := Option.some.inj h6
        subst eh6_0
        conv => whnf
        exact Returns.pure (r := .lit (.bool t19)) rfl rfl rfl rfl ⟨rfl, rfl⟩
    · have h3 := bif_t h2
      clear h2
      obtain ⟨t19_1, et19_1, h4⟩ := bind_elim h3; clear h3
      conv => whnf
      refine Gate.go ?_
      conv => whnf
      refine CallN.by (v := .lit (.bool t19_1)) (Law4.Awake_ok et19_1) rfl rfl ?_
      have eh4_0 := Option.some.inj h4
      subst eh4_0
      conv => whnf
      exact Returns.pure (r := .lit (.bool t19_1)) rfl rfl rfl rfl ⟨rfl, rfl⟩
  · clear h0
    rintro s ⟨hj0, rfl⟩
    unfold Law4.TokenCase.j0 at hj0
    conv => whnf
    unfold Law4.TokenCase.l0 at hj0
    refine LoopB.of (σ := ByteArray × Int) (ρ := Bool) (fun v : ByteArray × Int => Law4.TokenCase.s0 text0 v.1 v.2) (fun v => (⟨80, [(0, .lit (.string text0)), (3, .lit (.string v.1)), (4, .lit (.int .i64 v.2))], []⟩ : St)) (⟨#[32]⟩, 0) hj0 (BackS.of (Sees.of (Weak.objs (keep := []) (frz := []) (m := 0) (ts := [(0, .lit (.string text0)), (3, .lit (.string ((⟨#[32]⟩)))), (4, .lit (.int .i64 0))]) (hs := []) rfl (by decide) rfl rfl ⟨rfl, fun _ h => by cases h⟩ ⟨(.same (.lit (.string text0)) rfl), (.same (.lit (.string (⟨#[32]⟩))) rfl), (.same (.lit (.int .i64 0)) rfl), trivial⟩)) rfl) ?_
    clear hj0
    rintro K1 ⟨other3, i4⟩ x1 hs0_0 hl1 hr1
    replace hs0_0 : Law4.TokenCase.s0 text0 other3 i4 = some x1 := hs0_0
    unfold Law4.TokenCase.s0 at hs0_0
    change bwp _ _ _ _ _ (⟨80, [(0, .lit (.string text0)), (3, .lit (.string other3)), (4, .lit (.int .i64 i4))], []⟩ : St)
    obtain ⟨t22, et22, hs0_1⟩ := letk_elim hs0_0; clear hs0_0
    conv => whnf
    refine Nm.mk ⟨t22, et22, ?_⟩
    obtain ⟨t23, et23, hs0_2⟩ := letk_elim hs0_1; clear hs0_1
    conv => whnf
    refine Nm.mk ⟨t23, et23, ?_⟩
    rcases t23 with _ | _
    · have hs0_3 := bif_f hs0_2
      clear hs0_2
      obtain ⟨yhs0_3_0, hs0_3u, ehs0_3_0⟩ := map_elim hs0_3
      have ehs0_3_0 := hr1 _ ehs0_3_0.symm
      subst ehs0_3_0
      obtain ⟨⟨t59_0, t59_1, t59_2⟩, et59, hs0_3u0⟩ := bind_elim hs0_3u; clear hs0_3u
      conv => whnf
      refine Gate.go ?_
      conv => whnf
      refine CallN.by (v := .tup [.vs 2 (t59_0.map (api.Token.enc)), .lit (.int .i64 t59_1), .lit (.int .i64 t59_2)]) (Tok.Scan_ok et59) rfl rfl ?_
      obtain ⟨⟨t65_0, t65_1, t65_2⟩, et65, hs0_3u1⟩ := bind_elim hs0_3u0; clear hs0_3u0
      conv => whnf
      refine Gate.go ?_
      conv => whnf
      refine CallN.by (v := .tup [.vs 2 (t65_0.map (api.Token.enc)), .lit (.int .i64 t65_1), .lit (.int .i64 t65_2)]) (Tok.Scan_ok et65) rfl rfl ?_
      obtain ⟨t71, et71, hs0_3u2⟩ := letk_elim hs0_3u1; clear hs0_3u1
      conv => whnf
      refine Nm.mk ⟨t71, et71, ?_⟩
      rcases t71 with _ | _
      · have hs0_3u3 := bif_f hs0_3u2
        clear hs0_3u2
        have ehs0_3u3_0 := Option.some.inj hs0_3u3
        subst ehs0_3u3_0
        conv => whnf
        exact Returns.pure (r := .lit (.bool false)) rfl rfl rfl rfl ⟨rfl, rfl⟩
      · have hs0_3u3 := bif_t hs0_3u2
        clear hs0_3u2
        obtain ⟨t75, et75, hs0_3u4⟩ := bind_elim hs0_3u3; clear hs0_3u3
        conv => whnf
        refine Gate.go ?_
        conv => whnf
        refine CallN.by (v := .lit (.bool t75)) (Tok.Same_ok et75) rfl rfl ?_
        rcases t75 with _ | _
        · have hs0_3u5 := bif_f hs0_3u4
          clear hs0_3u4
          have ehs0_3u5_0 := Option.some.inj hs0_3u5
          subst ehs0_3u5_0
          conv => whnf
          exact Returns.pure (r := .lit (.bool false)) rfl rfl rfl rfl ⟨rfl, rfl⟩
        · have hs0_3u5 := bif_t hs0_3u4
          clear hs0_3u4
          obtain ⟨t78, et78, hs0_3u6⟩ := bind_elim hs0_3u5; clear hs0_3u5
          conv => whnf
          refine Gate.go ?_
          conv => whnf
          refine CallN.by (v := .lit (.bool t78)) (Law4.Awake_ok et78) rfl rfl ?_
          have ehs0_3u6_0 := Option.some.inj hs0_3u6
          subst ehs0_3u6_0
          conv => whnf
          exact Returns.pure (r := .lit (.bool t78)) rfl rfl rfl rfl ⟨rfl, rfl⟩
    · have hs0_3 := bif_t hs0_2
      clear hs0_2
      obtain ⟨chs0_4, hs0_4⟩ := chk_elim hs0_3; clear hs0_3
      obtain ⟨t28, et28, hs0_5⟩ := letk_elim hs0_4; clear hs0_4
      conv => whnf
      refine Side.mk chs0_4 ?_
      conv => whnf
      refine Nm.mk ⟨t28, et28, ?_⟩
      conv => whnf
      refine CutN.of (fun s => ∃ (other3_1 : ByteArray) (c5 : Int), Law4.TokenCase.j1 text0 i4 other3_1 c5 = some x1 ∧ s = (⟨80, [(0, .lit (.string text0)), (3, .lit (.string other3_1)), (4, .lit (.int .i64 i4)), (5, .lit (.int .u8 c5))], []⟩ : St)) ?_ ?_
      · conv => whnf
        refine CutN.of (fun s => ∃ (t29 : Bool), Law4.TokenCase.j2 text0 other3 i4 t28 t29 = some x1 ∧ s = (⟨80, [(0, .lit (.string text0)), (3, .lit (.string other3)), (4, .lit (.int .i64 i4)), (5, .lit (.int .u8 t28)), (29, .lit (.bool t29))], []⟩ : St)) ?_ ?_
        · obtain ⟨t31, et31, hs0_6⟩ := letk_elim hs0_5; clear hs0_5
          conv => whnf
          refine Nm.mk ⟨t31, et31, ?_⟩
          rcases t31 with _ | _
          · have hs0_7 := bif_f hs0_6
            clear hs0_6
            exact BackS.of (Sees.of (Weak.objs (keep := []) (frz := []) (m := 0) (ts := [(0, .lit (.string text0)), (3, .lit (.string other3)), (4, .lit (.int .i64 i4)), (5, .lit (.int .u8 t28)), (29, .lit (.bool false))]) (hs := []) rfl (by decide) rfl rfl ⟨rfl, fun _ h => by cases h⟩ ⟨(.same (.lit (.string text0)) rfl), (.same (.lit (.string other3)) rfl), (.same (.lit (.int .i64 i4)) rfl), (.same (.lit (.int .u8 t28)) rfl), (.same (.lit (.bool false)) rfl), trivial⟩)) ⟨_, hs0_7, rfl⟩
          · have hs0_7 := bif_t hs0_6
            clear hs0_6
            obtain ⟨t34, et34, hs0_8⟩ := letk_elim hs0_7; clear hs0_7
            conv => whnf
            refine Nm.mk ⟨t34, et34, ?_⟩
            exact BackS.of (Sees.of (Weak.objs (keep := []) (frz := []) (m := 0) (ts := [(0, .lit (.string text0)), (3, .lit (.string other3)), (4, .lit (.int .i64 i4)), (5, .lit (.int .u8 t28)), (29, .lit (.bool t34))]) (hs := []) rfl (by decide) rfl rfl ⟨rfl, fun _ h => by cases h⟩ ⟨(.same (.lit (.string text0)) rfl), (.same (.lit (.string other3)) rfl), (.same (.lit (.int .i64 i4)) rfl), (.same (.lit (.int .u8 t28)) rfl), (.same (.lit (.bool t34)) rfl), trivial⟩)) ⟨_, hs0_8, rfl⟩
        · clear hs0_5
          rintro s ⟨t29, hj0, rfl⟩
          unfold Law4.TokenCase.j2 at hj0
          rcases t29 with _ | _
          · have hj1 := bif_f hj0
            clear hj0
            conv => whnf
            refine CutN.of (fun s => ∃ (t38 : Bool), Law4.TokenCase.j3 text0 other3 i4 t28 t38 = some x1 ∧ s = (⟨80, [(0, .lit (.string text0)), (3, .lit (.string other3)), (4, .lit (.int .i64 i4)), (5, .lit (.int .u8 t28)), (38, .lit (.bool t38))], []⟩ : St)) ?_ ?_
            · obtain ⟨t40, et40, hj2⟩ := letk_elim hj1; clear hj1
              conv => whnf
              refine Nm.mk ⟨t40, et40, ?_⟩
              rcases t40 with _ | _
              · have hj3 := bif_f hj2
                clear hj2
                exact BackS.of (Sees.of (Weak.objs (keep := []) (frz := []) (m := 0) (ts := [(0, .lit (.string text0)), (3, .lit (.string other3)), (4, .lit (.int .i64 i4)), (5, .lit (.int .u8 t28)), (38, .lit (.bool false))]) (hs := []) rfl (by decide) rfl rfl ⟨rfl, fun _ h => by cases h⟩ ⟨(.same (.lit (.string text0)) rfl), (.same (.lit (.string other3)) rfl), (.same (.lit (.int .i64 i4)) rfl), (.same (.lit (.int .u8 t28)) rfl), (.same (.lit (.bool false)) rfl), trivial⟩)) ⟨_, hj3, rfl⟩
              · have hj3 := bif_t hj2
                clear hj2
                obtain ⟨t43, et43, hj4⟩ := letk_elim hj3; clear hj3
                conv => whnf
                refine Nm.mk ⟨t43, et43, ?_⟩
                exact BackS.of (Sees.of (Weak.objs (keep := []) (frz := []) (m := 0) (ts := [(0, .lit (.string text0)), (3, .lit (.string other3)), (4, .lit (.int .i64 i4)), (5, .lit (.int .u8 t28)), (38, .lit (.bool t43))]) (hs := []) rfl (by decide) rfl rfl ⟨rfl, fun _ h => by cases h⟩ ⟨(.same (.lit (.string text0)) rfl), (.same (.lit (.string other3)) rfl), (.same (.lit (.int .i64 i4)) rfl), (.same (.lit (.int .u8 t28)) rfl), (.same (.lit (.bool t43)) rfl), trivial⟩)) ⟨_, hj4, rfl⟩
            · clear hj1
              rintro s ⟨t38, hj0, rfl⟩
              unfold Law4.TokenCase.j3 at hj0
              rcases t38 with _ | _
              · have hj1 := bif_f hj0
                clear hj0
                obtain ⟨t49, et49, hj2⟩ := letk_elim hj1; clear hj1
                conv => whnf
                refine Nm.mk ⟨t49, et49, ?_⟩
                rcases t49 with _ | _
                · have hj3 := bif_f hj2
                  clear hj2
                  exact BackS.of (Sees.of (Weak.objs (keep := []) (frz := []) (m := 0) (ts := [(0, .lit (.string text0)), (3, .lit (.string other3)), (4, .lit (.int .i64 i4)), (5, .lit (.int .u8 t28))]) (hs := []) rfl (by decide) rfl rfl ⟨rfl, fun _ h => by cases h⟩ ⟨(.same (.lit (.string text0)) rfl), (.same (.lit (.string other3)) rfl), (.same (.lit (.int .i64 i4)) rfl), (.same (.lit (.int .u8 t28)) rfl), trivial⟩)) ⟨_, _, hj3, rfl⟩
                · have hj3 := bif_t hj2
                  clear hj2
                  obtain ⟨chj4, hj4⟩ := chk_elim hj3; clear hj3
                  obtain ⟨t51, et51, hj5⟩ := letk_elim hj4; clear hj4
                  conv => whnf
                  refine Side.mk chj4 ?_
                  conv => whnf
                  refine Nm.mk ⟨t51, et51, ?_⟩
                  exact BackS.of (Sees.of (Weak.objs (keep := []) (frz := []) (m := 0) (ts := [(0, .lit (.string text0)), (3, .lit (.string t51)), (4, .lit (.int .i64 i4)), (5, .lit (.int .u8 t28))]) (hs := []) rfl (by decide) rfl rfl ⟨rfl, fun _ h => by cases h⟩ ⟨(.same (.lit (.string text0)) rfl), (.same (.lit (.string t51)) rfl), (.same (.lit (.int .i64 i4)) rfl), (.same (.lit (.int .u8 t28)) rfl), trivial⟩)) ⟨_, _, hj5, rfl⟩
              · have hj1 := bif_t hj0
                clear hj0
                obtain ⟨t46, et46, hj2⟩ := letk_elim hj1; clear hj1
                conv => whnf
                refine Nm.mk ⟨t46, et46, ?_⟩
                exact BackS.of (Sees.of (Weak.objs (keep := []) (frz := []) (m := 0) (ts := [(0, .lit (.string text0)), (3, .lit (.string other3)), (4, .lit (.int .i64 i4)), (5, .lit (.int .u8 t46))]) (hs := []) rfl (by decide) rfl rfl ⟨rfl, fun _ h => by cases h⟩ ⟨(.same (.lit (.string text0)) rfl), (.same (.lit (.string other3)) rfl), (.same (.lit (.int .i64 i4)) rfl), (.same (.lit (.int .u8 t46)) rfl), trivial⟩)) ⟨_, _, hj2, rfl⟩
          · have hj1 := bif_t hj0
            clear hj0
            obtain ⟨t37, et37, hj2⟩ := letk_elim hj1; clear hj1
            conv => whnf
            refine Nm.mk ⟨t37, et37, ?_⟩
            exact BackS.of (Sees.of (Weak.objs (keep := []) (frz := []) (m := 0) (ts := [(0, .lit (.string text0)), (3, .lit (.string other3)), (4, .lit (.int .i64 i4)), (5, .lit (.int .u8 t37))]) (hs := []) rfl (by decide) rfl rfl ⟨rfl, fun _ h => by cases h⟩ ⟨(.same (.lit (.string text0)) rfl), (.same (.lit (.string other3)) rfl), (.same (.lit (.int .i64 i4)) rfl), (.same (.lit (.int .u8 t37)) rfl), trivial⟩)) ⟨_, _, hj2, rfl⟩
      · clear hs0_5
        rintro s ⟨other3_1, c5, hj0, rfl⟩
        unfold Law4.TokenCase.j1 at hj0
        conv => whnf
        refine Gate.go ?_
        conv => whnf
        refine Nm.mk ⟨([c5]).map (eI .u8), rfl, ?_⟩
        obtain ⟨t55, et55, hj1⟩ := letk_elim hj0; clear hj0
        conv => whnf
        refine Side.mk ⟨full_le _, one_map (fun _ _ hc => by simp only [AV.cells, List.mem_singleton] at hc; subst hc; rfl)⟩ ?_
        conv => whnf
        refine BytesN.mk ⟨[c5], map_takeAll _ _, ?_⟩
        conv => whnf
        refine Nm.mk ⟨t55, et55, ?_⟩
        obtain ⟨chj2, hj2⟩ := chk_elim hj1; clear hj1
        obtain ⟨t56, et56, hj3⟩ := letk_elim hj2; clear hj2
        conv => whnf
        refine Side.mk chj2 ?_
        conv => whnf
        refine Nm.mk ⟨t56, et56, ?_⟩
        obtain ⟨t25, et25, hj4⟩ := letk_elim hj3; clear hj3
        conv => whnf
        refine Nm.mk ⟨t25, et25, ?_⟩
        exact BackS.of (Sees.of (Weak.objs (keep := []) (frz := []) (m := 0) (ts := [(0, .lit (.string text0)), (3, .lit (.string t56)), (4, .lit (.int .i64 t25))]) (hs := []) rfl (by decide) rfl rfl ⟨rfl, fun _ h => by cases h⟩ ⟨(.same (.lit (.string text0)) rfl), (.same (.lit (.string t56)) rfl), (.same (.lit (.int .i64 t25)) rfl), trivial⟩)) ⟨_, hl1 _ (Option.some.inj hj4).symm, rfl⟩

noncomputable def Law4.TokenJoins.j1 (a0 : ByteArray) (t25_1 : Int) : Option Bool :=
  letk (decide (t25_1 ≥ (0 : Int))) fun t84 =>
  bif t84 then
    letk ((a0.size : Int)) fun t88 =>
    letk (decide (t25_1 < t88)) fun t89 =>
    bif t89 then
      Option.bind (Law4.Awake) fun t92 =>
      some t92
    else
      some false
  else
    some false

noncomputable def Law4.TokenJoins.j2 (a0 : ByteArray) (t25_0 : List api.Token) (t25_1 : Int) (t25_2 : Int) (t31_0 : List api.Token) (t31_1 : Int) (t31_2 : Int) (t40_0 : List api.Token) (t40_1 : Int) (t40_2 : Int) (t44 : Bool) : Option Bool :=
  bif t44 then
    letk (t40_2 == (0 : Int)) fun t52 =>
    bif t52 then
      chk (((([] : List api.Token)).length + t25_0.length) * 32 ≤ 140737488355328) <|
      letk ((([] : List api.Token)) ++ t25_0) fun t57 =>
      chk ((t57.length + t31_0.length) * 32 ≤ 140737488355328) <|
      letk (t57 ++ t31_0) fun t59 =>
      Option.bind (Tok.Same t40_0 t59) fun t60 =>
      bif t60 then
        Option.bind (Law4.Awake) fun t63 =>
        some t63
      else
        some false
    else
      some false
  else
    letk (t25_2 == (0 : Int)) fun t67 =>
    bif t67 then
      letk (t40_2 == t31_2) fun t70 =>
      bif t70 then
        letk ((a0.size : Int)) fun t74 =>
        letk (IntKind.i64.wrap (t74 + (1 : Int))) fun t75 =>
        letk (IntKind.i64.wrap (t75 + t31_1)) fun t77 =>
        letk (t40_1 == t77) fun t78 =>
        bif t78 then
          Option.bind (Law4.Awake) fun t81 =>
          some t81
        else
          some false
      else
        some false
    else
      Law4.TokenJoins.j1 a0 t25_1

noncomputable def Law4.TokenJoins.j0 (a0 : ByteArray) (b1 : ByteArray) : Option Bool :=
  Option.bind (Tok.Scan a0) fun (t25_0, t25_1, t25_2) =>
  Option.bind (Tok.Scan b1) fun (t31_0, t31_1, t31_2) =>
  chk (((a0.size + (⟨#[32]⟩ : ByteArray).size : Nat) : Int) ≤ 9223372036854775807) <|
  letk (a0 ++ (⟨#[32]⟩ : ByteArray)) fun t37 =>
  chk (((t37.size + b1.size : Nat) : Int) ≤ 9223372036854775807) <|
  letk (t37 ++ b1) fun t39 =>
  Option.bind (Tok.Scan t39) fun (t40_0, t40_1, t40_2) =>
  letk (t25_2 == (0 : Int)) fun t46 =>
  bif t46 then
    letk (t31_2 == (0 : Int)) fun t49 =>
    Law4.TokenJoins.j2 a0 t25_0 t25_1 t25_2 t31_0 t31_1 t31_2 t40_0 t40_1 t40_2 t49
  else
    Law4.TokenJoins.j2 a0 t25_0 t25_1 t25_2 t31_0 t31_1 t31_2 t40_0 t40_1 t40_2 false

noncomputable def Law4.TokenJoins (a0 : ByteArray) (b1 : ByteArray) : Option Bool :=
  letk ((a0.size : Int)) fun t15 =>
  letk (decide (t15 > (200 : Int))) fun t16 =>
  bif t16 then
    Option.bind (Law4.Awake) fun t22_1 =>
    some t22_1
  else
    letk ((b1.size : Int)) fun t19 =>
    letk (decide (t19 > (200 : Int))) fun t20 =>
    bif t20 then
      Option.bind (Law4.Awake) fun t22 =>
      some t22
    else
      Law4.TokenJoins.j0 a0 b1

theorem Law4.TokenJoins_ok {a0 : ByteArray} {b1 : ByteArray} {r : Bool} (h0 : Law4.TokenJoins a0 b1 = some r) : Gives Tryd.prog 6 [.lit (.string a0), .lit (.string b1)] (.lit (.bool r)) := by
  unfold Law4.TokenJoins at h0
  refine ACalls.of_swp Tryd.func6 rfl (by decide) rfl (st0 := ⟨94, [(0, .lit (.string a0)), (1, .lit (.string b1))], []⟩) rfl (bwp_ok (C := [(0, 3), (0, 10), (54, 15)]) ?_)
  conv => whnf
  refine CutN.of (fun s => Law4.TokenJoins.j0 a0 b1 = some r ∧ s = (⟨94, [(0, .lit (.string a0)), (1, .lit (.string b1))], []⟩ : St)) ?_ ?_
  · obtain ⟨t15, et15, h1⟩ := letk_elim h0; clear h0
    conv => whnf
    refine Nm.mk ⟨t15, et15, ?_⟩
    obtain ⟨t16, et16, h2⟩ := letk_elim h1; clear h1
    conv => whnf
    refine Nm.mk ⟨t16, et16, ?_⟩
    rcases t16 with _ | _
    · have h3 := bif_f h2
      clear h2
      obtain ⟨t19, et19, h4⟩ := letk_elim h3; clear h3
      conv => whnf
      refine Nm.mk ⟨t19, et19, ?_⟩
      obtain ⟨t20, et20, h5⟩ := letk_elim h4; clear h4
      conv => whnf
      refine Nm.mk ⟨t20, et20, ?_⟩
      rcases t20 with _ | _
      · have h6 := bif_f h5
        clear h5
        exact BackS.of (Sees.of (Weak.objs (keep := []) (frz := []) (m := 0) (ts := [(0, .lit (.string a0)), (1, .lit (.string b1))]) (hs := []) rfl (by decide) rfl rfl ⟨rfl, fun _ h => by cases h⟩ ⟨(.same (.lit (.string a0)) rfl), (.same (.lit (.string b1)) rfl), trivial⟩)) ⟨h6, rfl⟩
      · have h6 := bif_t h5
        clear h5
        obtain ⟨t22, et22, h7⟩ := bind_elim h6; clear h6
        conv => whnf
        refine Gate.go ?_
        conv => whnf
        refine CallN.by (v := .lit (.bool t22)) (Law4.Awake_ok et22) rfl rfl ?_
        have eh7_0 := Option.some.inj h7
        subst eh7_0
        conv => whnf
        exact Returns.pure (r := .lit (.bool t22)) rfl rfl rfl rfl ⟨rfl, rfl⟩
    · have h3 := bif_t h2
      clear h2
      obtain ⟨t22_1, et22_1, h4⟩ := bind_elim h3; clear h3
      conv => whnf
      refine Gate.go ?_
      conv => whnf
      refine CallN.by (v := .lit (.bool t22_1)) (Law4.Awake_ok et22_1) rfl rfl ?_
      have eh4_0 := Option.some.inj h4
      subst eh4_0
      conv => whnf
      exact Returns.pure (r := .lit (.bool t22_1)) rfl rfl rfl rfl ⟨rfl, rfl⟩
  · clear h0
    rintro s ⟨hj0, rfl⟩
    unfold Law4.TokenJoins.j0 at hj0
    obtain ⟨⟨t25_0, t25_1, t25_2⟩, et25, hj1⟩ := bind_elim hj0; clear hj0
    conv => whnf
    refine Gate.go ?_
    conv => whnf
    refine CallN.by (v := .tup [.vs 2 (t25_0.map (api.Token.enc)), .lit (.int .i64 t25_1), .lit (.int .i64 t25_2)]) (Tok.Scan_ok et25) rfl rfl ?_
    obtain ⟨⟨t31_0, t31_1, t31_2⟩, et31, hj2⟩ := bind_elim hj1; clear hj1
    conv => whnf
    refine Gate.go ?_
    conv => whnf
    refine CallN.by (v := .tup [.vs 2 (t31_0.map (api.Token.enc)), .lit (.int .i64 t31_1), .lit (.int .i64 t31_2)]) (Tok.Scan_ok et31) rfl rfl ?_
    obtain ⟨chj3, hj3⟩ := chk_elim hj2; clear hj2
    obtain ⟨t37, et37, hj4⟩ := letk_elim hj3; clear hj3
    conv => whnf
    refine Side.mk chj3 ?_
    conv => whnf
    refine Nm.mk ⟨t37, et37, ?_⟩
    obtain ⟨chj5, hj5⟩ := chk_elim hj4; clear hj4
    obtain ⟨t39, et39, hj6⟩ := letk_elim hj5; clear hj5
    conv => whnf
    refine Side.mk chj5 ?_
    conv => whnf
    refine Nm.mk ⟨t39, et39, ?_⟩
    obtain ⟨⟨t40_0, t40_1, t40_2⟩, et40, hj7⟩ := bind_elim hj6; clear hj6
    conv => whnf
    refine Gate.go ?_
    conv => whnf
    refine CallN.by (v := .tup [.vs 2 (t40_0.map (api.Token.enc)), .lit (.int .i64 t40_1), .lit (.int .i64 t40_2)]) (Tok.Scan_ok et40) rfl rfl ?_
    conv => whnf
    refine CutN.of (fun s => Law4.TokenJoins.j1 a0 t25_1 = some r ∧ s = (⟨94, [(0, .lit (.string a0)), (6, .lit (.int .i64 t25_1))], []⟩ : St)) ?_ ?_
    · conv => whnf
      refine CutN.of (fun s => ∃ (t44 : Bool), Law4.TokenJoins.j2 a0 t25_0 t25_1 t25_2 t31_0 t31_1 t31_2 t40_0 t40_1 t40_2 t44 = some r ∧ s = (⟨94, [(0, .lit (.string a0)), (5, .vs 2 (t25_0.map (api.Token.enc))), (6, .lit (.int .i64 t25_1)), (7, .lit (.int .i64 t25_2)), (8, .vs 2 (t31_0.map (api.Token.enc))), (9, .lit (.int .i64 t31_1)), (10, .lit (.int .i64 t31_2)), (11, .vs 2 (t40_0.map (api.Token.enc))), (12, .lit (.int .i64 t40_1)), (13, .lit (.int .i64 t40_2)), (44, .lit (.bool t44))], []⟩ : St)) ?_ ?_
      · obtain ⟨t46, et46, hj8⟩ := letk_elim hj7; clear hj7
        conv => whnf
        refine Nm.mk ⟨t46, et46, ?_⟩
        rcases t46 with _ | _
        · have hj9 := bif_f hj8
          clear hj8
          exact BackS.of (Sees.of (Weak.objs (keep := []) (frz := []) (m := 0) (ts := [(0, .lit (.string a0)), (5, .vs 2 (t25_0.map (api.Token.enc))), (6, .lit (.int .i64 t25_1)), (7, .lit (.int .i64 t25_2)), (8, .vs 2 (t31_0.map (api.Token.enc))), (9, .lit (.int .i64 t31_1)), (10, .lit (.int .i64 t31_2)), (11, .vs 2 (t40_0.map (api.Token.enc))), (12, .lit (.int .i64 t40_1)), (13, .lit (.int .i64 t40_2)), (44, .lit (.bool false))]) (hs := []) rfl (by decide) rfl rfl ⟨rfl, fun _ h => by cases h⟩ ⟨(.same (.lit (.string a0)) rfl), (.same (.vs 2 (t25_0.map (api.Token.enc))) rfl), (.same (.lit (.int .i64 t25_1)) rfl), (.same (.lit (.int .i64 t25_2)) rfl), (.same (.vs 2 (t31_0.map (api.Token.enc))) rfl), (.same (.lit (.int .i64 t31_1)) rfl), (.same (.lit (.int .i64 t31_2)) rfl), (.same (.vs 2 (t40_0.map (api.Token.enc))) rfl), (.same (.lit (.int .i64 t40_1)) rfl), (.same (.lit (.int .i64 t40_2)) rfl), (.same (.lit (.bool false)) rfl), trivial⟩)) ⟨_, hj9, rfl⟩
        · have hj9 := bif_t hj8
          clear hj8
          obtain ⟨t49, et49, hj10⟩ := letk_elim hj9; clear hj9
          conv => whnf
          refine Nm.mk ⟨t49, et49, ?_⟩
          exact BackS.of (Sees.of (Weak.objs (keep := []) (frz := []) (m := 0) (ts := [(0, .lit (.string a0)), (5, .vs 2 (t25_0.map (api.Token.enc))), (6, .lit (.int .i64 t25_1)), (7, .lit (.int .i64 t25_2)), (8, .vs 2 (t31_0.map (api.Token.enc))), (9, .lit (.int .i64 t31_1)), (10, .lit (.int .i64 t31_2)), (11, .vs 2 (t40_0.map (api.Token.enc))), (12, .lit (.int .i64 t40_1)), (13, .lit (.int .i64 t40_2)), (44, .lit (.bool t49))]) (hs := []) rfl (by decide) rfl rfl ⟨rfl, fun _ h => by cases h⟩ ⟨(.same (.lit (.string a0)) rfl), (.same (.vs 2 (t25_0.map (api.Token.enc))) rfl), (.same (.lit (.int .i64 t25_1)) rfl), (.same (.lit (.int .i64 t25_2)) rfl), (.same (.vs 2 (t31_0.map (api.Token.enc))) rfl), (.same (.lit (.int .i64 t31_1)) rfl), (.same (.lit (.int .i64 t31_2)) rfl), (.same (.vs 2 (t40_0.map (api.Token.enc))) rfl), (.same (.lit (.int .i64 t40_1)) rfl), (.same (.lit (.int .i64 t40_2)) rfl), (.same (.lit (.bool t49)) rfl), trivial⟩)) ⟨_, hj10, rfl⟩
      · clear hj7
        rintro s ⟨t44, hj0, rfl⟩
        unfold Law4.TokenJoins.j2 at hj0
        rcases t44 with _ | _
        · have hj1 := bif_f hj0
          clear hj0
          obtain ⟨t67, et67, hj2⟩ := letk_elim hj1; clear hj1
          conv => whnf
          refine Nm.mk ⟨t67, et67, ?_⟩
          rcases t67 with _ | _
          · have hj3 := bif_f hj2
            clear hj2
            exact BackS.of (Sees.of (Weak.objs (keep := []) (frz := []) (m := 0) (ts := [(0, .lit (.string a0)), (6, .lit (.int .i64 t25_1))]) (hs := []) rfl (by decide) rfl rfl ⟨rfl, fun _ h => by cases h⟩ ⟨(.same (.lit (.string a0)) rfl), (.same (.lit (.int .i64 t25_1)) rfl), trivial⟩)) ⟨hj3, rfl⟩
          · have hj3 := bif_t hj2
            clear hj2
            obtain ⟨t70, et70, hj4⟩ := letk_elim hj3; clear hj3
            conv => whnf
            refine Nm.mk ⟨t70, et70, ?_⟩
            rcases t70 with _ | _
            · have hj5 := bif_f hj4
              clear hj4
              have ehj5_0 := Option.some.inj hj5
              subst ehj5_0
              conv => whnf
              exact Returns.pure (r := .lit (.bool false)) rfl rfl rfl rfl ⟨rfl, rfl⟩
            · have hj5 := bif_t hj4
              clear hj4
              obtain ⟨t74, et74, hj6⟩ := letk_elim hj5; clear hj5
              conv => whnf
              refine Nm.mk ⟨t74, et74, ?_⟩
              obtain ⟨t75, et75, hj7⟩ := letk_elim hj6; clear hj6
              conv => whnf
              refine Nm.mk ⟨t75, et75, ?_⟩
              obtain ⟨t77, et77, hj8⟩ := letk_elim hj7; clear hj7
              conv => whnf
              refine Nm.mk ⟨t77, et77, ?_⟩
              obtain ⟨t78, et78, hj9⟩ := letk_elim hj8; clear hj8
              conv => whnf
              refine Nm.mk ⟨t78, et78, ?_⟩
              rcases t78 with _ | _
              · have hj10 := bif_f hj9
                clear hj9
                have ehj10_0 := Option.some.inj hj10
                subst ehj10_0
                conv => whnf
                exact Returns.pure (r := .lit (.bool false)) rfl rfl rfl rfl ⟨rfl, rfl⟩
              · have hj10 := bif_t hj9
                clear hj9
                obtain ⟨t81, et81, hj11⟩ := bind_elim hj10; clear hj10
                conv => whnf
                refine Gate.go ?_
                conv => whnf
                refine CallN.by (v := .lit (.bool t81)) (Law4.Awake_ok et81) rfl rfl ?_
                have ehj11_0 := Option.some.inj hj11
                subst ehj11_0
                conv => whnf
                exact Returns.pure (r := .lit (.bool t81)) rfl rfl rfl rfl ⟨rfl, rfl⟩
        · have hj1 := bif_t hj0
          clear hj0
          obtain ⟨t52, et52, hj2⟩ := letk_elim hj1; clear hj1
          conv => whnf
          refine Nm.mk ⟨t52, et52, ?_⟩
          rcases t52 with _ | _
          · have hj3 := bif_f hj2
            clear hj2
            have ehj3_0 := Option.some.inj hj3
            subst ehj3_0
            conv => whnf
            exact Returns.pure (r := .lit (.bool false)) rfl rfl rfl rfl ⟨rfl, rfl⟩
          · have hj3 := bif_t hj2
            clear hj2
            conv => whnf
            refine Gate.go ?_
            conv => whnf
            refine Nm.mk ⟨(([] : List api.Token)).map (api.Token.enc), rfl, ?_⟩
            obtain ⟨chj4, hj4⟩ := chk_elim hj3; clear hj3
            obtain ⟨t57, et57, hj5⟩ := letk_elim hj4; clear hj4
            conv => whnf
            refine Gate.go ?_
            conv => whnf
            refine Side.mk (full_le _) ?_
            conv => whnf
            refine Side.mk (one_map (fun _ _ hc => by simp only [api.Token.enc, AV.cells, List.mem_cons, List.not_mem_nil, or_false] at hc; rcases hc with rfl | rfl <;> rfl)) ?_
            conv => whnf
            refine Side.mk (side_rv (by decide) chj4) ?_
            conv => whnf
            refine Nm.mk ⟨t57.map (api.Token.enc), by rw [et57]; exact app_rv, ?_⟩
            obtain ⟨chj6, hj6⟩ := chk_elim hj5; clear hj5
            obtain ⟨t59, et59, hj7⟩ := letk_elim hj6; clear hj6
            conv => whnf
            refine Gate.go ?_
            conv => whnf
            refine Side.mk (full_le _) ?_
            conv => whnf
            refine Side.mk (one_map (fun _ _ hc => by simp only [api.Token.enc, AV.cells, List.mem_cons, List.not_mem_nil, or_false] at hc; rcases hc with rfl | rfl <;> rfl)) ?_
            conv => whnf
            refine Side.mk (side_rv (by decide) chj6) ?_
            conv => whnf
            refine Nm.mk ⟨t59.map (api.Token.enc), by rw [et59]; exact app_rv, ?_⟩
            obtain ⟨t60, et60, hj8⟩ := bind_elim hj7; clear hj7
            conv => whnf
            refine Gate.weak (Sees.of (Weak.objs (keep := []) (frz := [2]) (m := 0) (ts := [(53, .lit (.bool true)), (54, .vs 2 (t40_0.map (api.Token.enc))), (59, .vs 2 (t59.map (api.Token.enc)))]) (hs := []) rfl (by decide) rfl rfl ⟨rfl, fun _ h => by cases h⟩ ⟨(.same (.lit (.bool true)) rfl), (.same (.vs 2 (t40_0.map (api.Token.enc))) rfl), (WV.all (k := 2) (by decide) rfl), trivial⟩)) ?_
            conv => whnf
            refine CallN.by (v := .lit (.bool t60)) (Tok.Same_ok et60) rfl rfl ?_
            rcases t60 with _ | _
            · have hj9 := bif_f hj8
              clear hj8
              have ehj9_0 := Option.some.inj hj9
              subst ehj9_0
              conv => whnf
              exact Returns.pure (r := .lit (.bool false)) rfl rfl rfl rfl ⟨rfl, rfl⟩
            · have hj9 := bif_t hj8
              clear hj8
              obtain ⟨t63, et63, hj10⟩ := bind_elim hj9; clear hj9
              conv => whnf
              refine Gate.go ?_
              conv => whnf
              refine CallN.by (v := .lit (.bool t63)) (Law4.Awake_ok et63) rfl rfl ?_
              have ehj10_0 := Option.some.inj hj10
              subst ehj10_0
              conv => whnf
              exact Returns.pure (r := .lit (.bool t63)) rfl rfl rfl rfl ⟨rfl, rfl⟩
    · clear hj7
      rintro s ⟨hj0, rfl⟩
      unfold Law4.TokenJoins.j1 at hj0
      obtain ⟨t84, et84, hj1⟩ := letk_elim hj0; clear hj0
      conv => whnf
      refine Nm.mk ⟨t84, et84, ?_⟩
      rcases t84 with _ | _
      · have hj2 := bif_f hj1
        clear hj1
        have ehj2_0 := Option.some.inj hj2
        subst ehj2_0
        conv => whnf
        exact Returns.pure (r := .lit (.bool false)) rfl rfl rfl rfl ⟨rfl, rfl⟩
      · have hj2 := bif_t hj1
        clear hj1
        obtain ⟨t88, et88, hj3⟩ := letk_elim hj2; clear hj2
        conv => whnf
        refine Nm.mk ⟨t88, et88, ?_⟩
        obtain ⟨t89, et89, hj4⟩ := letk_elim hj3; clear hj3
        conv => whnf
        refine Nm.mk ⟨t89, et89, ?_⟩
        rcases t89 with _ | _
        · have hj5 := bif_f hj4
          clear hj4
          have ehj5_0 := Option.some.inj hj5
          subst ehj5_0
          conv => whnf
          exact Returns.pure (r := .lit (.bool false)) rfl rfl rfl rfl ⟨rfl, rfl⟩
        · have hj5 := bif_t hj4
          clear hj4
          obtain ⟨t92, et92, hj6⟩ := bind_elim hj5; clear hj5
          conv => whnf
          refine Gate.go ?_
          conv => whnf
          refine CallN.by (v := .lit (.bool t92)) (Law4.Awake_ok et92) rfl rfl ?_
          have ehj6_0 := Option.some.inj hj6
          subst ehj6_0
          conv => whnf
          exact Returns.pure (r := .lit (.bool t92)) rfl rfl rfl rfl ⟨rfl, rfl⟩

end Go.Q
