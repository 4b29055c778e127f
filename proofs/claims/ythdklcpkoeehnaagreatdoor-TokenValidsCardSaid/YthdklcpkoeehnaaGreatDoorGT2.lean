import Derived.Test.YthdklcpkoeehnaaGreatDoorGT1
import Derived.Test.YthdklcpkoeehnaaGreatDoorProg
namespace Go.Q
open Go Go.Proofs
set_option maxRecDepth 10000
set_option maxHeartbeats 2000000

noncomputable def Tok.number.j0 (s0 : ByteArray) (n2 : Int) (real3 : Bool) : Option (Int × Bool) :=
  chk (0 ≤ n2 ∧ n2 ≤ (s0.size : Int)) <|
  letk (s0.extract n2.toNat s0.size) fun t58 =>
  Option.bind (Tok.exponent t58) fun t59 =>
  letk (decide (t59 > (0 : Int))) fun t61 =>
  bif t61 then
    letk (IntKind.i64.wrap (n2 + t59)) fun t64 =>
    some (t64, true)
  else
    some (n2, real3)

noncomputable def Tok.number.j3 (s0 : ByteArray) (t7 : Int) (t47 : Bool) : Option (Int × Bool) :=
  bif t47 then
    letk (IntKind.i64.wrap (t7 + (1 : Int))) fun t51 =>
    chk (0 ≤ t51 ∧ t51 ≤ (s0.size : Int)) <|
    letk (s0.extract t51.toNat s0.size) fun t52 =>
    Option.bind (Tok.run t52 Tok.isDigit) fun t53 =>
    letk (IntKind.i64.wrap ((1 : Int) + t53)) fun t54 =>
    letk (IntKind.i64.wrap (t7 + t54)) fun t55 =>
    Tok.number.j0 s0 t55 true
  else
    Tok.number.j0 s0 t7 false

noncomputable def Tok.number.j2 (s0 : ByteArray) (t7 : Int) (next4 : ByteArray) : Option (Int × Bool) :=
  letk (next4.toList == (⟨#[]⟩ : ByteArray).toList) fun t37 =>
  bif t37 then
    Tok.number.j3 s0 t7 true
  else
    chk (0 ≤ (0 : Int) ∧ (0 : Int) < (next4.size : Int)) <|
    letk (bt next4 (0 : Int)) fun t40 =>
    Option.bind (Tok.isLetter t40) fun t41 =>
    letk (!t41) fun t42 =>
    bif t42 then
      Tok.number.j3 s0 t7 true
    else
      Option.bind (Strs.Contains ⟨#[101, 69, 100, 68]⟩ next4) fun t46 =>
      Tok.number.j3 s0 t7 t46

noncomputable def Tok.number.j1 (s0 : ByteArray) (t7 : Int) (t24 : Bool) : Option (Int × Bool) :=
  bif t24 then
    letk (IntKind.i64.wrap (t7 + (1 : Int))) fun t26 =>
    letk ((s0.size : Int)) fun t28 =>
    letk (decide (t26 < t28)) fun t29 =>
    bif t29 then
      letk (IntKind.i64.wrap (t7 + (1 : Int))) fun t32 =>
      letk (IntKind.i64.wrap (t7 + (2 : Int))) fun t34 =>
      chk (0 ≤ t32 ∧ t32 ≤ t34 ∧ t34 ≤ (s0.size : Int)) <|
      letk (s0.extract t32.toNat t34.toNat) fun t35 =>
      Tok.number.j2 s0 t7 t35
    else
      Tok.number.j2 s0 t7 (⟨#[]⟩)
  else
    Tok.number.j0 s0 t7 false

noncomputable def Tok.number (s0 : ByteArray) : Option (Int × Bool) :=
  Option.bind (Tok.run s0 Tok.isDigit) fun t7 =>
  letk ((s0.size : Int)) fun t10 =>
  letk (decide (t7 < t10)) fun t11 =>
  bif t11 then
    chk (0 ≤ t7 ∧ t7 < (s0.size : Int)) <|
    letk (bt s0 t7) fun t15 =>
    letk (t15 == (46 : Int)) fun t16 =>
    bif t16 then
      chk (0 ≤ t7 ∧ t7 ≤ (s0.size : Int)) <|
      letk (s0.extract t7.toNat s0.size) fun t21 =>
      Option.bind (Tok.word t21) fun t22 =>
      letk (t22.toList == (⟨#[]⟩ : ByteArray).toList) fun t23 =>
      Tok.number.j1 s0 t7 t23
    else
      Tok.number.j1 s0 t7 false
  else
    Tok.number.j1 s0 t7 false

theorem Tok.number_ok {s0 : ByteArray} {r : Int × Bool} (h0 : Tok.number s0 = some r) : Gives Tryz.prog 38 [.lit (.string s0)] (.tup [.lit (.int .i64 r.1), .lit (.bool r.2)]) := by
  unfold Tok.number at h0
  refine ACalls.of_swp Tryz.func38 rfl (by decide) rfl (st0 := ⟨67, [(0, .lit (.string s0))], []⟩) rfl (bwp_ok (C := [(0, 9), (34, 7), (0, 6), (57, 15)]) ?_)
  obtain ⟨t7, et7, h1⟩ := bind_elim h0; clear h0
  conv => whnf
  refine Gate.go ?_
  conv => whnf
  refine CallN.by (v := .lit (.int .i64 t7)) (Tok.run_ok (show List.all [] pureQ.pureQ0 = true from rfl) (fun _ r h => Tok.isDigit_ok h) et7) rfl rfl ?_
  conv => whnf
  refine CutN.of (fun s => ∃ (n2 : Int) (real3 : Bool), Tok.number.j0 s0 n2 real3 = some r ∧ s = (⟨67, [(0, .lit (.string s0)), (2, .lit (.int .i64 n2)), (3, .lit (.bool real3))], []⟩ : St)) ?_ ?_
  · conv => whnf
    refine CutN.of (fun s => ∃ (t24 : Bool), Tok.number.j1 s0 t7 t24 = some r ∧ s = (⟨67, [(0, .lit (.string s0)), (2, .lit (.int .i64 t7)), (3, .lit (.bool false)), (24, .lit (.bool t24))], []⟩ : St)) ?_ ?_
    · obtain ⟨t10, et10, h2⟩ := letk_elim h1; clear h1
      conv => whnf
      refine Nm.mk ⟨t10, et10, ?_⟩
      obtain ⟨t11, et11, h3⟩ := letk_elim h2; clear h2
      conv => whnf
      refine Nm.mk ⟨t11, et11, ?_⟩
      rcases t11 with _ | _
      · have h4 := bif_f h3
        clear h3
        exact BackS.of (Sees.of (Weak.objs (keep := []) (frz := []) (m := 0) (ts := [(0, .lit (.string s0)), (2, .lit (.int .i64 t7)), (3, .lit (.bool false)), (24, .lit (.bool false))]) (hs := []) rfl (by decide) rfl rfl ⟨rfl, fun _ h => by cases h⟩ ⟨(.same (.lit (.string s0)) rfl), (.same (.lit (.int .i64 t7)) rfl), (.same (.lit (.bool false)) rfl), (.same (.lit (.bool false)) rfl), trivial⟩)) ⟨_, h4, rfl⟩
      · have h4 := bif_t h3
        clear h3
        obtain ⟨ch5, h5⟩ := chk_elim h4; clear h4
        obtain ⟨t15, et15, h6⟩ := letk_elim h5; clear h5
        conv => whnf
        refine Side.mk ch5 ?_
        conv => whnf
        refine Nm.mk ⟨t15, et15, ?_⟩
        obtain ⟨t16, et16, h7⟩ := letk_elim h6; clear h6
        conv => whnf
        refine Nm.mk ⟨t16, et16, ?_⟩
        rcases t16 with _ | _
        · have h8 := bif_f h7
          clear h7
          exact BackS.of (Sees.of (Weak.objs (keep := []) (frz := []) (m := 0) (ts := [(0, .lit (.string s0)), (2, .lit (.int .i64 t7)), (3, .lit (.bool false)), (24, .lit (.bool false))]) (hs := []) rfl (by decide) rfl rfl ⟨rfl, fun _ h => by cases h⟩ ⟨(.same (.lit (.string s0)) rfl), (.same (.lit (.int .i64 t7)) rfl), (.same (.lit (.bool false)) rfl), (.same (.lit (.bool false)) rfl), trivial⟩)) ⟨_, h8, rfl⟩
        · have h8 := bif_t h7
          clear h7
          obtain ⟨ch9, h9⟩ := chk_elim h8; clear h8
          obtain ⟨t21, et21, h10⟩ := letk_elim h9; clear h9
          conv => whnf
          refine Side.mk ch9 ?_
          conv => whnf
          refine Nm.mk ⟨t21, et21, ?_⟩
          obtain ⟨t22, et22, h11⟩ := bind_elim h10; clear h10
          conv => whnf
          refine Gate.go ?_
          conv => whnf
          refine CallN.by (v := .lit (.string t22)) (Tok.word_ok et22) rfl rfl ?_
          obtain ⟨t23, et23, h12⟩ := letk_elim h11; clear h11
          conv => whnf
          refine Nm.mk ⟨t23, et23, ?_⟩
          exact BackS.of (Sees.of (Weak.objs (keep := []) (frz := []) (m := 0) (ts := [(0, .lit (.string s0)), (2, .lit (.int .i64 t7)), (3, .lit (.bool false)), (24, .lit (.bool t23))]) (hs := []) rfl (by decide) rfl rfl ⟨rfl, fun _ h => by cases h⟩ ⟨(.same (.lit (.string s0)) rfl), (.same (.lit (.int .i64 t7)) rfl), (.same (.lit (.bool false)) rfl), (.same (.lit (.bool t23)) rfl), trivial⟩)) ⟨_, h12, rfl⟩
    · clear h1
      rintro s ⟨t24, hj0, rfl⟩
      unfold Tok.number.j1 at hj0
      rcases t24 with _ | _
      · have hj1 := bif_f hj0
        clear hj0
        exact BackS.of (Sees.of (Weak.objs (keep := []) (frz := []) (m := 0) (ts := [(0, .lit (.string s0)), (2, .lit (.int .i64 t7)), (3, .lit (.bool false))]) (hs := []) rfl (by decide) rfl rfl ⟨rfl, fun _ h => by cases h⟩ ⟨(.same (.lit (.string s0)) rfl), (.same (.lit (.int .i64 t7)) rfl), (.same (.lit (.bool false)) rfl), trivial⟩)) ⟨_, _, hj1, rfl⟩
      · have hj1 := bif_t hj0
        clear hj0
        conv => whnf
        refine CutN.of (fun s => ∃ (next4 : ByteArray), Tok.number.j2 s0 t7 next4 = some r ∧ s = (⟨67, [(0, .lit (.string s0)), (2, .lit (.int .i64 t7)), (3, .lit (.bool false)), (4, .lit (.string next4))], []⟩ : St)) ?_ ?_
        · obtain ⟨t26, et26, hj2⟩ := letk_elim hj1; clear hj1
          conv => whnf
          refine Nm.mk ⟨t26, et26, ?_⟩
          obtain ⟨t28, et28, hj3⟩ := letk_elim hj2; clear hj2
          conv => whnf
          refine Nm.mk ⟨t28, et28, ?_⟩
          obtain ⟨t29, et29, hj4⟩ := letk_elim hj3; clear hj3
          conv => whnf
          refine Nm.mk ⟨t29, et29, ?_⟩
          rcases t29 with _ | _
          · have hj5 := bif_f hj4
            clear hj4
            exact BackS.of (Sees.of (Weak.objs (keep := []) (frz := []) (m := 0) (ts := [(0, .lit (.string s0)), (2, .lit (.int .i64 t7)), (3, .lit (.bool false)), (4, .lit (.string ((⟨#[]⟩))))]) (hs := []) rfl (by decide) rfl rfl ⟨rfl, fun _ h => by cases h⟩ ⟨(.same (.lit (.string s0)) rfl), (.same (.lit (.int .i64 t7)) rfl), (.same (.lit (.bool false)) rfl), (.same (.lit (.string (⟨#[]⟩))) rfl), trivial⟩)) ⟨_, hj5, rfl⟩
          · have hj5 := bif_t hj4
            clear hj4
            obtain ⟨t32, et32, hj6⟩ := letk_elim hj5; clear hj5
            conv => whnf
            refine Nm.mk ⟨t32, et32, ?_⟩
            obtain ⟨t34, et34, hj7⟩ := letk_elim hj6; clear hj6
            conv => whnf
            refine Nm.mk ⟨t34, et34, ?_⟩
            obtain ⟨chj8, hj8⟩ := chk_elim hj7; clear hj7
            obtain ⟨t35, et35, hj9⟩ := letk_elim hj8; clear hj8
            conv => whnf
            refine Side.mk chj8 ?_
            conv => whnf
            refine Nm.mk ⟨t35, et35, ?_⟩
            exact BackS.of (Sees.of (Weak.objs (keep := []) (frz := []) (m := 0) (ts := [(0, .lit (.string s0)), (2, .lit (.int .i64 t7)), (3, .lit (.bool false)), (4, .lit (.string t35))]) (hs := []) rfl (by decide) rfl rfl ⟨rfl, fun _ h => by cases h⟩ ⟨(.same (.lit (.string s0)) rfl), (.same (.lit (.int .i64 t7)) rfl), (.same (.lit (.bool false)) rfl), (.same (.lit (.string t35)) rfl), trivial⟩)) ⟨_, hj9, rfl⟩
        · clear hj1
          rintro s ⟨next4, hj0, rfl⟩
          unfold Tok.number.j2 at hj0
          conv => whnf
          refine CutN.of (fun s => ∃ (t47 : Bool), Tok.number.j3 s0 t7 t47 = some r ∧ s = (⟨67, [(0, .lit (.string s0)), (2, .lit (.int .i64 t7)), (3, .lit (.bool false)), (47, .lit (.bool t47))], []⟩ : St)) ?_ ?_
          · obtain ⟨t37, et37, hj1⟩ := letk_elim hj0; clear hj0
            conv => whnf
            refine Nm.mk ⟨t37, et37, ?_⟩
            rcases t37 with _ | _
            · have hj2 := bif_f hj1
              clear hj1
              obtain ⟨chj3, hj3⟩ := chk_elim hj2; clear hj2
              obtain ⟨t40, et40, hj4⟩ := letk_elim hj3; clear hj3
              conv => whnf
              refine Side.mk chj3 ?_
              conv => whnf
              refine Nm.mk ⟨t40, et40, ?_⟩
              obtain ⟨t41, et41, hj5⟩ := bind_elim hj4; clear hj4
              conv => whnf
              refine Gate.go ?_
              conv => whnf
              refine CallN.by (v := .lit (.bool t41)) (Tok.isLetter_ok et41) rfl rfl ?_
              obtain ⟨t42, et42, hj6⟩ := letk_elim hj5; clear hj5
              conv => whnf
              refine Nm.mk ⟨t42, et42, ?_⟩
              rcases t42 with _ | _
              · have hj7 := bif_f hj6
                clear hj6
                obtain ⟨t46, et46, hj8⟩ := bind_elim hj7; clear hj7
                conv => whnf
                refine Gate.go ?_
                conv => whnf
                refine CallN.by (v := .lit (.bool t46)) (Strs.Contains_ok et46) rfl rfl ?_
                exact BackS.of (Sees.of (Weak.objs (keep := []) (frz := []) (m := 0) (ts := [(0, .lit (.string s0)), (2, .lit (.int .i64 t7)), (3, .lit (.bool false)), (47, .lit (.bool t46))]) (hs := []) rfl (by decide) rfl rfl ⟨rfl, fun _ h => by cases h⟩ ⟨(.same (.lit (.string s0)) rfl), (.same (.lit (.int .i64 t7)) rfl), (.same (.lit (.bool false)) rfl), (.same (.lit (.bool t46)) rfl), trivial⟩)) ⟨_, hj8, rfl⟩
              · have hj7 := bif_t hj6
                clear hj6
                exact BackS.of (Sees.of (Weak.objs (keep := []) (frz := []) (m := 0) (ts := [(0, .lit (.string s0)), (2, .lit (.int .i64 t7)), (3, .lit (.bool false)), (47, .lit (.bool true))]) (hs := []) rfl (by decide) rfl rfl ⟨rfl, fun _ h => by cases h⟩ ⟨(.same (.lit (.string s0)) rfl), (.same (.lit (.int .i64 t7)) rfl), (.same (.lit (.bool false)) rfl), (.same (.lit (.bool true)) rfl), trivial⟩)) ⟨_, hj7, rfl⟩
            · have hj2 := bif_t hj1
              clear hj1
              exact BackS.of (Sees.of (Weak.objs (keep := []) (frz := []) (m := 0) (ts := [(0, .lit (.string s0)), (2, .lit (.int .i64 t7)), (3, .lit (.bool false)), (47, .lit (.bool true))]) (hs := []) rfl (by decide) rfl rfl ⟨rfl, fun _ h => by cases h⟩ ⟨(.same (.lit (.string s0)) rfl), (.same (.lit (.int .i64 t7)) rfl), (.same (.lit (.bool false)) rfl), (.same (.lit (.bool true)) rfl), trivial⟩)) ⟨_, hj2, rfl⟩
          · clear hj0
            rintro s ⟨t47, hj0, rfl⟩
            unfold Tok.number.j3 at hj0
            rcases t47 with _ | _
            · have hj1 := bif_f hj0
              clear hj0
              exact BackS.of (Sees.of (Weak.objs (keep := []) (frz := []) (m := 0) (ts := [(0, .lit (.string s0)), (2, .lit (.int .i64 t7)), (3, .lit (.bool false))]) (hs := []) rfl (by decide) rfl rfl ⟨rfl, fun _ h => by cases h⟩ ⟨(.same (.lit (.string s0)) rfl), (.same (.lit (.int .i64 t7)) rfl), (.same (.lit (.bool false)) rfl), trivial⟩)) ⟨_, _, hj1, rfl⟩
            · have hj1 := bif_t hj0
              clear hj0
              obtain ⟨t51, et51, hj2⟩ := letk_elim hj1; clear hj1
              conv => whnf
              refine Nm.mk ⟨t51, et51, ?_⟩
              obtain ⟨chj3, hj3⟩ := chk_elim hj2; clear hj2
              obtain ⟨t52, et52, hj4⟩ := letk_elim hj3; clear hj3
              conv => whnf
              refine Side.mk chj3 ?_
              conv => whnf
              refine Nm.mk ⟨t52, et52, ?_⟩
              obtain ⟨t53, et53, hj5⟩ := bind_elim hj4; clear hj4
              conv => whnf
              refine Gate.go ?_
              conv => whnf
              refine CallN.by (v := .lit (.int .i64 t53)) (Tok.run_ok (show List.all [] pureQ.pureQ0 = true from rfl) (fun _ r h => Tok.isDigit_ok h) et53) rfl rfl ?_
              obtain ⟨t54, et54, hj6⟩ := letk_elim hj5; clear hj5
              conv => whnf
              refine Nm.mk ⟨t54, et54, ?_⟩
              obtain ⟨t55, et55, hj7⟩ := letk_elim hj6; clear hj6
              conv => whnf
              refine Nm.mk ⟨t55, et55, ?_⟩
              exact BackS.of (Sees.of (Weak.objs (keep := []) (frz := []) (m := 0) (ts := [(0, .lit (.string s0)), (2, .lit (.int .i64 t55)), (3, .lit (.bool true))]) (hs := []) rfl (by decide) rfl rfl ⟨rfl, fun _ h => by cases h⟩ ⟨(.same (.lit (.string s0)) rfl), (.same (.lit (.int .i64 t55)) rfl), (.same (.lit (.bool true)) rfl), trivial⟩)) ⟨_, _, hj7, rfl⟩
  · clear h1
    rintro s ⟨n2, real3, hj0, rfl⟩
    unfold Tok.number.j0 at hj0
    obtain ⟨chj1, hj1⟩ := chk_elim hj0; clear hj0
    obtain ⟨t58, et58, hj2⟩ := letk_elim hj1; clear hj1
    conv => whnf
    refine Side.mk chj1 ?_
    conv => whnf
    refine Nm.mk ⟨t58, et58, ?_⟩
    obtain ⟨t59, et59, hj3⟩ := bind_elim hj2; clear hj2
    conv => whnf
    refine Gate.go ?_
    conv => whnf
    refine CallN.by (v := .lit (.int .i64 t59)) (Tok.exponent_ok et59) rfl rfl ?_
    obtain ⟨t61, et61, hj4⟩ := letk_elim hj3; clear hj3
    conv => whnf
    refine Nm.mk ⟨t61, et61, ?_⟩
    rcases t61 with _ | _
    · have hj5 := bif_f hj4
      clear hj4
      have ehj5_0 := Option.some.inj hj5
      subst ehj5_0
      conv => whnf
      exact Returns.pure (r := .tup [.lit (.int .i64 n2), .lit (.bool real3)]) rfl rfl rfl rfl ⟨rfl, rfl⟩
    · have hj5 := bif_t hj4
      clear hj4
      obtain ⟨t64, et64, hj6⟩ := letk_elim hj5; clear hj5
      conv => whnf
      refine Nm.mk ⟨t64, et64, ?_⟩
      have ehj6_0 := Option.some.inj hj6
      subst ehj6_0
      conv => whnf
      exact Returns.pure (r := .tup [.lit (.int .i64 t64), .lit (.bool true)]) rfl rfl rfl rfl ⟨rfl, rfl⟩

noncomputable def Tok.isInt (s0 : ByteArray) : Option Bool :=
  letk ((s0.size : Int)) fun t4 =>
  letk (decide (t4 ≥ (1 : Int))) fun t5 =>
  bif t5 then
    letk ((s0.size : Int)) fun t8 =>
    letk (decide (t8 ≤ (10 : Int))) fun t9 =>
    bif t9 then
      Option.bind (Tok.run s0 Tok.isDigit) fun t13 =>
      letk ((s0.size : Int)) fun t15 =>
      letk (t13 == t15) fun t16 =>
      some t16
    else
      some false
  else
    some false

theorem Tok.isInt_ok {s0 : ByteArray} {r : Bool} (h0 : Tok.isInt s0 = some r) : Gives Tryz.prog 19 [.lit (.string s0)] (.lit (.bool r)) := by
  unfold Tok.isInt at h0
  refine ACalls.of_swp Tryz.func19 rfl (by decide) rfl (st0 := ⟨18, [(0, .lit (.string s0))], []⟩) rfl (bwp_ok (C := []) ?_)
  obtain ⟨t4, et4, h1⟩ := letk_elim h0; clear h0
  conv => whnf
  refine Nm.mk ⟨t4, et4, ?_⟩
  obtain ⟨t5, et5, h2⟩ := letk_elim h1; clear h1
  conv => whnf
  refine Nm.mk ⟨t5, et5, ?_⟩
  rcases t5 with _ | _
  · have h3 := bif_f h2
    clear h2
    have eh3_0 := Option.some.inj h3
    subst eh3_0
    conv => whnf
    exact Returns.pure (r := .lit (.bool false)) rfl rfl rfl rfl ⟨rfl, rfl⟩
  · have h3 := bif_t h2
    clear h2
    obtain ⟨t8, et8, h4⟩ := letk_elim h3; clear h3
    conv => whnf
    refine Nm.mk ⟨t8, et8, ?_⟩
    obtain ⟨t9, et9, h5⟩ := letk_elim h4; clear h4
    conv => whnf
    refine Nm.mk ⟨t9, et9, ?_⟩
    rcases t9 with _ | _
    · have h6 := bif_f h5
      clear h5
      have eh6_0 := Option.some.inj h6
      subst eh6_0
      conv => whnf
      exact Returns.pure (r := .lit (.bool false)) rfl rfl rfl rfl ⟨rfl, rfl⟩
    · have h6 := bif_t h5
      clear h5
      obtain ⟨t13, et13, h7⟩ := bind_elim h6; clear h6
      conv => whnf
      refine Gate.go ?_
      conv => whnf
      refine CallN.by (v := .lit (.int .i64 t13)) (Tok.run_ok (show List.all [] pureQ.pureQ0 = true from rfl) (fun _ r h => Tok.isDigit_ok h) et13) rfl rfl ?_
      obtain ⟨t15, et15, h8⟩ := letk_elim h7; clear h7
      conv => whnf
      refine Nm.mk ⟨t15, et15, ?_⟩
      obtain ⟨t16, et16, h9⟩ := letk_elim h8; clear h8
      conv => whnf
      refine Nm.mk ⟨t16, et16, ?_⟩
      have eh9_0 := Option.some.inj h9
      subst eh9_0
      conv => whnf
      exact Returns.pure (r := .lit (.bool t16)) rfl rfl rfl rfl ⟨rfl, rfl⟩

noncomputable def Tok.IsName (s0 : ByteArray) : Option Bool :=
  letk (!(s0.toList == (⟨#[]⟩ : ByteArray).toList)) fun t4 =>
  bif t4 then
    letk ((s0.size : Int)) fun t7 =>
    letk (decide (t7 ≤ (12 : Int))) fun t8 =>
    bif t8 then
      chk (0 ≤ (0 : Int) ∧ (0 : Int) < (s0.size : Int)) <|
      letk (bt s0 (0 : Int)) fun t12 =>
      Option.bind (Tok.isLetter t12) fun t13 =>
      bif t13 then
        Option.bind (Tok.run s0 Tok.isPart) fun t17 =>
        letk ((s0.size : Int)) fun t19 =>
        letk (t17 == t19) fun t20 =>
        bif t20 then
          Option.bind (Tok.small s0) fun t25 =>
          letk (s0.toList == t25.toList) fun t26 =>
          some t26
        else
          some false
      else
        some false
    else
      some false
  else
    some false

theorem Tok.IsName_ok {s0 : ByteArray} {r : Bool} (h0 : Tok.IsName s0 = some r) : Gives Tryz.prog 8 [.lit (.string s0)] (.lit (.bool r)) := by
  unfold Tok.IsName at h0
  refine ACalls.of_swp Tryz.func8 rfl (by decide) rfl (st0 := ⟨28, [(0, .lit (.string s0))], []⟩) rfl (bwp_ok (C := []) ?_)
  obtain ⟨t4, et4, h1⟩ := letk_elim h0; clear h0
  conv => whnf
  refine Nm.mk ⟨t4, et4, ?_⟩
  rcases t4 with _ | _
  · have h2 := bif_f h1
    clear h1
    have eh2_0 := Option.some.inj h2
    subst eh2_0
    conv => whnf
    exact Returns.pure (r := .lit (.bool false)) rfl rfl rfl rfl ⟨rfl, rfl⟩
  · have h2 := bif_t h1
    clear h1
    obtain ⟨t7, et7, h3⟩ := letk_elim h2; clear h2
    conv => whnf
    refine Nm.mk ⟨t7, et7, ?_⟩
    obtain ⟨t8, et8, h4⟩ := letk_elim h3; clear h3
    conv => whnf
    refine Nm.mk ⟨t8, et8, ?_⟩
    rcases t8 with _ | _
    · have h5 := bif_f h4
      clear h4
      have eh5_0 := Option.some.inj h5
      subst eh5_0
      conv => whnf
      exact Returns.pure (r := .lit (.bool false)) rfl rfl rfl rfl ⟨rfl, rfl⟩
    · have h5 := bif_t h4
      clear h4
      obtain ⟨ch6, h6⟩ := chk_elim h5; clear h5
      obtain ⟨t12, et12, h7⟩ := letk_elim h6; clear h6
      conv => whnf
      refine Side.mk ch6 ?_
      conv => whnf
      refine Nm.mk ⟨t12, et12, ?_⟩
      obtain ⟨t13, et13, h8⟩ := bind_elim h7; clear h7
      conv => whnf
      refine Gate.go ?_
      conv => whnf
      refine CallN.by (v := .lit (.bool t13)) (Tok.isLetter_ok et13) rfl rfl ?_
      rcases t13 with _ | _
      · have h9 := bif_f h8
        clear h8
        have eh9_0 := Option.some.inj h9
        subst eh9_0
        conv => whnf
        exact Returns.pure (r := .lit (.bool false)) rfl rfl rfl rfl ⟨rfl, rfl⟩
      · have h9 := bif_t h8
        clear h8
        obtain ⟨t17, et17, h10⟩ := bind_elim h9; clear h9
        conv => whnf
        refine Gate.go ?_
        conv => whnf
        refine CallN.by (v := .lit (.int .i64 t17)) (Tok.run_ok (show List.all [] pureQ.pureQ0 = true from rfl) (fun _ r h => Tok.isPart_ok h) et17) rfl rfl ?_
        obtain ⟨t19, et19, h11⟩ := letk_elim h10; clear h10
        conv => whnf
        refine Nm.mk ⟨t19, et19, ?_⟩
        obtain ⟨t20, et20, h12⟩ := letk_elim h11; clear h11
        conv => whnf
        refine Nm.mk ⟨t20, et20, ?_⟩
        rcases t20 with _ | _
        · have h13 := bif_f h12
          clear h12
          have eh13_0 := Option.some.inj h13
          subst eh13_0
          conv => whnf
          exact Returns.pure (r := .lit (.bool false)) rfl rfl rfl rfl ⟨rfl, rfl⟩
        · have h13 := bif_t h12
          clear h12
          obtain ⟨t25, et25, h14⟩ := bind_elim h13; clear h13
          conv => whnf
          refine Gate.go ?_
          conv => whnf
          refine CallN.by (v := .lit (.string t25)) (Tok.small_ok et25) rfl rfl ?_
          obtain ⟨t26, et26, h15⟩ := letk_elim h14; clear h14
          conv => whnf
          refine Nm.mk ⟨t26, et26, ?_⟩
          have eh15_0 := Option.some.inj h15
          subst eh15_0
          conv => whnf
          exact Returns.pure (r := .lit (.bool t26)) rfl rfl rfl rfl ⟨rfl, rfl⟩

noncomputable def Dec.digitsOf.s0 (s0 : ByteArray) (n3 : Int) : Option (Int ⊕ ByteArray) :=
  letk ((s0.size : Int)) fun t6 =>
  letk (decide (n3 < t6)) fun t7 =>
  bif t7 then
    chk (0 ≤ n3 ∧ n3 < (s0.size : Int)) <|
    letk (bt s0 n3) fun t11 =>
    letk (decide (t11 ≥ (48 : Int))) fun t12 =>
    bif t12 then
      chk (0 ≤ n3 ∧ n3 < (s0.size : Int)) <|
      letk (bt s0 n3) fun t17 =>
      letk (decide (t17 ≤ (57 : Int))) fun t18 =>
      bif t18 then
        letk (IntKind.i64.wrap (n3 + (1 : Int))) fun t21 =>
        some (.inl t21)
      else
        ((
        chk (0 ≤ n3 ∧ n3 ≤ (s0.size : Int)) <|
        letk (s0.extract 0 n3.toNat) fun t24_2 =>
        some t24_2)).map .inr
    else
      ((
      chk (0 ≤ n3 ∧ n3 ≤ (s0.size : Int)) <|
      letk (s0.extract 0 n3.toNat) fun t24_1 =>
      some t24_1)).map .inr
  else
    ((
    chk (0 ≤ n3 ∧ n3 ≤ (s0.size : Int)) <|
    letk (s0.extract 0 n3.toNat) fun t24 =>
    some t24)).map .inr

noncomputable def Dec.digitsOf.l0 (s0 : ByteArray) (n3 : Int) : Option ByteArray := loopO (fun v : Int => Dec.digitsOf.s0 s0 v) n3
theorem Dec.digitsOf.l0_eq (s0 : ByteArray) (n3 : Int) : Dec.digitsOf.l0 s0 n3 = (Dec.digitsOf.s0 s0 n3).bind (Sum.elim (fun v => Dec.digitsOf.l0 s0 v) some) := loopO_eq _ _

noncomputable def Dec.digitsOf (s0 : ByteArray) : Option ByteArray :=
  Dec.digitsOf.l0 s0 0

theorem Dec.digitsOf_ok {s0 : ByteArray} {r : ByteArray} (h0 : Dec.digitsOf s0 = some r) : Gives Tryz.prog 74 [.lit (.string s0)] (.lit (.string r)) := by
  unfold Dec.digitsOf at h0
  refine ACalls.of_swp Tryz.func74 rfl (by decide) rfl (st0 := ⟨25, [(0, .lit (.string s0))], []⟩) rfl (bwp_ok (C := []) ?_)
  conv => whnf
  unfold Dec.digitsOf.l0 at h0
  refine LoopB.of (σ := Int) (ρ := ByteArray) (fun v : Int => Dec.digitsOf.s0 s0 v) (fun v => (⟨25, [(0, .lit (.string s0)), (3, .lit (.int .i64 v))], []⟩ : St)) 0 h0 (BackS.of (Sees.of (Weak.objs (keep := []) (frz := []) (m := 0) (ts := [(0, .lit (.string s0)), (3, .lit (.int .i64 0))]) (hs := []) rfl (by decide) rfl rfl ⟨rfl, fun _ h => by cases h⟩ ⟨(.same (.lit (.string s0)) rfl), (.same (.lit (.int .i64 0)) rfl), trivial⟩)) rfl) ?_
  clear h0
  rintro K1 n3 x1 hs0_0 hl1 hr1
  replace hs0_0 : Dec.digitsOf.s0 s0 n3 = some x1 := hs0_0
  unfold Dec.digitsOf.s0 at hs0_0
  change bwp _ _ _ _ _ (⟨25, [(0, .lit (.string s0)), (3, .lit (.int .i64 n3))], []⟩ : St)
  obtain ⟨t6, et6, hs0_1⟩ := letk_elim hs0_0; clear hs0_0
  conv => whnf
  refine Nm.mk ⟨t6, et6, ?_⟩
  obtain ⟨t7, et7, hs0_2⟩ := letk_elim hs0_1; clear hs0_1
  conv => whnf
  refine Nm.mk ⟨t7, et7, ?_⟩
  rcases t7 with _ | _
  · have hs0_3 := bif_f hs0_2
    clear hs0_2
    obtain ⟨yhs0_3_0, hs0_3u, ehs0_3_0⟩ := map_elim hs0_3
    have ehs0_3_0 := hr1 _ ehs0_3_0.symm
    subst ehs0_3_0
    obtain ⟨chs0_3u0, hs0_3u0⟩ := chk_elim hs0_3u; clear hs0_3u
    obtain ⟨t24, et24, hs0_3u1⟩ := letk_elim hs0_3u0; clear hs0_3u0
    conv => whnf
    refine Side.mk chs0_3u0 ?_
    conv => whnf
    refine Nm.mk ⟨t24, et24, ?_⟩
    have ehs0_3u1_0 := Option.some.inj hs0_3u1
    subst ehs0_3u1_0
    conv => whnf
    exact Returns.pure (r := .lit (.string t24)) rfl rfl rfl rfl ⟨rfl, rfl⟩
  · have hs0_3 := bif_t hs0_2
    clear hs0_2
    obtain ⟨chs0_4, hs0_4⟩ := chk_elim hs0_3; clear hs0_3
    obtain ⟨t11, et11, hs0_5⟩ := letk_elim hs0_4; clear hs0_4
    conv => whnf
    refine Side.mk chs0_4 ?_
    conv => whnf
    refine Nm.mk ⟨t11, et11, ?_⟩
    obtain ⟨t12, et12, hs0_6⟩ := letk_elim hs0_5; clear hs0_5
    conv => whnf
    refine Nm.mk ⟨t12, et12, ?_⟩
    rcases t12 with _ | _
    · have hs0_7 := bif_f hs0_6
      clear hs0_6
      obtain ⟨yhs0_7_0, hs0_7u, ehs0_7_0⟩ := map_elim hs0_7
      have ehs0_7_0 := hr1 _ ehs0_7_0.symm
      subst ehs0_7_0
      obtain ⟨chs0_7u0, hs0_7u0⟩ := chk_elim hs0_7u; clear hs0_7u
      obtain ⟨t24_1, et24_1, hs0_7u1⟩ := letk_elim hs0_7u0; clear hs0_7u0
      conv => whnf
      refine Side.mk chs0_7u0 ?_
      conv => whnf
      refine Nm.mk ⟨t24_1, et24_1, ?_⟩
      have ehs0_7u1_0 := Option.some.inj hs0_7u1
      subst ehs0_7u1_0
      conv => whnf
      exact Returns.pure (r := .lit (.string t24_1)) rfl rfl rfl rfl ⟨rfl, rfl⟩
    · have hs0_7 := bif_t hs0_6
      clear hs0_6
      obtain ⟨chs0_8, hs0_8⟩ := chk_elim hs0_7; clear hs0_7
      obtain ⟨t17, et17, hs0_9⟩ := letk_elim hs0_8; clear hs0_8
      conv => whnf
      refine Side.mk chs0_8 ?_
      conv => whnf
      refine Nm.mk ⟨t17, et17, ?_⟩
      obtain ⟨t18, et18, hs0_10⟩ := letk_elim hs0_9; clear hs0_9
      conv => whnf
      refine Nm.mk ⟨t18, et18, ?_⟩
      rcases t18 with _ | _
      · have hs0_11 := bif_f hs0_10
        clear hs0_10
        obtain ⟨yhs0_11_0, hs0_11u, ehs0_11_0⟩ := map_elim hs0_11
        have ehs0_11_0 := hr1 _ ehs0_11_0.symm
        subst ehs0_11_0
        obtain ⟨chs0_11u0, hs0_11u0⟩ := chk_elim hs0_11u; clear hs0_11u
        obtain ⟨t24_2, et24_2, hs0_11u1⟩ := letk_elim hs0_11u0; clear hs0_11u0
        conv => whnf
        refine Side.mk chs0_11u0 ?_
        conv => whnf
        refine Nm.mk ⟨t24_2, et24_2, ?_⟩
        have ehs0_11u1_0 := Option.some.inj hs0_11u1
        subst ehs0_11u1_0
        conv => whnf
        exact Returns.pure (r := .lit (.string t24_2)) rfl rfl rfl rfl ⟨rfl, rfl⟩
      · have hs0_11 := bif_t hs0_10
        clear hs0_10
        obtain ⟨t21, et21, hs0_12⟩ := letk_elim hs0_11; clear hs0_11
        conv => whnf
        refine Nm.mk ⟨t21, et21, ?_⟩
        exact BackS.of (Sees.of (Weak.objs (keep := []) (frz := []) (m := 0) (ts := [(0, .lit (.string s0)), (3, .lit (.int .i64 t21))]) (hs := []) rfl (by decide) rfl rfl ⟨rfl, fun _ h => by cases h⟩ ⟨(.same (.lit (.string s0)) rfl), (.same (.lit (.int .i64 t21)) rfl), trivial⟩)) ⟨_, hl1 _ (Option.some.inj hs0_12).symm, rfl⟩

noncomputable def Dec.parse.j6 (p2_0_5 : Int) (p2_1_5 : ByteArray) (p2_2_5 : ByteArray) (p2_3_5 : Int) (n7 : Int) : Option (decimal.parsed × Bool) :=
  letk (IntKind.i64.wrap (p2_3_5 + n7)) fun t113 =>
  some ((⟨p2_0_5, p2_1_5, p2_2_5, t113⟩ : decimal.parsed), true)

noncomputable def Dec.parse.j5 (s0_3 : ByteArray) (p2_0_5 : Int) (p2_1_5 : ByteArray) (p2_2_5 : ByteArray) (p2_3_5 : Int) (minus6_1 : Bool) : Option (decimal.parsed × Bool) :=
  Option.bind (Strconv.Atoi s0_3) fun (t104_0, t104_1) =>
  bif minus6_1 then
    letk (IntKind.i64.wrap (0 - t104_0)) fun t109 =>
    Dec.parse.j6 p2_0_5 p2_1_5 p2_2_5 p2_3_5 t109
  else
    Dec.parse.j6 p2_0_5 p2_1_5 p2_2_5 p2_3_5 t104_0

noncomputable def Dec.parse.j7 (s0_3 : ByteArray) (p2_0_6 : Int) (p2_1_6 : ByteArray) (p2_2_6 : ByteArray) (p2_3_6 : Int) (minus6_2 : Bool) (t100 : Bool) : Option (decimal.parsed × Bool) :=
  bif t100 then
    some ((⟨p2_0_6, p2_1_6, p2_2_6, p2_3_6⟩ : decimal.parsed), false)
  else
    Dec.parse.j5 s0_3 p2_0_6 p2_1_6 p2_2_6 p2_3_6 minus6_2

noncomputable def Dec.parse.j4 (s0_3 : ByteArray) (p2_0_4 : Int) (p2_1_4 : ByteArray) (p2_2_4 : ByteArray) (p2_3_4 : Int) (minus6 : Bool) : Option (decimal.parsed × Bool) :=
  letk (s0_3.toList == (⟨#[]⟩ : ByteArray).toList) fun t89 =>
  bif t89 then
    Dec.parse.j7 s0_3 p2_0_4 p2_1_4 p2_2_4 p2_3_4 minus6 true
  else
    letk ((s0_3.size : Int)) fun t92 =>
    letk (decide (t92 > (4 : Int))) fun t93 =>
    bif t93 then
      Dec.parse.j7 s0_3 p2_0_4 p2_1_4 p2_2_4 p2_3_4 minus6 true
    else
      Option.bind (Dec.digitsOf s0_3) fun t97 =>
      letk (!(t97.toList == s0_3.toList)) fun t99 =>
      Dec.parse.j7 s0_3 p2_0_4 p2_1_4 p2_2_4 p2_3_4 minus6 t99

noncomputable def Dec.parse.j3 (s0_2 : ByteArray) (p2_0_3 : Int) (p2_1_3 : ByteArray) (p2_2_3 : ByteArray) (p2_3_3 : Int) : Option (decimal.parsed × Bool) :=
  letk (s0_2.toList == (⟨#[]⟩ : ByteArray).toList) fun t70 =>
  bif t70 then
    some ((⟨p2_0_3, p2_1_3, p2_2_3, p2_3_3⟩ : decimal.parsed), true)
  else
    chk (0 ≤ (1 : Int) ∧ (1 : Int) ≤ (s0_2.size : Int)) <|
    letk (s0_2.extract 0 ((1 : Int).toNat)) fun t73 =>
    Option.bind (Strs.Contains ⟨#[101, 69, 100, 68]⟩ t73) fun t74 =>
    letk (!t74) fun t75 =>
    bif t75 then
      some ((⟨p2_0_3, p2_1_3, p2_2_3, p2_3_3⟩ : decimal.parsed), false)
    else
      chk (0 ≤ (1 : Int) ∧ (1 : Int) ≤ (s0_2.size : Int)) <|
      letk (s0_2.extract (1 : Int).toNat s0_2.size) fun t78 =>
      Option.bind (Strs.HasPrefix t78 ⟨#[45]⟩) fun t80 =>
      bif t80 then
        chk (0 ≤ (1 : Int) ∧ (1 : Int) ≤ (t78.size : Int)) <|
        letk (t78.extract (1 : Int).toNat t78.size) fun t87_1 =>
        Dec.parse.j4 t87_1 p2_0_3 p2_1_3 p2_2_3 p2_3_3 true
      else
        Option.bind (Strs.HasPrefix t78 ⟨#[43]⟩) fun t84 =>
        bif t84 then
          chk (0 ≤ (1 : Int) ∧ (1 : Int) ≤ (t78.size : Int)) <|
          letk (t78.extract (1 : Int).toNat t78.size) fun t87 =>
          Dec.parse.j4 t87 p2_0_3 p2_1_3 p2_2_3 p2_3_3 false
        else
          Dec.parse.j4 t78 p2_0_3 p2_1_3 p2_2_3 p2_3_3 false

noncomputable def Dec.parse.j8 (s0_2 : ByteArray) (p2_0_7 : Int) (p2_1_7 : ByteArray) (p2_2_7 : ByteArray) (p2_3_7 : Int) (t67 : Bool) : Option (decimal.parsed × Bool) :=
  bif t67 then
    some ((⟨p2_0_7, p2_1_7, p2_2_7, p2_3_7⟩ : decimal.parsed), false)
  else
    Dec.parse.j3 s0_2 p2_0_7 p2_1_7 p2_2_7 p2_3_7

noncomputable def Dec.parse.j2 (t37 : ByteArray) (s0_2 : ByteArray) (p2_0_2 : Int) (p2_1_2 : ByteArray) (p2_2_2 : ByteArray) (p2_3_2 : Int) (behind5 : ByteArray) : Option (decimal.parsed × Bool) :=
  chk (((t37.size + behind5.size : Nat) : Int) ≤ 9223372036854775807) <|
  letk (t37 ++ behind5) fun t54 =>
  letk ((t37.size : Int)) fun t56 =>
  letk (t54.toList == (⟨#[]⟩ : ByteArray).toList) fun t61 =>
  bif t61 then
    Dec.parse.j8 s0_2 p2_0_2 p2_1_2 t54 t56 true
  else
    letk ((t54.size : Int)) fun t65 =>
    letk (decide (t65 > (60 : Int))) fun t66 =>
    Dec.parse.j8 s0_2 p2_0_2 p2_1_2 t54 t56 t66

noncomputable def Dec.parse.j1 (s0_1 : ByteArray) (p2_0_1 : Int) (p2_1_1 : ByteArray) (p2_2_1 : ByteArray) (p2_3_1 : Int) : Option (decimal.parsed × Bool) :=
  Option.bind (Dec.digitsOf s0_1) fun t37 =>
  letk ((t37.size : Int)) fun t40 =>
  chk (0 ≤ t40 ∧ t40 ≤ (s0_1.size : Int)) <|
  letk (s0_1.extract t40.toNat s0_1.size) fun t41 =>
  Option.bind (Strs.HasPrefix t41 ⟨#[46]⟩) fun t43 =>
  bif t43 then
    chk (0 ≤ (1 : Int) ∧ (1 : Int) ≤ (t41.size : Int)) <|
    letk (t41.extract (1 : Int).toNat t41.size) fun t45 =>
    Option.bind (Dec.digitsOf t45) fun t46 =>
    letk ((t46.size : Int)) fun t49 =>
    letk (IntKind.i64.wrap ((1 : Int) + t49)) fun t50 =>
    chk (0 ≤ t50 ∧ t50 ≤ (t41.size : Int)) <|
    letk (t41.extract t50.toNat t41.size) fun t51 =>
    Dec.parse.j2 t37 t51 p2_0_1 p2_1_1 p2_2_1 p2_3_1 t46
  else
    Dec.parse.j2 t37 t41 p2_0_1 p2_1_1 p2_2_1 p2_3_1 (⟨#[]⟩)

noncomputable def Dec.parse.j9 (s0_1 : ByteArray) (p2_0 : Int) (p2_1 : ByteArray) (p2_2 : ByteArray) (p2_3 : Int) (t32 : Bool) : Option (decimal.parsed × Bool) :=
  bif t32 then
    some ((⟨p2_0, s0_1, p2_2, p2_3⟩ : decimal.parsed), true)
  else
    Dec.parse.j1 s0_1 p2_0 p2_1 p2_2 p2_3

noncomputable def Dec.parse.j0 (s0_1 : ByteArray) (p2_0 : Int) (p2_1 : ByteArray) (p2_2 : ByteArray) (p2_3 : Int) : Option (decimal.parsed × Bool) :=
  letk (s0_1.toList == (⟨#[105, 110, 102]⟩ : ByteArray).toList) fun t28 =>
  bif t28 then
    Dec.parse.j9 s0_1 p2_0 p2_1 p2_2 p2_3 true
  else
    letk (s0_1.toList == (⟨#[110, 97, 110]⟩ : ByteArray).toList) fun t31 =>
    Dec.parse.j9 s0_1 p2_0 p2_1 p2_2 p2_3 t31

noncomputable def Dec.parse.j10 (s0 : ByteArray) (t20 : Bool) : Option (decimal.parsed × Bool) :=
  bif t20 then
    chk (0 ≤ (0 : Int) ∧ (0 : Int) < (s0.size : Int)) <|
    letk (bt s0 (0 : Int)) fun t22 =>
    letk (t22 == (45 : Int)) fun t23 =>
    bif t23 then
      chk (0 ≤ (1 : Int) ∧ (1 : Int) ≤ (s0.size : Int)) <|
      letk (s0.extract (1 : Int).toNat s0.size) fun t26_1 =>
      Dec.parse.j0 t26_1 1 (⟨#[]⟩) (⟨#[]⟩) 0
    else
      chk (0 ≤ (1 : Int) ∧ (1 : Int) ≤ (s0.size : Int)) <|
      letk (s0.extract (1 : Int).toNat s0.size) fun t26 =>
      Dec.parse.j0 t26 0 (⟨#[]⟩) (⟨#[]⟩) 0
  else
    Dec.parse.j0 s0 0 (⟨#[]⟩) (⟨#[]⟩) 0

noncomputable def Dec.parse (s0 : ByteArray) : Option (decimal.parsed × Bool) :=
  letk (!(s0.toList == (⟨#[]⟩ : ByteArray).toList)) fun t10 =>
  bif t10 then
    chk (0 ≤ (0 : Int) ∧ (0 : Int) < (s0.size : Int)) <|
    letk (bt s0 (0 : Int)) fun t13 =>
    letk (t13 == (45 : Int)) fun t14 =>
    bif t14 then
      Dec.parse.j10 s0 true
    else
      chk (0 ≤ (0 : Int) ∧ (0 : Int) < (s0.size : Int)) <|
      letk (bt s0 (0 : Int)) fun t17 =>
      letk (t17 == (43 : Int)) fun t18 =>
      Dec.parse.j10 s0 t18
  else
    Dec.parse.j10 s0 false

theorem Dec.parse_ok {s0 : ByteArray} {r : decimal.parsed × Bool} (h0 : Dec.parse s0 = some r) : Gives Tryz.prog 51 [.lit (.string s0)] (.tup [decimal.parsed.enc r.1, .lit (.bool r.2)]) := by
  unfold Dec.parse at h0
  refine ACalls.of_swp Tryz.func51 rfl (by decide) rfl (st0 := ⟨116, [(0, .lit (.string s0))], []⟩) rfl (bwp_ok (C := [(0, 5), (0, 8), (0, 14), (0, 17), (0, 25), (0, 27), (0, 30), (110, 53), (77, 33), (42, 13), (30, 5)]) ?_)
  conv => whnf
  refine Nm.mk ⟨[.lit (.int .i64 0), .lit (.string (⟨#[]⟩)), .lit (.string (⟨#[]⟩)), .lit (.int .i64 0)], rfl, ?_⟩
  conv => whnf
  refine CutN.of (fun s => ∃ (s0_1 : ByteArray) (p2_0 : Int) (p2_1 : ByteArray) (p2_2 : ByteArray) (p2_3 : Int), Dec.parse.j0 s0_1 p2_0 p2_1 p2_2 p2_3 = some r ∧ s = (⟨116, [(0, .lit (.string s0_1)), (2, .ptr 0 0)], [.box [.lit (.int .i64 p2_0), .lit (.string p2_1), .lit (.string p2_2), .lit (.int .i64 p2_3)]]⟩ : St)) ?_ ?_
  · conv => whnf
    refine CutN.of (fun s => ∃ (t20 : Bool), Dec.parse.j10 s0 t20 = some r ∧ s = (⟨116, [(0, .lit (.string s0)), (2, .ptr 0 0), (20, .lit (.bool t20))], [.box [.lit (.int .i64 0), .lit (.string (⟨#[]⟩)), .lit (.string (⟨#[]⟩)), .lit (.int .i64 0)]]⟩ : St)) ?_ ?_
    · obtain ⟨t10, et10, h1⟩ := letk_elim h0; clear h0
      conv => whnf
      refine Nm.mk ⟨t10, et10, ?_⟩
      rcases t10 with _ | _
      · have h2 := bif_f h1
        clear h1
        exact BackS.of (Sees.of (Weak.objs (keep := [0]) (frz := []) (m := 0) (ts := [(0, .lit (.string s0)), (2, .ptr 0 0), (20, .lit (.bool false))]) (hs := [.box [.lit (.int .i64 0), .lit (.string (⟨#[]⟩)), .lit (.string (⟨#[]⟩)), .lit (.int .i64 0)]]) rfl (by decide) rfl rfl ⟨⟨_, rfl, WO.boxs ⟨(.same (.lit (.int .i64 0)) rfl), (.same (.lit (.string (⟨#[]⟩))) rfl), (.same (.lit (.string (⟨#[]⟩))) rfl), (.same (.lit (.int .i64 0)) rfl), trivial⟩⟩, ⟨rfl, fun _ h => by cases h⟩⟩ ⟨(.same (.lit (.string s0)) rfl), (.ptr _ _ 0 rfl), (.same (.lit (.bool false)) rfl), trivial⟩)) ⟨_, h2, rfl⟩
      · have h2 := bif_t h1
        clear h1
        obtain ⟨ch3, h3⟩ := chk_elim h2; clear h2
        obtain ⟨t13, et13, h4⟩ := letk_elim h3; clear h3
        conv => whnf
        refine Side.mk ch3 ?_
        conv => whnf
        refine Nm.mk ⟨t13, et13, ?_⟩
        obtain ⟨t14, et14, h5⟩ := letk_elim h4; clear h4
        conv => whnf
        refine Nm.mk ⟨t14, et14, ?_⟩
        rcases t14 with _ | _
        · have h6 := bif_f h5
          clear h5
          obtain ⟨ch7, h7⟩ := chk_elim h6; clear h6
          obtain ⟨t17, et17, h8⟩ := letk_elim h7; clear h7
          conv => whnf
          refine Side.mk ch7 ?_
          conv => whnf
          refine Nm.mk ⟨t17, et17, ?_⟩
          obtain ⟨t18, et18, h9⟩ := letk_elim h8; clear h8
          conv => whnf
          refine Nm.mk ⟨t18, et18, ?_⟩
          exact BackS.of (Sees.of (Weak.objs (keep := [0]) (frz := []) (m := 0) (ts := [(0, .lit (.string s0)), (2, .ptr 0 0), (20, .lit (.bool t18))]) (hs := [.box [.lit (.int .i64 0), .lit (.string (⟨#[]⟩)), .lit (.string (⟨#[]⟩)), .lit (.int .i64 0)]]) rfl (by decide) rfl rfl ⟨⟨_, rfl, WO.boxs ⟨(.same (.lit (.int .i64 0)) rfl), (.same (.lit (.string (⟨#[]⟩))) rfl), (.same (.lit (.string (⟨#[]⟩))) rfl), (.same (.lit (.int .i64 0)) rfl), trivial⟩⟩, ⟨rfl, fun _ h => by cases h⟩⟩ ⟨(.same (.lit (.string s0)) rfl), (.ptr _ _ 0 rfl), (.same (.lit (.bool t18)) rfl), trivial⟩)) ⟨_, h9, rfl⟩
        · have h6 := bif_t h5
          clear h5
          exact BackS.of (Sees.of (Weak.objs (keep := [0]) (frz := []) (m := 0) (ts := [(0, .lit (.string s0)), (2, .ptr 0 0), (20, .lit (.bool true))]) (hs := [.box [.lit (.int .i64 0), .lit (.string (⟨#[]⟩)), .lit (.string (⟨#[]⟩)), .lit (.int .i64 0)]]) rfl (by decide) rfl rfl ⟨⟨_, rfl, WO.boxs ⟨(.same (.lit (.int .i64 0)) rfl), (.same (.lit (.string (⟨#[]⟩))) rfl), (.same (.lit (.string (⟨#[]⟩))) rfl), (.same (.lit (.int .i64 0)) rfl), trivial⟩⟩, ⟨rfl, fun _ h => by cases h⟩⟩ ⟨(.same (.lit (.string s0)) rfl), (.ptr _ _ 0 rfl), (.same (.lit (.bool true)) rfl), trivial⟩)) ⟨_, h6, rfl⟩
    · clear h0
      rintro s ⟨t20, hj0, rfl⟩
      unfold Dec.parse.j10 at hj0
      rcases t20 with _ | _
      · have hj1 := bif_f hj0
        clear hj0
        exact BackS.of (Sees.of (Weak.objs (keep := [0]) (frz := []) (m := 0) (ts := [(0, .lit (.string s0)), (2, .ptr 0 0)]) (hs := [.box [.lit (.int .i64 0), .lit (.string ((⟨#[]⟩))), .lit (.string ((⟨#[]⟩))), .lit (.int .i64 0)]]) rfl (by decide) rfl rfl ⟨⟨_, rfl, WO.boxs ⟨(.same (.lit (.int .i64 0)) rfl), (.same (.lit (.string (⟨#[]⟩))) rfl), (.same (.lit (.string (⟨#[]⟩))) rfl), (.same (.lit (.int .i64 0)) rfl), trivial⟩⟩, ⟨rfl, fun _ h => by cases h⟩⟩ ⟨(.same (.lit (.string s0)) rfl), (.ptr _ _ 0 rfl), trivial⟩)) ⟨_, _, _, _, _, hj1, rfl⟩
      · have hj1 := bif_t hj0
        clear hj0
        obtain ⟨chj2, hj2⟩ := chk_elim hj1; clear hj1
        obtain ⟨t22, et22, hj3⟩ := letk_elim hj2; clear hj2
        conv => whnf
        refine Side.mk chj2 ?_
        conv => whnf
        refine Nm.mk ⟨t22, et22, ?_⟩
        obtain ⟨t23, et23, hj4⟩ := letk_elim hj3; clear hj3
        conv => whnf
        refine Nm.mk ⟨t23, et23, ?_⟩
        rcases t23 with _ | _
        · have hj5 := bif_f hj4
          clear hj4
          obtain ⟨chj6, hj6⟩ := chk_elim hj5; clear hj5
          obtain ⟨t26, et26, hj7⟩ := letk_elim hj6; clear hj6
          conv => whnf
          refine Side.mk chj6 ?_
          conv => whnf
          refine Nm.mk ⟨t26, et26, ?_⟩
          exact BackS.of (Sees.of (Weak.objs (keep := [0]) (frz := []) (m := 0) (ts := [(0, .lit (.string t26)), (2, .ptr 0 0)]) (hs := [.box [.lit (.int .i64 0), .lit (.string ((⟨#[]⟩))), .lit (.string ((⟨#[]⟩))), .lit (.int .i64 0)]]) rfl (by decide) rfl rfl ⟨⟨_, rfl, WO.boxs ⟨(.same (.lit (.int .i64 0)) rfl), (.same (.lit (.string (⟨#[]⟩))) rfl), (.same (.lit (.string (⟨#[]⟩))) rfl), (.same (.lit (.int .i64 0)) rfl), trivial⟩⟩, ⟨rfl, fun _ h => by cases h⟩⟩ ⟨(.same (.lit (.string t26)) rfl), (.ptr _ _ 0 rfl), trivial⟩)) ⟨_, _, _, _, _, hj7, rfl⟩
        · have hj5 := bif_t hj4
          clear hj4
          conv => whnf
          refine Nm.mk ⟨[.lit (.int .i64 1), .lit (.string (⟨#[]⟩)), .lit (.string (⟨#[]⟩)), .lit (.int .i64 0)], rfl, ?_⟩
          obtain ⟨chj6, hj6⟩ := chk_elim hj5; clear hj5
          obtain ⟨t26_1, et26_1, hj7⟩ := letk_elim hj6; clear hj6
          conv => whnf
          refine Side.mk chj6 ?_
          conv => whnf
          refine Nm.mk ⟨t26_1, et26_1, ?_⟩
          exact BackS.of (Sees.of (Weak.objs (keep := [0]) (frz := []) (m := 0) (ts := [(0, .lit (.string t26_1)), (2, .ptr 0 0)]) (hs := [.box [.lit (.int .i64 1), .lit (.string ((⟨#[]⟩))), .lit (.string ((⟨#[]⟩))), .lit (.int .i64 0)]]) rfl (by decide) rfl rfl ⟨⟨_, rfl, WO.boxs ⟨(.same (.lit (.int .i64 1)) rfl), (.same (.lit (.string (⟨#[]⟩))) rfl), (.same (.lit (.string (⟨#[]⟩))) rfl), (.same (.lit (.int .i64 0)) rfl), trivial⟩⟩, ⟨rfl, fun _ h => by cases h⟩⟩ ⟨(.same (.lit (.string t26_1)) rfl), (.ptr _ _ 0 rfl), trivial⟩)) ⟨_, _, _, _, _, hj7, rfl⟩
  · clear h0
    rintro s ⟨s0_1, p2_0, p2_1, p2_2, p2_3, hj0, rfl⟩
    unfold Dec.parse.j0 at hj0
    conv => whnf
    refine CutN.of (fun s => ∃ (p2_0_1 : Int) (p2_1_1 : ByteArray) (p2_2_1 : ByteArray) (p2_3_1 : Int), Dec.parse.j1 s0_1 p2_0_1 p2_1_1 p2_2_1 p2_3_1 = some r ∧ s = (⟨116, [(0, .lit (.string s0_1)), (2, .ptr 0 0)], [.box [.lit (.int .i64 p2_0_1), .lit (.string p2_1_1), .lit (.string p2_2_1), .lit (.int .i64 p2_3_1)]]⟩ : St)) ?_ ?_
    · conv => whnf
      refine CutN.of (fun s => ∃ (t32 : Bool), Dec.parse.j9 s0_1 p2_0 p2_1 p2_2 p2_3 t32 = some r ∧ s = (⟨116, [(0, .lit (.string s0_1)), (2, .ptr 0 0), (32, .lit (.bool t32))], [.box [.lit (.int .i64 p2_0), .lit (.string p2_1), .lit (.string p2_2), .lit (.int .i64 p2_3)]]⟩ : St)) ?_ ?_
      · obtain ⟨t28, et28, hj1⟩ := letk_elim hj0; clear hj0
        conv => whnf
        refine Nm.mk ⟨t28, et28, ?_⟩
        rcases t28 with _ | _
        · have hj2 := bif_f hj1
          clear hj1
          obtain ⟨t31, et31, hj3⟩ := letk_elim hj2; clear hj2
          conv => whnf
          refine Nm.mk ⟨t31, et31, ?_⟩
          exact BackS.of (Sees.of (Weak.objs (keep := [0]) (frz := []) (m := 0) (ts := [(0, .lit (.string s0_1)), (2, .ptr 0 0), (32, .lit (.bool t31))]) (hs := [.box [.lit (.int .i64 p2_0), .lit (.string p2_1), .lit (.string p2_2), .lit (.int .i64 p2_3)]]) rfl (by decide) rfl rfl ⟨⟨_, rfl, WO.boxs ⟨(.same (.lit (.int .i64 p2_0)) rfl), (.same (.lit (.string p2_1)) rfl), (.same (.lit (.string p2_2)) rfl), (.same (.lit (.int .i64 p2_3)) rfl), trivial⟩⟩, ⟨rfl, fun _ h => by cases h⟩⟩ ⟨(.same (.lit (.string s0_1)) rfl), (.ptr _ _ 0 rfl), (.same (.lit (.bool t31)) rfl), trivial⟩)) ⟨_, hj3, rfl⟩
        · have hj2 := bif_t hj1
          clear hj1
          exact BackS.of (Sees.of (Weak.objs (keep := [0]) (frz := []) (m := 0) (ts := [(0, .lit (.string s0_1)), (2, .ptr 0 0), (32, .lit (.bool true))]) (hs := [.box [.lit (.int .i64 p2_0), .lit (.string p2_1), .lit (.string p2_2), .lit (.int .i64 p2_3)]]) rfl (by decide) rfl rfl ⟨⟨_, rfl, WO.boxs ⟨(.same (.lit (.int .i64 p2_0)) rfl), (.same (.lit (.string p2_1)) rfl), (.same (.lit (.string p2_2)) rfl), (.same (.lit (.int .i64 p2_3)) rfl), trivial⟩⟩, ⟨rfl, fun _ h => by cases h⟩⟩ ⟨(.same (.lit (.string s0_1)) rfl), (.ptr _ _ 0 rfl), (.same (.lit (.bool true)) rfl), trivial⟩)) ⟨_, hj2, rfl⟩
      · clear hj0
        rintro s ⟨t32, hj0, rfl⟩
        unfold Dec.parse.j9 at hj0
        rcases t32 with _ | _
        · have hj1 := bif_f hj0
          clear hj0
          exact BackS.of (Sees.of (Weak.objs (keep := [0]) (frz := []) (m := 0) (ts := [(0, .lit (.string s0_1)), (2, .ptr 0 0)]) (hs := [.box [.lit (.int .i64 p2_0), .lit (.string p2_1), .lit (.string p2_2), .lit (.int .i64 p2_3)]]) rfl (by decide) rfl rfl ⟨⟨_, rfl, WO.boxs ⟨(.same (.lit (.int .i64 p2_0)) rfl), (.same (.lit (.string p2_1)) rfl), (.same (.lit (.string p2_2)) rfl), (.same (.lit (.int .i64 p2_3)) rfl), trivial⟩⟩, ⟨rfl, fun _ h => by cases h⟩⟩ ⟨(.same (.lit (.string s0_1)) rfl), (.ptr _ _ 0 rfl), trivial⟩)) ⟨_, _, _, _, hj1, rfl⟩
        · have hj1 := bif_t hj0
          clear hj0
          conv => whnf
          refine Nm.mk ⟨[.lit (.int .i64 p2_0), .lit (.string s0_1), .lit (.string p2_2), .lit (.int .i64 p2_3)], rfl, ?_⟩
          conv => whnf
          refine Nm.mk ⟨[.lit (.int .i64 p2_0), .lit (.string s0_1), .lit (.string p2_2), .lit (.int .i64 p2_3)], rfl, ?_⟩
          have ehj1_0 := Option.some.inj hj1
          subst ehj1_0
          conv => whnf
          exact Returns.pure (r := .tup [decimal.parsed.enc ((⟨p2_0, s0_1, p2_2, p2_3⟩ : decimal.parsed)), .lit (.bool true)]) rfl rfl rfl rfl ⟨rfl, rfl⟩
    · clear hj0
      rintro s ⟨p2_0_1, p2_1_1, p2_2_1, p2_3_1, hj0, rfl⟩
      unfold Dec.parse.j1 at hj0
      obtain ⟨t37, et37, hj1⟩ := bind_elim hj0; clear hj0
      conv => whnf
      refine Gate.go ?_
      conv => whnf
      refine CallN.by (v := .lit (.string t37)) (Dec.digitsOf_ok et37) rfl rfl ?_
      obtain ⟨t40, et40, hj2⟩ := letk_elim hj1; clear hj1
      conv => whnf
      refine Nm.mk ⟨t40, et40, ?_⟩
      obtain ⟨chj3, hj3⟩ := chk_elim hj2; clear hj2
      obtain ⟨t41, et41, hj4⟩ := letk_elim hj3; clear hj3
      conv => whnf
      refine Side.mk chj3 ?_
      conv => whnf
      refine Nm.mk ⟨t41, et41, ?_⟩
      conv => whnf
      refine CutN.of (fun s => ∃ (s0_2 : ByteArray) (p2_0_2 : Int) (p2_1_2 : ByteArray) (p2_2_2 : ByteArray) (p2_3_2 : Int) (behind5 : ByteArray), Dec.parse.j2 t37 s0_2 p2_0_2 p2_1_2 p2_2_2 p2_3_2 behind5 = some r ∧ s = (⟨116, [(0, .lit (.string s0_2)), (2, .ptr 0 0), (4, .lit (.string t37)), (5, .lit (.string behind5))], [.box [.lit (.int .i64 p2_0_2), .lit (.string p2_1_2), .lit (.string p2_2_2), .lit (.int .i64 p2_3_2)]]⟩ : St)) ?_ ?_
      · obtain ⟨t43, et43, hj5⟩ := bind_elim hj4; clear hj4
        conv => whnf
        refine Gate.go ?_
        conv => whnf
        refine CallN.by (v := .lit (.bool t43)) (Strs.HasPrefix_ok et43) rfl rfl ?_
        rcases t43 with _ | _
        · have hj6 := bif_f hj5
          clear hj5
          exact BackS.of (Sees.of (Weak.objs (keep := [0]) (frz := []) (m := 0) (ts := [(0, .lit (.string t41)), (2, .ptr 0 0), (4, .lit (.string t37)), (5, .lit (.string ((⟨#[]⟩))))]) (hs := [.box [.lit (.int .i64 p2_0_1), .lit (.string p2_1_1), .lit (.string p2_2_1), .lit (.int .i64 p2_3_1)]]) rfl (by decide) rfl rfl ⟨⟨_, rfl, WO.boxs ⟨(.same (.lit (.int .i64 p2_0_1)) rfl), (.same (.lit (.string p2_1_1)) rfl), (.same (.lit (.string p2_2_1)) rfl), (.same (.lit (.int .i64 p2_3_1)) rfl), trivial⟩⟩, ⟨rfl, fun _ h => by cases h⟩⟩ ⟨(.same (.lit (.string t41)) rfl), (.ptr _ _ 0 rfl), (.same (.lit (.string t37)) rfl), (.same (.lit (.string (⟨#[]⟩))) rfl), trivial⟩)) ⟨_, _, _, _, _, _, hj6, rfl⟩
        · have hj6 := bif_t hj5
          clear hj5
          obtain ⟨chj7, hj7⟩ := chk_elim hj6; clear hj6
          obtain ⟨t45, et45, hj8⟩ := letk_elim hj7; clear hj7
          conv => whnf
          refine Side.mk chj7 ?_
          conv => whnf
          refine Nm.mk ⟨t45, et45, ?_⟩
          obtain ⟨t46, et46, hj9⟩ := bind_elim hj8; clear hj8
          conv => whnf
          refine Gate.go ?_
          conv => whnf
          refine CallN.by (v := .lit (.string t46)) (Dec.digitsOf_ok et46) rfl rfl ?_
          obtain ⟨t49, et49, hj10⟩ := letk_elim hj9; clear hj9
          conv => whnf
          refine Nm.mk ⟨t49, et49, ?_⟩
          obtain ⟨t50, et50, hj11⟩ := letk_elim hj10; clear hj10
          conv => whnf
          refine Nm.mk ⟨t50, et50, ?_⟩
          obtain ⟨chj12, hj12⟩ := chk_elim hj11; clear hj11
          obtain ⟨t51, et51, hj13⟩ := letk_elim hj12; clear hj12
          conv => whnf
          refine Side.mk chj12 ?_
          conv => whnf
          refine Nm.mk ⟨t51, et51, ?_⟩
          exact BackS.of (Sees.of (Weak.objs (keep := [0]) (frz := []) (m := 0) (ts := [(0, .lit (.string t51)), (2, .ptr 0 0), (4, .lit (.string t37)), (5, .lit (.string t46))]) (hs := [.box [.lit (.int .i64 p2_0_1), .lit (.string p2_1_1), .lit (.string p2_2_1), .lit (.int .i64 p2_3_1)]]) rfl (by decide) rfl rfl ⟨⟨_, rfl, WO.boxs ⟨(.same (.lit (.int .i64 p2_0_1)) rfl), (.same (.lit (.string p2_1_1)) rfl), (.same (.lit (.string p2_2_1)) rfl), (.same (.lit (.int .i64 p2_3_1)) rfl), trivial⟩⟩, ⟨rfl, fun _ h => by cases h⟩⟩ ⟨(.same (.lit (.string t51)) rfl), (.ptr _ _ 0 rfl), (.same (.lit (.string t37)) rfl), (.same (.lit (.string t46)) rfl), trivial⟩)) ⟨_, _, _, _, _, _, hj13, rfl⟩
      · clear hj4
        rintro s ⟨s0_2, p2_0_2, p2_1_2, p2_2_2, p2_3_2, behind5, hj0, rfl⟩
        unfold Dec.parse.j2 at hj0
        obtain ⟨chj1, hj1⟩ := chk_elim hj0; clear hj0
        obtain ⟨t54, et54, hj2⟩ := letk_elim hj1; clear hj1
        conv => whnf
        refine Side.mk chj1 ?_
        conv => whnf
        refine Nm.mk ⟨t54, et54, ?_⟩
        obtain ⟨t56, et56, hj3⟩ := letk_elim hj2; clear hj2
        conv => whnf
        refine Nm.mk ⟨t56, et56, ?_⟩
        conv => whnf
        refine Nm.mk ⟨[.lit (.int .i64 p2_0_2), .lit (.string p2_1_2), .lit (.string t54), .lit (.int .i64 p2_3_2)], rfl, ?_⟩
        conv => whnf
        refine Nm.mk ⟨[.lit (.int .i64 p2_0_2), .lit (.string p2_1_2), .lit (.string t54), .lit (.int .i64 t56)], rfl, ?_⟩
        conv => whnf
        refine CutN.of (fun s => ∃ (p2_0_3 : Int) (p2_1_3 : ByteArray) (p2_2_3 : ByteArray) (p2_3_3 : Int), Dec.parse.j3 s0_2 p2_0_3 p2_1_3 p2_2_3 p2_3_3 = some r ∧ s = (⟨116, [(0, .lit (.string s0_2)), (2, .ptr 0 0)], [.box [.lit (.int .i64 p2_0_3), .lit (.string p2_1_3), .lit (.string p2_2_3), .lit (.int .i64 p2_3_3)]]⟩ : St)) ?_ ?_
        · conv => whnf
          refine CutN.of (fun s => ∃ (p2_0_7 : Int) (p2_1_7 : ByteArray) (p2_2_7 : ByteArray) (p2_3_7 : Int) (t67 : Bool), Dec.parse.j8 s0_2 p2_0_7 p2_1_7 p2_2_7 p2_3_7 t67 = some r ∧ s = (⟨116, [(0, .lit (.string s0_2)), (2, .ptr 0 0), (67, .lit (.bool t67))], [.box [.lit (.int .i64 p2_0_7), .lit (.string p2_1_7), .lit (.string p2_2_7), .lit (.int .i64 p2_3_7)]]⟩ : St)) ?_ ?_
          · obtain ⟨t61, et61, hj4⟩ := letk_elim hj3; clear hj3
            conv => whnf
            refine Nm.mk ⟨t61, et61, ?_⟩
            rcases t61 with _ | _
            · have hj5 := bif_f hj4
              clear hj4
              obtain ⟨t65, et65, hj6⟩ := letk_elim hj5; clear hj5
              conv => whnf
              refine Nm.mk ⟨t65, et65, ?_⟩
              obtain ⟨t66, et66, hj7⟩ := letk_elim hj6; clear hj6
              conv => whnf
              refine Nm.mk ⟨t66, et66, ?_⟩
              exact BackS.of (Sees.of (Weak.objs (keep := [0]) (frz := []) (m := 0) (ts := [(0, .lit (.string s0_2)), (2, .ptr 0 0), (67, .lit (.bool t66))]) (hs := [.box [.lit (.int .i64 p2_0_2), .lit (.string p2_1_2), .lit (.string t54), .lit (.int .i64 t56)]]) rfl (by decide) rfl rfl ⟨⟨_, rfl, WO.boxs ⟨(.same (.lit (.int .i64 p2_0_2)) rfl), (.same (.lit (.string p2_1_2)) rfl), (.same (.lit (.string t54)) rfl), (.same (.lit (.int .i64 t56)) rfl), trivial⟩⟩, ⟨rfl, fun _ h => by cases h⟩⟩ ⟨(.same (.lit (.string s0_2)) rfl), (.ptr _ _ 0 rfl), (.same (.lit (.bool t66)) rfl), trivial⟩)) ⟨_, _, _, _, _, hj7, rfl⟩
            · have hj5 := bif_t hj4
              clear hj4
              exact BackS.of (Sees.of (Weak.objs (keep := [0]) (frz := []) (m := 0) (ts := [(0, .lit (.string s0_2)), (2, .ptr 0 0), (67, .lit (.bool true))]) (hs := [.box [.lit (.int .i64 p2_0_2), .lit (.string p2_1_2), .lit (.string t54), .lit (.int .i64 t56)]]) rfl (by decide) rfl rfl ⟨⟨_, rfl, WO.boxs ⟨(.same (.lit (.int .i64 p2_0_2)) rfl), (.same (.lit (.string p2_1_2)) rfl), (.same (.lit (.string t54)) rfl), (.same (.lit (.int .i64 t56)) rfl), trivial⟩⟩, ⟨rfl, fun _ h => by cases h⟩⟩ ⟨(.same (.lit (.string s0_2)) rfl), (.ptr _ _ 0 rfl), (.same (.lit (.bool true)) rfl), trivial⟩)) ⟨_, _, _, _, _, hj5, rfl⟩
          · clear hj3
            rintro s ⟨p2_0_7, p2_1_7, p2_2_7, p2_3_7, t67, hj0, rfl⟩
            unfold Dec.parse.j8 at hj0
            rcases t67 with _ | _
            · have hj1 := bif_f hj0
              clear hj0
              exact BackS.of (Sees.of (Weak.objs (keep := [0]) (frz := []) (m := 0) (ts := [(0, .lit (.string s0_2)), (2, .ptr 0 0)]) (hs := [.box [.lit (.int .i64 p2_0_7), .lit (.string p2_1_7), .lit (.string p2_2_7), .lit (.int .i64 p2_3_7)]]) rfl (by decide) rfl rfl ⟨⟨_, rfl, WO.boxs ⟨(.same (.lit (.int .i64 p2_0_7)) rfl), (.same (.lit (.string p2_1_7)) rfl), (.same (.lit (.string p2_2_7)) rfl), (.same (.lit (.int .i64 p2_3_7)) rfl), trivial⟩⟩, ⟨rfl, fun _ h => by cases h⟩⟩ ⟨(.same (.lit (.string s0_2)) rfl), (.ptr _ _ 0 rfl), trivial⟩)) ⟨_, _, _, _, hj1, rfl⟩
            · have hj1 := bif_t hj0
              clear hj0
              conv => whnf
              refine Nm.mk ⟨[.lit (.int .i64 p2_0_7), .lit (.string p2_1_7), .lit (.string p2_2_7), .lit (.int .i64 p2_3_7)], rfl, ?_⟩
              have ehj1_0 := Option.some.inj hj1
              subst ehj1_0
              conv => whnf
              exact Returns.pure (r := .tup [decimal.parsed.enc ((⟨p2_0_7, p2_1_7, p2_2_7, p2_3_7⟩ : decimal.parsed)), .lit (.bool false)]) rfl rfl rfl rfl ⟨rfl, rfl⟩
        · clear hj3
          rintro s ⟨p2_0_3, p2_1_3, p2_2_3, p2_3_3, hj0, rfl⟩
          unfold Dec.parse.j3 at hj0
          obtain ⟨t70, et70, hj1⟩ := letk_elim hj0; clear hj0
          conv => whnf
          refine Nm.mk ⟨t70, et70, ?_⟩
          rcases t70 with _ | _
          · have hj2 := bif_f hj1
            clear hj1
            obtain ⟨chj3, hj3⟩ := chk_elim hj2; clear hj2
            obtain ⟨t73, et73, hj4⟩ := letk_elim hj3; clear hj3
            conv => whnf
            refine Side.mk chj3 ?_
            conv => whnf
            refine Nm.mk ⟨t73, et73, ?_⟩
            obtain ⟨t74, et74, hj5⟩ := bind_elim hj4; clear hj4
            conv => whnf
            refine Gate.go ?_
            conv => whnf
            refine CallN.by (v := .lit (.bool t74)) (Strs.Contains_ok et74) rfl rfl ?_
            obtain ⟨t75, et75, hj6⟩ := letk_elim hj5; clear hj5
            conv => whnf
            refine Nm.mk ⟨t75, et75, ?_⟩
            rcases t75 with _ | _
            · have hj7 := bif_f hj6
              clear hj6
              obtain ⟨chj8, hj8⟩ := chk_elim hj7; clear hj7
              obtain ⟨t78, et78, hj9⟩ := letk_elim hj8; clear hj8
              conv => whnf
              refine Side.mk chj8 ?_
              conv => whnf
              refine Nm.mk ⟨t78, et78, ?_⟩
              obtain ⟨t80, et80, hj10⟩ := bind_elim hj9; clear hj9
              conv => whnf
              refine Gate.go ?_
              conv => whnf
              refine CallN.by (v := .lit (.bool t80)) (Strs.HasPrefix_ok et80) rfl rfl ?_
              conv => whnf
              refine CutN.of (fun s => ∃ (s0_3 : ByteArray) (p2_0_4 : Int) (p2_1_4 : ByteArray) (p2_2_4 : ByteArray) (p2_3_4 : Int) (minus6 : Bool), Dec.parse.j4 s0_3 p2_0_4 p2_1_4 p2_2_4 p2_3_4 minus6 = some r ∧ s = (⟨116, [(0, .lit (.string s0_3)), (2, .ptr 0 0), (6, .lit (.bool minus6))], [.box [.lit (.int .i64 p2_0_4), .lit (.string p2_1_4), .lit (.string p2_2_4), .lit (.int .i64 p2_3_4)]]⟩ : St)) ?_ ?_
              · rcases t80 with _ | _
                · have hj11 := bif_f hj10
                  clear hj10
                  obtain ⟨t84, et84, hj12⟩ := bind_elim hj11; clear hj11
                  conv => whnf
                  refine Gate.go ?_
                  conv => whnf
                  refine CallN.by (v := .lit (.bool t84)) (Strs.HasPrefix_ok et84) rfl rfl ?_
                  rcases t84 with _ | _
                  · have hj13 := bif_f hj12
                    clear hj12
                    exact BackS.of (Sees.of (Weak.objs (keep := [0]) (frz := []) (m := 0) (ts := [(0, .lit (.string t78)), (2, .ptr 0 0), (6, .lit (.bool false))]) (hs := [.box [.lit (.int .i64 p2_0_3), .lit (.string p2_1_3), .lit (.string p2_2_3), .lit (.int .i64 p2_3_3)]]) rfl (by decide) rfl rfl ⟨⟨_, rfl, WO.boxs ⟨(.same (.lit (.int .i64 p2_0_3)) rfl), (.same (.lit (.string p2_1_3)) rfl), (.same (.lit (.string p2_2_3)) rfl), (.same (.lit (.int .i64 p2_3_3)) rfl), trivial⟩⟩, ⟨rfl, fun _ h => by cases h⟩⟩ ⟨(.same (.lit (.string t78)) rfl), (.ptr _ _ 0 rfl), (.same (.lit (.bool false)) rfl), trivial⟩)) ⟨_, _, _, _, _, _, hj13, rfl⟩
                  · have hj13 := bif_t hj12
                    clear hj12
                    obtain ⟨chj14, hj14⟩ := chk_elim hj13; clear hj13
                    obtain ⟨t87, et87, hj15⟩ := letk_elim hj14; clear hj14
                    conv => whnf
                    refine Side.mk chj14 ?_
                    conv => whnf
                    refine Nm.mk ⟨t87, et87, ?_⟩
                    exact BackS.of (Sees.of (Weak.objs (keep := [0]) (frz := []) (m := 0) (ts := [(0, .lit (.string t87)), (2, .ptr 0 0), (6, .lit (.bool false))]) (hs := [.box [.lit (.int .i64 p2_0_3), .lit (.string p2_1_3), .lit (.string p2_2_3), .lit (.int .i64 p2_3_3)]]) rfl (by decide) rfl rfl ⟨⟨_, rfl, WO.boxs ⟨(.same (.lit (.int .i64 p2_0_3)) rfl), (.same (.lit (.string p2_1_3)) rfl), (.same (.lit (.string p2_2_3)) rfl), (.same (.lit (.int .i64 p2_3_3)) rfl), trivial⟩⟩, ⟨rfl, fun _ h => by cases h⟩⟩ ⟨(.same (.lit (.string t87)) rfl), (.ptr _ _ 0 rfl), (.same (.lit (.bool false)) rfl), trivial⟩)) ⟨_, _, _, _, _, _, hj15, rfl⟩
                · have hj11 := bif_t hj10
                  clear hj10
                  obtain ⟨chj12, hj12⟩ := chk_elim hj11; clear hj11
                  obtain ⟨t87_1, et87_1, hj13⟩ := letk_elim hj12; clear hj12
                  conv => whnf
                  refine Side.mk chj12 ?_
                  conv => whnf
                  refine Nm.mk ⟨t87_1, et87_1, ?_⟩
                  exact BackS.of (Sees.of (Weak.objs (keep := [0]) (frz := []) (m := 0) (ts := [(0, .lit (.string t87_1)), (2, .ptr 0 0), (6, .lit (.bool true))]) (hs := [.box [.lit (.int .i64 p2_0_3), .lit (.string p2_1_3), .lit (.string p2_2_3), .lit (.int .i64 p2_3_3)]]) rfl (by decide) rfl rfl ⟨⟨_, rfl, WO.boxs ⟨(.same (.lit (.int .i64 p2_0_3)) rfl), (.same (.lit (.string p2_1_3)) rfl), (.same (.lit (.string p2_2_3)) rfl), (.same (.lit (.int .i64 p2_3_3)) rfl), trivial⟩⟩, ⟨rfl, fun _ h => by cases h⟩⟩ ⟨(.same (.lit (.string t87_1)) rfl), (.ptr _ _ 0 rfl), (.same (.lit (.bool true)) rfl), trivial⟩)) ⟨_, _, _, _, _, _, hj13, rfl⟩
              · clear hj10
                rintro s ⟨s0_3, p2_0_4, p2_1_4, p2_2_4, p2_3_4, minus6, hj0, rfl⟩
                unfold Dec.parse.j4 at hj0
                conv => whnf
                refine CutN.of (fun s => ∃ (p2_0_5 : Int) (p2_1_5 : ByteArray) (p2_2_5 : ByteArray) (p2_3_5 : Int) (minus6_1 : Bool), Dec.parse.j5 s0_3 p2_0_5 p2_1_5 p2_2_5 p2_3_5 minus6_1 = some r ∧ s = (⟨116, [(0, .lit (.string s0_3)), (2, .ptr 0 0), (6, .lit (.bool minus6_1))], [.box [.lit (.int .i64 p2_0_5), .lit (.string p2_1_5), .lit (.string p2_2_5), .lit (.int .i64 p2_3_5)]]⟩ : St)) ?_ ?_
                · conv => whnf
                  refine CutN.of (fun s => ∃ (p2_0_6 : Int) (p2_1_6 : ByteArray) (p2_2_6 : ByteArray) (p2_3_6 : Int) (minus6_2 : Bool) (t100 : Bool), Dec.parse.j7 s0_3 p2_0_6 p2_1_6 p2_2_6 p2_3_6 minus6_2 t100 = some r ∧ s = (⟨116, [(0, .lit (.string s0_3)), (2, .ptr 0 0), (6, .lit (.bool minus6_2)), (100, .lit (.bool t100))], [.box [.lit (.int .i64 p2_0_6), .lit (.string p2_1_6), .lit (.string p2_2_6), .lit (.int .i64 p2_3_6)]]⟩ : St)) ?_ ?_
                  · obtain ⟨t89, et89, hj1⟩ := letk_elim hj0; clear hj0
                    conv => whnf
                    refine Nm.mk ⟨t89, et89, ?_⟩
                    rcases t89 with _ | _
                    · have hj2 := bif_f hj1
                      clear hj1
                      obtain ⟨t92, et92, hj3⟩ := letk_elim hj2; clear hj2
                      conv => whnf
                      refine Nm.mk ⟨t92, et92, ?_⟩
                      obtain ⟨t93, et93, hj4⟩ := letk_elim hj3; clear hj3
                      conv => whnf
                      refine Nm.mk ⟨t93, et93, ?_⟩
                      rcases t93 with _ | _
                      · have hj5 := bif_f hj4
                        clear hj4
                        obtain ⟨t97, et97, hj6⟩ := bind_elim hj5; clear hj5
                        conv => whnf
                        refine Gate.go ?_
                        conv => whnf
                        refine CallN.by (v := .lit (.string t97)) (Dec.digitsOf_ok et97) rfl rfl ?_
                        obtain ⟨t99, et99, hj7⟩ := letk_elim hj6; clear hj6
                        conv => whnf
                        refine Nm.mk ⟨t99, et99, ?_⟩
                        exact BackS.of (Sees.of (Weak.objs (keep := [0]) (frz := []) (m := 0) (ts := [(0, .lit (.string s0_3)), (2, .ptr 0 0), (6, .lit (.bool minus6)), (100, .lit (.bool t99))]) (hs := [.box [.lit (.int .i64 p2_0_4), .lit (.string p2_1_4), .lit (.string p2_2_4), .lit (.int .i64 p2_3_4)]]) rfl (by decide) rfl rfl ⟨⟨_, rfl, WO.boxs ⟨(.same (.lit (.int .i64 p2_0_4)) rfl), (.same (.lit (.string p2_1_4)) rfl), (.same (.lit (.string p2_2_4)) rfl), (.same (.lit (.int .i64 p2_3_4)) rfl), trivial⟩⟩, ⟨rfl, fun _ h => by cases h⟩⟩ ⟨(.same (.lit (.string s0_3)) rfl), (.ptr _ _ 0 rfl), (.same (.lit (.bool minus6)) rfl), (.same (.lit (.bool t99)) rfl), trivial⟩)) ⟨_, _, _, _, _, _, hj7, rfl⟩
                      · have hj5 := bif_t hj4
                        clear hj4
                        exact BackS.of (Sees.of (Weak.objs (keep := [0]) (frz := []) (m := 0) (ts := [(0, .lit (.string s0_3)), (2, .ptr 0 0), (6, .lit (.bool minus6)), (100, .lit (.bool true))]) (hs := [.box [.lit (.int .i64 p2_0_4), .lit (.string p2_1_4), .lit (.string p2_2_4), .lit (.int .i64 p2_3_4)]]) rfl (by decide) rfl rfl ⟨⟨_, rfl, WO.boxs ⟨(.same (.lit (.int .i64 p2_0_4)) rfl), (.same (.lit (.string p2_1_4)) rfl), (.same (.lit (.string p2_2_4)) rfl), (.same (.lit (.int .i64 p2_3_4)) rfl), trivial⟩⟩, ⟨rfl, fun _ h => by cases h⟩⟩ ⟨(.same (.lit (.string s0_3)) rfl), (.ptr _ _ 0 rfl), (.same (.lit (.bool minus6)) rfl), (.same (.lit (.bool true)) rfl), trivial⟩)) ⟨_, _, _, _, _, _, hj5, rfl⟩
                    · have hj2 := bif_t hj1
                      clear hj1
                      exact BackS.of (Sees.of (Weak.objs (keep := [0]) (frz := []) (m := 0) (ts := [(0, .lit (.string s0_3)), (2, .ptr 0 0), (6, .lit (.bool minus6)), (100, .lit (.bool true))]) (hs := [.box [.lit (.int .i64 p2_0_4), .lit (.string p2_1_4), .lit (.string p2_2_4), .lit (.int .i64 p2_3_4)]]) rfl (by decide) rfl rfl ⟨⟨_, rfl, WO.boxs ⟨(.same (.lit (.int .i64 p2_0_4)) rfl), (.same (.lit (.string p2_1_4)) rfl), (.same (.lit (.string p2_2_4)) rfl), (.same (.lit (.int .i64 p2_3_4)) rfl), trivial⟩⟩, ⟨rfl, fun _ h => by cases h⟩⟩ ⟨(.same (.lit (.string s0_3)) rfl), (.ptr _ _ 0 rfl), (.same (.lit (.bool minus6)) rfl), (.same (.lit (.bool true)) rfl), trivial⟩)) ⟨_, _, _, _, _, _, hj2, rfl⟩
                  · clear hj0
                    rintro s ⟨p2_0_6, p2_1_6, p2_2_6, p2_3_6, minus6_2, t100, hj0, rfl⟩
                    unfold Dec.parse.j7 at hj0
                    rcases t100 with _ | _
                    · have hj1 := bif_f hj0
                      clear hj0
                      exact BackS.of (Sees.of (Weak.objs (keep := [0]) (frz := []) (m := 0) (ts := [(0, .lit (.string s0_3)), (2, .ptr 0 0), (6, .lit (.bool minus6_2))]) (hs := [.box [.lit (.int .i64 p2_0_6), .lit (.string p2_1_6), .lit (.string p2_2_6), .lit (.int .i64 p2_3_6)]]) rfl (by decide) rfl rfl ⟨⟨_, rfl, WO.boxs ⟨(.same (.lit (.int .i64 p2_0_6)) rfl), (.same (.lit (.string p2_1_6)) rfl), (.same (.lit (.string p2_2_6)) rfl), (.same (.lit (.int .i64 p2_3_6)) rfl), trivial⟩⟩, ⟨rfl, fun _ h => by cases h⟩⟩ ⟨(.same (.lit (.string s0_3)) rfl), (.ptr _ _ 0 rfl), (.same (.lit (.bool minus6_2)) rfl), trivial⟩)) ⟨_, _, _, _, _, hj1, rfl⟩
                    · have hj1 := bif_t hj0
                      clear hj0
                      conv => whnf
                      refine Nm.mk ⟨[.lit (.int .i64 p2_0_6), .lit (.string p2_1_6), .lit (.string p2_2_6), .lit (.int .i64 p2_3_6)], rfl, ?_⟩
                      have ehj1_0 := Option.some.inj hj1
                      subst ehj1_0
                      conv => whnf
                      exact Returns.pure (r := .tup [decimal.parsed.enc ((⟨p2_0_6, p2_1_6, p2_2_6, p2_3_6⟩ : decimal.parsed)), .lit (.bool false)]) rfl rfl rfl rfl ⟨rfl, rfl⟩
                · clear hj0
                  rintro s ⟨p2_0_5, p2_1_5, p2_2_5, p2_3_5, minus6_1, hj0, rfl⟩
                  unfold Dec.parse.j5 at hj0
                  obtain ⟨⟨t104_0, t104_1⟩, et104, hj1⟩ := bind_elim hj0; clear hj0
                  conv => whnf
                  refine Gate.go ?_
                  conv => whnf
                  refine CallN.by (v := .tup [.lit (.int .i64 t104_0), .lit Value.nilIface]) (Strconv.Atoi_ok et104) rfl rfl ?_
                  conv => whnf
                  refine CutN.of (fun s => ∃ (n7 : Int), Dec.parse.j6 p2_0_5 p2_1_5 p2_2_5 p2_3_5 n7 = some r ∧ s = (⟨116, [(2, .ptr 0 0), (7, .lit (.int .i64 n7))], [.box [.lit (.int .i64 p2_0_5), .lit (.string p2_1_5), .lit (.string p2_2_5), .lit (.int .i64 p2_3_5)]]⟩ : St)) ?_ ?_
                  · rcases minus6_1 with _ | _
                    · have hj2 := bif_f hj1
                      clear hj1
                      exact BackS.of (Sees.of (Weak.objs (keep := [0]) (frz := []) (m := 0) (ts := [(2, .ptr 0 0), (7, .lit (.int .i64 t104_0))]) (hs := [.box [.lit (.int .i64 p2_0_5), .lit (.string p2_1_5), .lit (.string p2_2_5), .lit (.int .i64 p2_3_5)]]) rfl (by decide) rfl rfl ⟨⟨_, rfl, WO.boxs ⟨(.same (.lit (.int .i64 p2_0_5)) rfl), (.same (.lit (.string p2_1_5)) rfl), (.same (.lit (.string p2_2_5)) rfl), (.same (.lit (.int .i64 p2_3_5)) rfl), trivial⟩⟩, ⟨rfl, fun _ h => by cases h⟩⟩ ⟨(.ptr _ _ 0 rfl), (.same (.lit (.int .i64 t104_0)) rfl), trivial⟩)) ⟨_, hj2, rfl⟩
                    · have hj2 := bif_t hj1
                      clear hj1
                      obtain ⟨t109, et109, hj3⟩ := letk_elim hj2; clear hj2
                      conv => whnf
                      refine Nm.mk ⟨t109, et109, ?_⟩
                      exact BackS.of (Sees.of (Weak.objs (keep := [0]) (frz := []) (m := 0) (ts := [(2, .ptr 0 0), (7, .lit (.int .i64 t109))]) (hs := [.box [.lit (.int .i64 p2_0_5), .lit (.string p2_1_5), .lit (.string p2_2_5), .lit (.int .i64 p2_3_5)]]) rfl (by decide) rfl rfl ⟨⟨_, rfl, WO.boxs ⟨(.same (.lit (.int .i64 p2_0_5)) rfl), (.same (.lit (.string p2_1_5)) rfl), (.same (.lit (.string p2_2_5)) rfl), (.same (.lit (.int .i64 p2_3_5)) rfl), trivial⟩⟩, ⟨rfl, fun _ h => by cases h⟩⟩ ⟨(.ptr _ _ 0 rfl), (.same (.lit (.int .i64 t109)) rfl), trivial⟩)) ⟨_, hj3, rfl⟩
                  · clear hj1
                    rintro s ⟨n7, hj0, rfl⟩
                    unfold Dec.parse.j6 at hj0
                    obtain ⟨t113, et113, hj1⟩ := letk_elim hj0; clear hj0
                    conv => whnf
                    refine Nm.mk ⟨t113, et113, ?_⟩
                    conv => whnf
                    refine Nm.mk ⟨[.lit (.int .i64 p2_0_5), .lit (.string p2_1_5), .lit (.string p2_2_5), .lit (.int .i64 t113)], rfl, ?_⟩
                    conv => whnf
                    refine Nm.mk ⟨[.lit (.int .i64 p2_0_5), .lit (.string p2_1_5), .lit (.string p2_2_5), .lit (.int .i64 t113)], rfl, ?_⟩
                    have ehj1_0 := Option.some.inj hj1
                    subst ehj1_0
                    conv => whnf
                    exact Returns.pure (r := .tup [decimal.parsed.enc ((⟨p2_0_5, p2_1_5, p2_2_5, t113⟩ : decimal.parsed)), .lit (.bool true)]) rfl rfl rfl rfl ⟨rfl, rfl⟩
            · have hj7 := bif_t hj6
              clear hj6
              conv => whnf
              refine Nm.mk ⟨[.lit (.int .i64 p2_0_3), .lit (.string p2_1_3), .lit (.string p2_2_3), .lit (.int .i64 p2_3_3)], rfl, ?_⟩
              have ehj7_0 := Option.some.inj hj7
              subst ehj7_0
              conv => whnf
              exact Returns.pure (r := .tup [decimal.parsed.enc ((⟨p2_0_3, p2_1_3, p2_2_3, p2_3_3⟩ : decimal.parsed)), .lit (.bool false)]) rfl rfl rfl rfl ⟨rfl, rfl⟩
          · have hj2 := bif_t hj1
            clear hj1
            conv => whnf
            refine Nm.mk ⟨[.lit (.int .i64 p2_0_3), .lit (.string p2_1_3), .lit (.string p2_2_3), .lit (.int .i64 p2_3_3)], rfl, ?_⟩
            have ehj2_0 := Option.some.inj hj2
            subst ehj2_0
            conv => whnf
            exact Returns.pure (r := .tup [decimal.parsed.enc ((⟨p2_0_3, p2_1_3, p2_2_3, p2_3_3⟩ : decimal.parsed)), .lit (.bool true)]) rfl rfl rfl rfl ⟨rfl, rfl⟩

noncomputable def Dec.Is (text0 : ByteArray) : Option Bool :=
  Option.bind (Dec.parse text0) fun (t7_0, t7_1) =>
  some t7_1

theorem Dec.Is_ok {text0 : ByteArray} {r : Bool} (h0 : Dec.Is text0 = some r) : Gives Tryz.prog 37 [.lit (.string text0)] (.lit (.bool r)) := by
  unfold Dec.Is at h0
  refine ACalls.of_swp Tryz.func37 rfl (by decide) rfl (st0 := ⟨11, [(0, .lit (.string text0))], []⟩) rfl (bwp_ok (C := []) ?_)
  obtain ⟨⟨t7_0, t7_1⟩, et7, h1⟩ := bind_elim h0; clear h0
  conv => whnf
  refine Gate.go ?_
  conv => whnf
  refine CallN.by (v := .tup [decimal.parsed.enc t7_0, .lit (.bool t7_1)]) (Dec.parse_ok et7) rfl rfl ?_
  conv => whnf
  refine Nm.mk ⟨[.lit (.int .i64 0), .lit (.string (⟨#[]⟩)), .lit (.string (⟨#[]⟩)), .lit (.int .i64 0)], rfl, ?_⟩
  conv => whnf
  refine Nm.mk ⟨[.lit (.int .i64 t7_0.sign), .lit (.string t7_0.word), .lit (.string t7_0.digits), .lit (.int .i64 t7_0.x)], rfl, ?_⟩
  have eh1_0 := Option.some.inj h1
  subst eh1_0
  conv => whnf
  exact Returns.pure (r := .lit (.bool t7_1)) rfl rfl rfl rfl ⟨rfl, rfl⟩

noncomputable def Tok.isReal.j0 (s0 : ByteArray) : Option Bool :=
  Option.bind (Tok.number s0) fun (t32_0, t32_1) =>
  Option.bind (Strs.IndexAny s0 ⟨#[101, 100]⟩) fun t36 =>
  bif t32_1 then
    letk ((s0.size : Int)) fun t41 =>
    letk (t32_0 == t41) fun t42 =>
    bif t42 then
      letk (decide (t36 < (0 : Int))) fun t46 =>
      bif t46 then
        some true
      else
        letk (IntKind.i64.wrap (t36 + (1 : Int))) fun t50 =>
        chk (0 ≤ t50 ∧ t50 ≤ (s0.size : Int)) <|
        letk (s0.extract t50.toNat s0.size) fun t51 =>
        Option.bind (Strs.TrimLeft t51 ⟨#[43, 45]⟩) fun t52 =>
        Option.bind (Tok.run t52 Tok.isDigit) fun t53 =>
        letk (decide (t53 ≤ (3 : Int))) fun t54 =>
        some t54
    else
      some false
  else
    some false

noncomputable def Tok.isReal (s0 : ByteArray) : Option Bool :=
  letk (s0.toList == (⟨#[]⟩ : ByteArray).toList) fun t7 =>
  bif t7 then
    some false
  else
    chk (0 ≤ (0 : Int) ∧ (0 : Int) < (s0.size : Int)) <|
    letk (bt s0 (0 : Int)) fun t10 =>
    Option.bind (Tok.isDigit t10) fun t11 =>
    letk (!t11) fun t12 =>
    bif t12 then
      chk (0 ≤ (0 : Int) ∧ (0 : Int) < (s0.size : Int)) <|
      letk (bt s0 (0 : Int)) fun t15 =>
      letk (t15 != (46 : Int)) fun t16 =>
      bif t16 then
        some false
      else
        Option.bind (Tok.small s0) fun t22_1 =>
        letk (!(s0.toList == t22_1.toList)) fun t23_1 =>
        bif t23_1 then
          some false
        else
          Option.bind (Dec.Is s0) fun t27_1 =>
          letk (!t27_1) fun t28_1 =>
          bif t28_1 then
            some false
          else
            Tok.isReal.j0 s0
    else
      Option.bind (Tok.small s0) fun t22 =>
      letk (!(s0.toList == t22.toList)) fun t23 =>
      bif t23 then
        some false
      else
        Option.bind (Dec.Is s0) fun t27 =>
        letk (!t27) fun t28 =>
        bif t28 then
          some false
        else
          Tok.isReal.j0 s0

theorem Tok.isReal_ok {s0 : ByteArray} {r : Bool} (h0 : Tok.isReal s0 = some r) : Gives Tryz.prog 20 [.lit (.string s0)] (.lit (.bool r)) := by
  unfold Tok.isReal at h0
  refine ACalls.of_swp Tryz.func20 rfl (by decide) rfl (st0 := ⟨57, [(0, .lit (.string s0))], []⟩) rfl (bwp_ok (C := [(0, 3)]) ?_)
  conv => whnf
  refine CutN.of (fun s => Tok.isReal.j0 s0 = some r ∧ s = (⟨57, [(0, .lit (.string s0))], []⟩ : St)) ?_ ?_
  · obtain ⟨t7, et7, h1⟩ := letk_elim h0; clear h0
    conv => whnf
    refine Nm.mk ⟨t7, et7, ?_⟩
    rcases t7 with _ | _
    · have h2 := bif_f h1
      clear h1
      obtain ⟨ch3, h3⟩ := chk_elim h2; clear h2
      obtain ⟨t10, et10, h4⟩ := letk_elim h3; clear h3
      conv => whnf
      refine Side.mk ch3 ?_
      conv => whnf
      refine Nm.mk ⟨t10, et10, ?_⟩
      obtain ⟨t11, et11, h5⟩ := bind_elim h4; clear h4
      conv => whnf
      refine Gate.go ?_
      conv => whnf
      refine CallN.by (v := .lit (.bool t11)) (Tok.isDigit_ok et11) rfl rfl ?_
      obtain ⟨t12, et12, h6⟩ := letk_elim h5; clear h5
      conv => whnf
      refine Nm.mk ⟨t12, et12, ?_⟩
      rcases t12 with _ | _
      · have h7 := bif_f h6
        clear h6
        obtain ⟨t22, et22, h8⟩ := bind_elim h7; clear h7
        conv => whnf
        refine Gate.go ?_
        conv => whnf
        refine CallN.by (v := .lit (.string t22)) (Tok.small_ok et22) rfl rfl ?_
        obtain ⟨t23, et23, h9⟩ := letk_elim h8; clear h8
        conv => whnf
        refine Nm.mk ⟨t23, et23, ?_⟩
        rcases t23 with _ | _
        · have h10 := bif_f h9
          clear h9
          obtain ⟨t27, et27, h11⟩ := bind_elim h10; clear h10
          conv => whnf
          refine Gate.go ?_
          conv => whnf
          refine CallN.by (v := .lit (.bool t27)) (Dec.Is_ok et27) rfl rfl ?_
          obtain ⟨t28, et28, h12⟩ := letk_elim h11; clear h11
          conv => whnf
          refine Nm.mk ⟨t28, et28, ?_⟩
          rcases t28 with _ | _
          · have h13 := bif_f h12
            clear h12
            exact BackS.of (Sees.of (Weak.objs (keep := []) (frz := []) (m := 0) (ts := [(0, .lit (.string s0))]) (hs := []) rfl (by decide) rfl rfl ⟨rfl, fun _ h => by cases h⟩ ⟨(.same (.lit (.string s0)) rfl), trivial⟩)) ⟨h13, rfl⟩
          · have h13 := bif_t h12
            clear h12
            have eh13_0 := Option.some.inj h13
            subst eh13_0
            conv => whnf
            exact Returns.pure (r := .lit (.bool false)) rfl rfl rfl rfl ⟨rfl, rfl⟩
        · have h10 := bif_t h9
          clear h9
          have eh10_0 := Option.some.inj h10
          subst eh10_0
          conv => whnf
          exact Returns.pure (r := .lit (.bool false)) rfl rfl rfl rfl ⟨rfl, rfl⟩
      · have h7 := bif_t h6
        clear h6
        obtain ⟨ch8, h8⟩ := chk_elim h7; clear h7
        obtain ⟨t15, et15, h9⟩ := letk_elim h8; clear h8
        conv => whnf
        refine Side.mk ch8 ?_
        conv => whnf
        refine Nm.mk ⟨t15, et15, ?_⟩
        obtain ⟨t16, et16, h10⟩ := letk_elim h9; clear h9
        conv => whnf
        refine Nm.mk ⟨t16, et16, ?_⟩
        rcases t16 with _ | _
        · have h11 := bif_f h10
          clear h10
          obtain ⟨t22_1, et22_1, h12⟩ := bind_elim h11; clear h11
          conv => whnf
          refine Gate.go ?_
          conv => whnf
          refine CallN.by (v := .lit (.string t22_1)) (Tok.small_ok et22_1) rfl rfl ?_
          obtain ⟨t23_1, et23_1, h13⟩ := letk_elim h12; clear h12
          conv => whnf
          refine Nm.mk ⟨t23_1, et23_1, ?_⟩
          rcases t23_1 with _ | _
          · have h14 := bif_f h13
            clear h13
            obtain ⟨t27_1, et27_1, h15⟩ := bind_elim h14; clear h14
            conv => whnf
            refine Gate.go ?_
            conv => whnf
            refine CallN.by (v := .lit (.bool t27_1)) (Dec.Is_ok et27_1) rfl rfl ?_
            obtain ⟨t28_1, et28_1, h16⟩ := letk_elim h15; clear h15
            conv => whnf
            refine Nm.mk ⟨t28_1, et28_1, ?_⟩
            rcases t28_1 with _ | _
            · have h17 := bif_f h16
              clear h16
              exact BackS.of (Sees.of (Weak.objs (keep := []) (frz := []) (m := 0) (ts := [(0, .lit (.string s0))]) (hs := []) rfl (by decide) rfl rfl ⟨rfl, fun _ h => by cases h⟩ ⟨(.same (.lit (.string s0)) rfl), trivial⟩)) ⟨h17, rfl⟩
            · have h17 := bif_t h16
              clear h16
              have eh17_0 := Option.some.inj h17
              subst eh17_0
              conv => whnf
              exact Returns.pure (r := .lit (.bool false)) rfl rfl rfl rfl ⟨rfl, rfl⟩
          · have h14 := bif_t h13
            clear h13
            have eh14_0 := Option.some.inj h14
            subst eh14_0
            conv => whnf
            exact Returns.pure (r := .lit (.bool false)) rfl rfl rfl rfl ⟨rfl, rfl⟩
        · have h11 := bif_t h10
          clear h10
          have eh11_0 := Option.some.inj h11
          subst eh11_0
          conv => whnf
          exact Returns.pure (r := .lit (.bool false)) rfl rfl rfl rfl ⟨rfl, rfl⟩
    · have h2 := bif_t h1
      clear h1
      have eh2_0 := Option.some.inj h2
      subst eh2_0
      conv => whnf
      exact Returns.pure (r := .lit (.bool false)) rfl rfl rfl rfl ⟨rfl, rfl⟩
  · clear h0
    rintro s ⟨hj0, rfl⟩
    unfold Tok.isReal.j0 at hj0
    obtain ⟨⟨t32_0, t32_1⟩, et32, hj1⟩ := bind_elim hj0; clear hj0
    conv => whnf
    refine Gate.go ?_
    conv => whnf
    refine CallN.by (v := .tup [.lit (.int .i64 t32_0), .lit (.bool t32_1)]) (Tok.number_ok et32) rfl rfl ?_
    obtain ⟨t36, et36, hj2⟩ := bind_elim hj1; clear hj1
    conv => whnf
    refine Gate.go ?_
    conv => whnf
    refine CallN.by (v := .lit (.int .i64 t36)) (Strs.IndexAny_ok et36) rfl rfl ?_
    rcases t32_1 with _ | _
    · have hj3 := bif_f hj2
      clear hj2
      have ehj3_0 := Option.some.inj hj3
      subst ehj3_0
      conv => whnf
      exact Returns.pure (r := .lit (.bool false)) rfl rfl rfl rfl ⟨rfl, rfl⟩
    · have hj3 := bif_t hj2
      clear hj2
      obtain ⟨t41, et41, hj4⟩ := letk_elim hj3; clear hj3
      conv => whnf
      refine Nm.mk ⟨t41, et41, ?_⟩
      obtain ⟨t42, et42, hj5⟩ := letk_elim hj4; clear hj4
      conv => whnf
      refine Nm.mk ⟨t42, et42, ?_⟩
      rcases t42 with _ | _
      · have hj6 := bif_f hj5
        clear hj5
        have ehj6_0 := Option.some.inj hj6
        subst ehj6_0
        conv => whnf
        exact Returns.pure (r := .lit (.bool false)) rfl rfl rfl rfl ⟨rfl, rfl⟩
      · have hj6 := bif_t hj5
        clear hj5
        obtain ⟨t46, et46, hj7⟩ := letk_elim hj6; clear hj6
        conv => whnf
        refine Nm.mk ⟨t46, et46, ?_⟩
        rcases t46 with _ | _
        · have hj8 := bif_f hj7
          clear hj7
          obtain ⟨t50, et50, hj9⟩ := letk_elim hj8; clear hj8
          conv => whnf
          refine Nm.mk ⟨t50, et50, ?_⟩
          obtain ⟨chj10, hj10⟩ := chk_elim hj9; clear hj9
          obtain ⟨t51, et51, hj11⟩ := letk_elim hj10; clear hj10
          conv => whnf
          refine Side.mk chj10 ?_
          conv => whnf
          refine Nm.mk ⟨t51, et51, ?_⟩
          obtain ⟨t52, et52, hj12⟩ := bind_elim hj11; clear hj11
          conv => whnf
          refine Gate.go ?_
          conv => whnf
          refine CallN.by (v := .lit (.string t52)) (Strs.TrimLeft_ok et52) rfl rfl ?_
          obtain ⟨t53, et53, hj13⟩ := bind_elim hj12; clear hj12
          conv => whnf
          refine Gate.go ?_
          conv => whnf
          refine CallN.by (v := .lit (.int .i64 t53)) (Tok.run_ok (show List.all [] pureQ.pureQ0 = true from rfl) (fun _ r h => Tok.isDigit_ok h) et53) rfl rfl ?_
          obtain ⟨t54, et54, hj14⟩ := letk_elim hj13; clear hj13
          conv => whnf
          refine Nm.mk ⟨t54, et54, ?_⟩
          have ehj14_0 := Option.some.inj hj14
          subst ehj14_0
          conv => whnf
          exact Returns.pure (r := .lit (.bool t54)) rfl rfl rfl rfl ⟨rfl, rfl⟩
        · have hj8 := bif_t hj7
          clear hj7
          have ehj8_0 := Option.some.inj hj8
          subst ehj8_0
          conv => whnf
          exact Returns.pure (r := .lit (.bool true)) rfl rfl rfl rfl ⟨rfl, rfl⟩

noncomputable def Tok.Valid_1 (l0 : List ByteArray) (t1 : api.Token) : Option Bool :=
  Option.bind (Slcs.Contains___string_string_ l0 t1.Text) fun t7 =>
  some t7

theorem Tok.Valid_1_ok {l0 : List ByteArray} {t1 : api.Token} {r : Bool} (h0 : Tok.Valid_1 l0 t1 = some r) : Gives Tryz.prog 17 [.vs 1 (l0.map (eS)), .iptr (api.Token.enc t1)] (.lit (.bool r)) := by
  unfold Tok.Valid_1 at h0
  refine ACalls.of_swp Tryz.func17 rfl (by decide) rfl (st0 := ⟨8, [(0, .vs 1 (l0.map (eS))), (1, .iptr (api.Token.enc t1))], []⟩) rfl (bwp_ok (C := []) ?_)
  obtain ⟨t7, et7, h1⟩ := bind_elim h0; clear h0
  conv => whnf
  refine Gate.go ?_
  conv => whnf
  refine CallN.by (v := .lit (.bool t7)) (Slcs.Contains___string_string__ok et7) rfl rfl ?_
  have eh1_0 := Option.some.inj h1
  subst eh1_0
  conv => whnf
  exact Returns.pure (r := .lit (.bool t7)) rfl rfl rfl rfl ⟨rfl, rfl⟩

noncomputable def Tok.Valid (t0 : api.Token) : Option Bool :=
  letk (t0.Kind.toList == (⟨#[110, 97, 109, 101]⟩ : ByteArray).toList) fun t8 =>
  bif t8 then
    Option.bind (Tok.IsName t0.Text) fun t11 =>
    some t11
  else
    letk (t0.Kind.toList == (⟨#[105, 110, 116]⟩ : ByteArray).toList) fun t13 =>
    bif t13 then
      Option.bind (Tok.isInt t0.Text) fun t16 =>
      some t16
    else
      letk (t0.Kind.toList == (⟨#[114, 101, 97, 108]⟩ : ByteArray).toList) fun t18 =>
      bif t18 then
        Option.bind (Tok.isReal t0.Text) fun t21 =>
        some t21
      else
        letk (t0.Kind.toList == (⟨#[116, 101, 120, 116]⟩ : ByteArray).toList) fun t23 =>
        bif t23 then
          Option.bind (Tok.run t0.Text Tok.isText) fun t26 =>
          letk ((t0.Text.size : Int)) fun t29 =>
          letk (t26 == t29) fun t30 =>
          some t30
        else
          letk (t0.Kind.toList == (⟨#[111, 112]⟩ : ByteArray).toList) fun t32 =>
          bif t32 then
            Option.bind (Tok.signs) fun t34 =>
            Option.bind (Tok.Valid_1 t34 (⟨t0.Kind, t0.Text⟩ : api.Token)) fun t35 =>
            bif t35 then
              some true
            else
              Option.bind (Tok.words) fun t38 =>
              chk (0 ≤ (4 : Int) ∧ (4 : Int) ≤ (t38.length : Int)) <|
              letk ((t38.drop 0).take ((4 : Int).toNat - 0)) fun t39 =>
              Option.bind (Tok.Valid_1 t39 (⟨t0.Kind, t0.Text⟩ : api.Token)) fun t40 =>
              some t40
          else
            letk (t0.Kind.toList == (⟨#[108, 111, 103, 105, 99, 97, 108]⟩ : ByteArray).toList) fun t43 =>
            bif t43 then
              Option.bind (Tok.words) fun t45 =>
              chk (0 ≤ (4 : Int) ∧ (4 : Int) ≤ (t45.length : Int)) <|
              letk ((t45.drop (4 : Int).toNat).take (t45.length - (4 : Int).toNat)) fun t46 =>
              Option.bind (Tok.Valid_1 t46 (⟨t0.Kind, t0.Text⟩ : api.Token)) fun t47 =>
              some t47
            else
              some false

theorem Tok.Valid_ok {t0 : api.Token} {r : Bool} (h0 : Tok.Valid t0 = some r) : Gives Tryz.prog 6 [api.Token.enc t0] (.lit (.bool r)) := by
  unfold Tok.Valid at h0
  refine ACalls.of_swp Tryz.func6 rfl (by decide) rfl (st0 := ⟨48, [(0, api.Token.enc t0)], []⟩) rfl (bwp_ok (C := []) ?_)
  conv => whnf
  refine Nm.mk ⟨[.lit (.string t0.Kind), .lit (.string t0.Text)], rfl, ?_⟩
  conv => whnf
  refine Gate.weak (Sees.of (Weak.objs (keep := []) (frz := [0]) (m := 0) (ts := [(1, .iptr (.agg [.lit (.string t0.Kind), .lit (.string t0.Text)]))]) (hs := []) rfl (by decide) rfl rfl ⟨rfl, fun _ h => by cases h⟩ ⟨(.ptrFrz 0 _ (by decide) rfl rfl), trivial⟩)) ?_
  obtain ⟨t8, et8, h1⟩ := letk_elim h0; clear h0
  conv => whnf
  refine Nm.mk ⟨t8, et8, ?_⟩
  rcases t8 with _ | _
  · have h2 := bif_f h1
    clear h1
    obtain ⟨t13, et13, h3⟩ := letk_elim h2; clear h2
    conv => whnf
    refine Nm.mk ⟨t13, et13, ?_⟩
    rcases t13 with _ | _
    · have h4 := bif_f h3
      clear h3
      obtain ⟨t18, et18, h5⟩ := letk_elim h4; clear h4
      conv => whnf
      refine Nm.mk ⟨t18, et18, ?_⟩
      rcases t18 with _ | _
      · have h6 := bif_f h5
        clear h5
        obtain ⟨t23, et23, h7⟩ := letk_elim h6; clear h6
        conv => whnf
        refine Nm.mk ⟨t23, et23, ?_⟩
        rcases t23 with _ | _
        · have h8 := bif_f h7
          clear h7
          obtain ⟨t32, et32, h9⟩ := letk_elim h8; clear h8
          conv => whnf
          refine Nm.mk ⟨t32, et32, ?_⟩
          rcases t32 with _ | _
          · have h10 := bif_f h9
            clear h9
            obtain ⟨t43, et43, h11⟩ := letk_elim h10; clear h10
            conv => whnf
            refine Nm.mk ⟨t43, et43, ?_⟩
            rcases t43 with _ | _
            · have h12 := bif_f h11
              clear h11
              have eh12_0 := Option.some.inj h12
              subst eh12_0
              conv => whnf
              exact Returns.pure (r := .lit (.bool false)) rfl rfl rfl rfl ⟨rfl, rfl⟩
            · have h12 := bif_t h11
              clear h11
              obtain ⟨t45, et45, h13⟩ := bind_elim h12; clear h12
              conv => whnf
              refine Gate.go ?_
              conv => whnf
              refine CallN.by (v := .vs 1 (t45.map (eS))) (Tok.words_ok et45) rfl rfl ?_
              obtain ⟨ch14, h14⟩ := chk_elim h13; clear h13
              obtain ⟨t46, et46, h15⟩ := letk_elim h14; clear h14
              conv => whnf
              refine Side.mk (by simpa only [List.length_map] using ch14) ?_
              conv => whnf
              refine Nm.mk ⟨t46.map (eS), by rw [et46]; simp only [List.map_take, List.map_drop, List.length_map], ?_⟩
              obtain ⟨t47, et47, h16⟩ := bind_elim h15; clear h15
              conv => whnf
              refine Gate.go ?_
              conv => whnf
              refine CallN.by (v := .lit (.bool t47)) (Tok.Valid_1_ok et47) rfl rfl ?_
              have eh16_0 := Option.some.inj h16
              subst eh16_0
              conv => whnf
              exact Returns.pure (r := .lit (.bool t47)) rfl rfl rfl rfl ⟨rfl, rfl⟩
          · have h10 := bif_t h9
            clear h9
            obtain ⟨t34, et34, h11⟩ := bind_elim h10; clear h10
            conv => whnf
            refine Gate.go ?_
            conv => whnf
            refine CallN.by (v := .vs 1 (t34.map (eS))) (Tok.signs_ok et34) rfl rfl ?_
            obtain ⟨t35, et35, h12⟩ := bind_elim h11; clear h11
            conv => whnf
            refine Gate.go ?_
            conv => whnf
            refine CallN.by (v := .lit (.bool t35)) (Tok.Valid_1_ok et35) rfl rfl ?_
            rcases t35 with _ | _
            · have h13 := bif_f h12
              clear h12
              obtain ⟨t38, et38, h14⟩ := bind_elim h13; clear h13
              conv => whnf
              refine Gate.go ?_
              conv => whnf
              refine CallN.by (v := .vs 1 (t38.map (eS))) (Tok.words_ok et38) rfl rfl ?_
              obtain ⟨ch15, h15⟩ := chk_elim h14; clear h14
              obtain ⟨t39, et39, h16⟩ := letk_elim h15; clear h15
              conv => whnf
              refine Side.mk (by simpa only [List.length_map] using ch15) ?_
              conv => whnf
              refine Nm.mk ⟨t39.map (eS), by rw [et39]; simp only [List.map_take, List.map_drop, List.length_map], ?_⟩
              obtain ⟨t40, et40, h17⟩ := bind_elim h16; clear h16
              conv => whnf
              refine Gate.go ?_
              conv => whnf
              refine CallN.by (v := .lit (.bool t40)) (Tok.Valid_1_ok et40) rfl rfl ?_
              have eh17_0 := Option.some.inj h17
              subst eh17_0
              conv => whnf
              exact Returns.pure (r := .lit (.bool t40)) rfl rfl rfl rfl ⟨rfl, rfl⟩
            · have h13 := bif_t h12
              clear h12
              have eh13_0 := Option.some.inj h13
              subst eh13_0
              conv => whnf
              exact Returns.pure (r := .lit (.bool true)) rfl rfl rfl rfl ⟨rfl, rfl⟩
        · have h8 := bif_t h7
          clear h7
          conv => whnf
          refine DrawB.of Tryz_mixed rfl ?_
          conv => whnf
          refine DNodeB.of (.iptr (.lit (.string t0.Text))) ?_ ?_
          · conv => whnf
            rfl
          · conv => whnf
            refine DNodeB.of (.lit (.string t0.Text)) ?_ ?_
            · conv => whnf
              rfl
            · obtain ⟨t26, et26, h9⟩ := bind_elim h8; clear h8
              conv => whnf
              refine DNodeB.of (.lit (.int .i64 t26)) ?_ ?_
              · conv => whnf
                refine CallN.by (v := .lit (.int .i64 t26)) (Tok.run_ok (show List.all [] pureQ.pureQ0 = true from rfl) (fun _ r h => Tok.isText_ok h) et26) rfl rfl ?_
                conv => whnf
                rfl
              · conv => whnf
                refine DNodeB.of (.iptr (.lit (.string t0.Text))) ?_ ?_
                · conv => whnf
                  rfl
                · conv => whnf
                  refine DNodeB.of (.lit (.string t0.Text)) ?_ ?_
                  · conv => whnf
                    rfl
                  · obtain ⟨t29, et29, h10⟩ := letk_elim h9; clear h9
                    conv => whnf
                    refine DNodeB.of (.lit (.int .i64 t29)) ?_ ?_
                    · conv => whnf
                      refine Nm.mk ⟨t29, et29, ?_⟩
                      conv => whnf
                      rfl
                    · obtain ⟨t30, et30, h11⟩ := letk_elim h10; clear h10
                      conv => whnf
                      refine DNodeB.of (.lit (.bool t30)) ?_ ?_
                      · conv => whnf
                        refine Nm.mk ⟨t30, et30, ?_⟩
                        conv => whnf
                        rfl
                      · conv => whnf
                        refine DNodeB.of (.lit (.bool t30)) ?_ ?_
                        · conv => whnf
                          rfl
                        · have eh11_0 := Option.some.inj h11
                          subst eh11_0
                          conv => whnf
                          exact Returns.pure (r := .lit (.bool t30)) rfl rfl rfl rfl ⟨rfl, rfl⟩
      · have h6 := bif_t h5
        clear h5
        obtain ⟨t21, et21, h7⟩ := bind_elim h6; clear h6
        conv => whnf
        refine Gate.go ?_
        conv => whnf
        refine CallN.by (v := .lit (.bool t21)) (Tok.isReal_ok et21) rfl rfl ?_
        have eh7_0 := Option.some.inj h7
        subst eh7_0
        conv => whnf
        exact Returns.pure (r := .lit (.bool t21)) rfl rfl rfl rfl ⟨rfl, rfl⟩
    · have h4 := bif_t h3
      clear h3
      obtain ⟨t16, et16, h5⟩ := bind_elim h4; clear h4
      conv => whnf
      refine Gate.go ?_
      conv => whnf
      refine CallN.by (v := .lit (.bool t16)) (Tok.isInt_ok et16) rfl rfl ?_
      have eh5_0 := Option.some.inj h5
      subst eh5_0
      conv => whnf
      exact Returns.pure (r := .lit (.bool t16)) rfl rfl rfl rfl ⟨rfl, rfl⟩
  · have h2 := bif_t h1
    clear h1
    obtain ⟨t11, et11, h3⟩ := bind_elim h2; clear h2
    conv => whnf
    refine Gate.go ?_
    conv => whnf
    refine CallN.by (v := .lit (.bool t11)) (Tok.IsName_ok et11) rfl rfl ?_
    have eh3_0 := Option.some.inj h3
    subst eh3_0
    conv => whnf
    exact Returns.pure (r := .lit (.bool t11)) rfl rfl rfl rfl ⟨rfl, rfl⟩

noncomputable def Tok.quoted.j0 (s0 : ByteArray) (t8 : Int) (i6 : Int) (out5_1 : List Int) : Option (((List Int) × Int) ⊕ (ByteArray × Int)) :=
  chk ((out5_1.length + ([t8]).length) * 1 ≤ 140737488355328) <|
  letk (out5_1 ++ ([t8])) fun t46 =>
  letk (IntKind.i64.wrap (i6 + (1 : Int))) fun t48 =>
  letk (IntKind.i64.wrap (t48 + (1 : Int))) fun t14 =>
  some (.inl (t46, t14))

noncomputable def Tok.quoted.j1 (s0 : ByteArray) (t8 : Int) (i6 : Int) (out5_2 : List Int) (t38 : Bool) : Option (((List Int) × Int) ⊕ (ByteArray × Int)) :=
  bif t38 then
    letk (ofInts out5_2) fun t40 =>
    letk (IntKind.i64.wrap (i6 + (1 : Int))) fun t42 =>
    some (.inr (t40, t42))
  else
    Tok.quoted.j0 s0 t8 i6 out5_2

noncomputable def Tok.quoted.s0 (s0 : ByteArray) (t8 : Int) (out5 : List Int) (i6 : Int) : Option (((List Int) × Int) ⊕ (ByteArray × Int)) :=
  letk ((s0.size : Int)) fun t11 =>
  letk (decide (i6 < t11)) fun t12 =>
  bif t12 then
    chk (0 ≤ i6 ∧ i6 < (s0.size : Int)) <|
    letk (bt s0 i6) fun t17 =>
    letk (t17 != t8) fun t19 =>
    bif t19 then
      chk (0 ≤ i6 ∧ i6 < (s0.size : Int)) <|
      letk (bt s0 i6) fun t23 =>
      chk ((out5.length + ([t23]).length) * 1 ≤ 140737488355328) <|
      letk (out5 ++ ([t23])) fun t25 =>
      letk (IntKind.i64.wrap (i6 + (1 : Int))) fun t14_1 =>
      some (.inl (t25, t14_1))
    else
      letk (IntKind.i64.wrap (i6 + (1 : Int))) fun t27 =>
      letk ((s0.size : Int)) fun t29 =>
      letk (t27 == t29) fun t30 =>
      bif t30 then
        Tok.quoted.j1 s0 t8 i6 out5 true
      else
        letk (IntKind.i64.wrap (i6 + (1 : Int))) fun t34 =>
        chk (0 ≤ t34 ∧ t34 < (s0.size : Int)) <|
        letk (bt s0 t34) fun t35 =>
        letk (t35 != t8) fun t37 =>
        Tok.quoted.j1 s0 t8 i6 out5 t37
  else
    some (.inr (⟨#[]⟩, 0))

noncomputable def Tok.quoted.l0 (s0 : ByteArray) (t8 : Int) (out5 : List Int) (i6 : Int) : Option (ByteArray × Int) := loopO (fun v : (List Int) × Int => Tok.quoted.s0 s0 t8 v.1 v.2) (out5, i6)
theorem Tok.quoted.l0_eq (s0 : ByteArray) (t8 : Int) (out5 : List Int) (i6 : Int) : Tok.quoted.l0 s0 t8 out5 i6 = (Tok.quoted.s0 s0 t8 out5 i6).bind (Sum.elim (fun v => Tok.quoted.l0 s0 t8 v.1 v.2) some) := loopO_eq _ _

noncomputable def Tok.quoted (s0 : ByteArray) : Option (ByteArray × Int) :=
  chk (0 ≤ (0 : Int) ∧ (0 : Int) < (s0.size : Int)) <|
  letk (bt s0 (0 : Int)) fun t8 =>
  Tok.quoted.l0 s0 t8 ([]) 1

theorem Tok.quoted_ok {s0 : ByteArray} {r : ByteArray × Int} (h0 : Tok.quoted s0 = some r) : Gives Tryz.prog 44 [.lit (.string s0)] (.tup [.lit (.string r.1), .lit (.int .i64 r.2)]) := by
  unfold Tok.quoted at h0
  refine ACalls.of_swp Tryz.func44 rfl (by decide) rfl (st0 := ⟨49, [(0, .lit (.string s0))], []⟩) rfl (bwp_ok (C := [(0, 10), (48, 19)]) ?_)
  obtain ⟨ch1, h1⟩ := chk_elim h0; clear h0
  obtain ⟨t8, et8, h2⟩ := letk_elim h1; clear h1
  conv => whnf
  refine Side.mk ch1 ?_
  conv => whnf
  refine Nm.mk ⟨t8, et8, ?_⟩
  conv => whnf
  unfold Tok.quoted.l0 at h2
  refine LoopB.of (σ := (List Int) × Int) (ρ := ByteArray × Int) (fun v : (List Int) × Int => Tok.quoted.s0 s0 t8 v.1 v.2) (fun v => (⟨49, [(0, .lit (.string s0)), (4, .lit (.int .u8 t8)), (5, .ref 0 0 ((v.1.map (eI .u8)).length)), (6, .lit (.int .i64 v.2))], [.arr 1 (v.1.map (eI .u8))]⟩ : St)) ([], 1) h2 (BackS.of (Sees.of (Weak.objs (keep := []) (frz := []) (m := 1) (ts := [(0, .lit (.string s0)), (4, .lit (.int .u8 t8)), (5, .ref 0 0 ((([]).map (eI .u8)).length)), (6, .lit (.int .i64 1))]) (hs := [.arr 1 ((([])).map (eI .u8))]) rfl (by decide) rfl rfl ⟨rfl, fun ob ho => by simp only [List.mem_cons, List.not_mem_nil, or_false] at ho; exact ⟨_, ho⟩⟩ ⟨(.same (.lit (.string s0)) rfl), (.same (.lit (.int .u8 t8)) rfl), (.nilsRef 0 (by decide) (by decide)), (.same (.lit (.int .i64 1)) rfl), trivial⟩)) rfl) ?_
  clear h2
  rintro K1 ⟨out5, i6⟩ x1 hs0_0 hl1 hr1
  replace hs0_0 : Tok.quoted.s0 s0 t8 out5 i6 = some x1 := hs0_0
  unfold Tok.quoted.s0 at hs0_0
  change bwp _ _ _ _ _ (⟨49, [(0, .lit (.string s0)), (4, .lit (.int .u8 t8)), (5, .ref 0 0 ((out5.map (eI .u8)).length)), (6, .lit (.int .i64 i6))], [.arr 1 (out5.map (eI .u8))]⟩ : St)
  obtain ⟨t11, et11, hs0_1⟩ := letk_elim hs0_0; clear hs0_0
  conv => whnf
  refine Nm.mk ⟨t11, et11, ?_⟩
  obtain ⟨t12, et12, hs0_2⟩ := letk_elim hs0_1; clear hs0_1
  conv => whnf
  refine Nm.mk ⟨t12, et12, ?_⟩
  rcases t12 with _ | _
  · have hs0_3 := bif_f hs0_2
    clear hs0_2
    have ehs0_3u_0 := hr1 _ (Option.some.inj hs0_3).symm
    have hs0_3u := congrArg some ehs0_3u_0
    have ehs0_3u_0 := Option.some.inj hs0_3u
    subst ehs0_3u_0
    conv => whnf
    exact Returns.pure (r := .tup [.lit (.string (⟨#[]⟩)), .lit (.int .i64 0)]) rfl rfl rfl rfl ⟨rfl, rfl⟩
  · have hs0_3 := bif_t hs0_2
    clear hs0_2
    obtain ⟨chs0_4, hs0_4⟩ := chk_elim hs0_3; clear hs0_3
    obtain ⟨t17, et17, hs0_5⟩ := letk_elim hs0_4; clear hs0_4
    conv => whnf
    refine Side.mk chs0_4 ?_
    conv => whnf
    refine Nm.mk ⟨t17, et17, ?_⟩
    obtain ⟨t19, et19, hs0_6⟩ := letk_elim hs0_5; clear hs0_5
    conv => whnf
    refine Nm.mk ⟨t19, et19, ?_⟩
    rcases t19 with _ | _
    · have hs0_7 := bif_f hs0_6
      clear hs0_6
      conv => whnf
      refine CutN.of (fun s => ∃ (out5_1 : List Int), Tok.quoted.j0 s0 t8 i6 out5_1 = some x1 ∧ s = (⟨49, [(0, .lit (.string s0)), (4, .lit (.int .u8 t8)), (5, .ref 0 0 ((out5_1.map (eI .u8)).length)), (6, .lit (.int .i64 i6))], [.arr 1 (out5_1.map (eI .u8))]⟩ : St)) ?_ ?_
      · conv => whnf
        refine CutN.of (fun s => ∃ (out5_2 : List Int) (t38 : Bool), Tok.quoted.j1 s0 t8 i6 out5_2 t38 = some x1 ∧ s = (⟨49, [(0, .lit (.string s0)), (4, .lit (.int .u8 t8)), (5, .ref 0 0 ((out5_2.map (eI .u8)).length)), (6, .lit (.int .i64 i6)), (38, .lit (.bool t38))], [.arr 1 (out5_2.map (eI .u8))]⟩ : St)) ?_ ?_
        · obtain ⟨t27, et27, hs0_8⟩ := letk_elim hs0_7; clear hs0_7
          conv => whnf
          refine Nm.mk ⟨t27, et27, ?_⟩
          obtain ⟨t29, et29, hs0_9⟩ := letk_elim hs0_8; clear hs0_8
          conv => whnf
          refine Nm.mk ⟨t29, et29, ?_⟩
          obtain ⟨t30, et30, hs0_10⟩ := letk_elim hs0_9; clear hs0_9
          conv => whnf
          refine Nm.mk ⟨t30, et30, ?_⟩
          rcases t30 with _ | _
          · have hs0_11 := bif_f hs0_10
            clear hs0_10
            obtain ⟨t34, et34, hs0_12⟩ := letk_elim hs0_11; clear hs0_11
            conv => whnf
            refine Nm.mk ⟨t34, et34, ?_⟩
            obtain ⟨chs0_13, hs0_13⟩ := chk_elim hs0_12; clear hs0_12
            obtain ⟨t35, et35, hs0_14⟩ := letk_elim hs0_13; clear hs0_13
            conv => whnf
            refine Side.mk chs0_13 ?_
            conv => whnf
            refine Nm.mk ⟨t35, et35, ?_⟩
            obtain ⟨t37, et37, hs0_15⟩ := letk_elim hs0_14; clear hs0_14
            conv => whnf
            refine Nm.mk ⟨t37, et37, ?_⟩
            exact BackS.of (Sees.of (Weak.objs (keep := [0]) (frz := []) (m := 0) (ts := [(0, .lit (.string s0)), (4, .lit (.int .u8 t8)), (5, .ref 0 0 ((out5.map (eI .u8)).length)), (6, .lit (.int .i64 i6)), (38, .lit (.bool t37))]) (hs := [.arr 1 (out5.map (eI .u8))]) rfl (by decide) rfl rfl ⟨⟨_, rfl, .arr _ _⟩, ⟨rfl, fun _ h => by cases h⟩⟩ ⟨(.same (.lit (.string s0)) rfl), (.same (.lit (.int .u8 t8)) rfl), (.ref _ _ _ 0 rfl), (.same (.lit (.int .i64 i6)) rfl), (.same (.lit (.bool t37)) rfl), trivial⟩)) ⟨_, _, hs0_15, rfl⟩
          · have hs0_11 := bif_t hs0_10
            clear hs0_10
            exact BackS.of (Sees.of (Weak.objs (keep := [0]) (frz := []) (m := 0) (ts := [(0, .lit (.string s0)), (4, .lit (.int .u8 t8)), (5, .ref 0 0 ((out5.map (eI .u8)).length)), (6, .lit (.int .i64 i6)), (38, .lit (.bool true))]) (hs := [.arr 1 (out5.map (eI .u8))]) rfl (by decide) rfl rfl ⟨⟨_, rfl, .arr _ _⟩, ⟨rfl, fun _ h => by cases h⟩⟩ ⟨(.same (.lit (.string s0)) rfl), (.same (.lit (.int .u8 t8)) rfl), (.ref _ _ _ 0 rfl), (.same (.lit (.int .i64 i6)) rfl), (.same (.lit (.bool true)) rfl), trivial⟩)) ⟨_, _, hs0_11, rfl⟩
        · clear hs0_7
          rintro s ⟨out5_2, t38, hj0, rfl⟩
          unfold Tok.quoted.j1 at hj0
          rcases t38 with _ | _
          · have hj1 := bif_f hj0
            clear hj0
            exact BackS.of (Sees.of (Weak.objs (keep := [0]) (frz := []) (m := 0) (ts := [(0, .lit (.string s0)), (4, .lit (.int .u8 t8)), (5, .ref 0 0 ((out5_2.map (eI .u8)).length)), (6, .lit (.int .i64 i6))]) (hs := [.arr 1 (out5_2.map (eI .u8))]) rfl (by decide) rfl rfl ⟨⟨_, rfl, .arr _ _⟩, ⟨rfl, fun _ h => by cases h⟩⟩ ⟨(.same (.lit (.string s0)) rfl), (.same (.lit (.int .u8 t8)) rfl), (.ref _ _ _ 0 rfl), (.same (.lit (.int .i64 i6)) rfl), trivial⟩)) ⟨_, hj1, rfl⟩
          · have hj1 := bif_t hj0
            clear hj0
            obtain ⟨t40, et40, hj2⟩ := letk_elim hj1; clear hj1
            conv => whnf
            refine Side.mk ⟨full_le _, one_map (fun _ _ hc => by simp only [AV.cells, List.mem_singleton] at hc; subst hc; rfl)⟩ ?_
            conv => whnf
            refine BytesN.mk ⟨out5_2, map_takeAll _ _, ?_⟩
            conv => whnf
            refine Nm.mk ⟨t40, et40, ?_⟩
            obtain ⟨t42, et42, hj3⟩ := letk_elim hj2; clear hj2
            conv => whnf
            refine Nm.mk ⟨t42, et42, ?_⟩
            have ehj3_0 := hr1 _ (Option.some.inj hj3).symm
            subst ehj3_0
            conv => whnf
            exact Returns.pure (r := .tup [.lit (.string t40), .lit (.int .i64 t42)]) rfl rfl rfl rfl ⟨rfl, rfl⟩
      · clear hs0_7
        rintro s ⟨out5_1, hj0, rfl⟩
        unfold Tok.quoted.j0 at hj0
        conv => whnf
        refine Gate.go ?_
        conv => whnf
        refine Nm.mk ⟨([t8]).map (eI .u8), rfl, ?_⟩
        obtain ⟨chj1, hj1⟩ := chk_elim hj0; clear hj0
        obtain ⟨t46, et46, hj2⟩ := letk_elim hj1; clear hj1
        conv => whnf
        refine Gate.go ?_
        conv => whnf
        refine Side.mk (full_le _) ?_
        conv => whnf
        refine Side.mk ⟨full_le _, one_map (fun _ _ hc => by simp only [AV.cells, List.mem_singleton] at hc; subst hc; rfl)⟩ ?_
        conv => whnf
        refine Side.mk (side_rr (by decide) chj1) ?_
        conv => whnf
        refine Nm.mk ⟨t46.map (eI .u8), by rw [et46]; exact app_rr (m := [t8]), ?_⟩
        obtain ⟨t48, et48, hj3⟩ := letk_elim hj2; clear hj2
        conv => whnf
        refine Nm.mk ⟨t48, et48, ?_⟩
        obtain ⟨t14, et14, hj4⟩ := letk_elim hj3; clear hj3
        conv => whnf
        refine Nm.mk ⟨t14, et14, ?_⟩
        exact BackS.of (Sees.of (Weak.objs (keep := [2]) (frz := []) (m := 0) (ts := [(0, .lit (.string s0)), (4, .lit (.int .u8 t8)), (5, .ref 0 0 ((t46.map (eI .u8)).length)), (6, .lit (.int .i64 t14))]) (hs := [.arr 1 (t46.map (eI .u8))]) rfl (by decide) rfl rfl ⟨⟨_, rfl, .arr _ _⟩, ⟨rfl, fun _ h => by cases h⟩⟩ ⟨(.same (.lit (.string s0)) rfl), (.same (.lit (.int .u8 t8)) rfl), (.ref _ _ _ 0 rfl), (.same (.lit (.int .i64 t14)) rfl), trivial⟩)) ⟨_, hl1 _ (Option.some.inj hj4).symm, rfl⟩
    · have hs0_7 := bif_t hs0_6
      clear hs0_6
      obtain ⟨chs0_8, hs0_8⟩ := chk_elim hs0_7; clear hs0_7
      obtain ⟨t23, et23, hs0_9⟩ := letk_elim hs0_8; clear hs0_8
      conv => whnf
      refine Side.mk chs0_8 ?_
      conv => whnf
      refine Nm.mk ⟨t23, et23, ?_⟩
      conv => whnf
      refine Gate.go ?_
      conv => whnf
      refine Nm.mk ⟨([t23]).map (eI .u8), rfl, ?_⟩
      obtain ⟨chs0_10, hs0_10⟩ := chk_elim hs0_9; clear hs0_9
      obtain ⟨t25, et25, hs0_11⟩ := letk_elim hs0_10; clear hs0_10
      conv => whnf
      refine Gate.go ?_
      conv => whnf
      refine Side.mk (full_le _) ?_
      conv => whnf
      refine Side.mk ⟨full_le _, one_map (fun _ _ hc => by simp only [AV.cells, List.mem_singleton] at hc; subst hc; rfl)⟩ ?_
      conv => whnf
      refine Side.mk (side_rr (by decide) chs0_10) ?_
      conv => whnf
      refine Nm.mk ⟨t25.map (eI .u8), by rw [et25]; exact app_rr (m := [t23]), ?_⟩
      obtain ⟨t14_1, et14_1, hs0_12⟩ := letk_elim hs0_11; clear hs0_11
      conv => whnf
      refine Nm.mk ⟨t14_1, et14_1, ?_⟩
      exact BackS.of (Sees.of (Weak.objs (keep := [2]) (frz := []) (m := 0) (ts := [(0, .lit (.string s0)), (4, .lit (.int .u8 t8)), (5, .ref 0 0 ((t25.map (eI .u8)).length)), (6, .lit (.int .i64 t14_1))]) (hs := [.arr 1 (t25.map (eI .u8))]) rfl (by decide) rfl rfl ⟨⟨_, rfl, .arr _ _⟩, ⟨rfl, fun _ h => by cases h⟩⟩ ⟨(.same (.lit (.string s0)) rfl), (.same (.lit (.int .u8 t8)) rfl), (.ref _ _ _ 0 rfl), (.same (.lit (.int .i64 t14_1)) rfl), trivial⟩)) ⟨_, hl1 _ (Option.some.inj hs0_12).symm, rfl⟩

noncomputable def Tok.first.j0 (t2_0 : ByteArray) (t2_1 : ByteArray) (n3 : Int) : Option (api.Token × Int) :=
  Option.bind (Tok.Valid (⟨t2_0, t2_1⟩ : api.Token)) fun t111 =>
  letk (!t111) fun t112 =>
  bif t112 then
    some ((⟨t2_0, t2_1⟩ : api.Token), 0)
  else
    some ((⟨t2_0, t2_1⟩ : api.Token), n3)

noncomputable def Tok.first.s0 (s0 : ByteArray) (t11 : (List ByteArray)) (t12 : Int) (t2_0_2 : ByteArray) (t2_1_2 : ByteArray) (t13 : Int) : Option ((ByteArray × ByteArray × Int) ⊕ (api.Token × Int)) :=
  letk (decide (t13 < t12)) fun t14 =>
  bif t14 then
    chk (0 ≤ t13) <|
    Option.bind (t11[t13.toNat]?) fun t15 =>
    Option.bind (Strs.HasPrefix s0 t15) fun t19 =>
    bif t19 then
      letk ((t15.size : Int)) fun t23 =>
      some (.inr ((⟨⟨#[111, 112]⟩, t15⟩ : api.Token), t23))
    else
      letk (IntKind.i64.wrap (t13 + (1 : Int))) fun t24 =>
      some (.inl (t2_0_2, t2_1_2, t24))
  else
    some (.inr ((⟨t2_0_2, t2_1_2⟩ : api.Token), 0))

noncomputable def Tok.first.l0 (s0 : ByteArray) (t11 : (List ByteArray)) (t12 : Int) (t2_0_2 : ByteArray) (t2_1_2 : ByteArray) (t13 : Int) : Option (api.Token × Int) := loopO (fun v : ByteArray × ByteArray × Int => Tok.first.s0 s0 t11 t12 v.1 v.2.1 v.2.2) (t2_0_2, t2_1_2, t13)
theorem Tok.first.l0_eq (s0 : ByteArray) (t11 : (List ByteArray)) (t12 : Int) (t2_0_2 : ByteArray) (t2_1_2 : ByteArray) (t13 : Int) : Tok.first.l0 s0 t11 t12 t2_0_2 t2_1_2 t13 = (Tok.first.s0 s0 t11 t12 t2_0_2 t2_1_2 t13).bind (Sum.elim (fun v => Tok.first.l0 s0 t11 t12 v.1 v.2.1 v.2.2) some) := loopO_eq _ _

noncomputable def Tok.first.j4 (t89_0 : Int) (t2_0_4 : ByteArray) (t2_1_4 : ByteArray) (t108 : Bool) : Option (api.Token × Int) :=
  bif t108 then
    some ((⟨t2_0_4, t2_1_4⟩ : api.Token), 0)
  else
    Tok.first.j0 t2_0_4 t2_1_4 t89_0

noncomputable def Tok.first.j3 (s0 : ByteArray) (t89_0 : Int) (t2_0_3 : ByteArray) (t2_1_3 : ByteArray) : Option (api.Token × Int) :=
  letk ((s0.size : Int)) fun t101 =>
  letk (decide (t89_0 < t101)) fun t102 =>
  bif t102 then
    chk (0 ≤ t89_0 ∧ t89_0 < (s0.size : Int)) <|
    letk (bt s0 t89_0) fun t106 =>
    Option.bind (Tok.isPart t106) fun t107 =>
    Tok.first.j4 t89_0 t2_0_3 t2_1_3 t107
  else
    Tok.first.j4 t89_0 t2_0_3 t2_1_3 false

noncomputable def Tok.first.j2 (s0 : ByteArray) (t2_0_1 : ByteArray) (t2_1_1 : ByteArray) (t70 : Bool) : Option (api.Token × Int) :=
  bif t70 then
    Option.bind (Tok.number s0) fun (t89_0, t89_1) =>
    chk (0 ≤ t89_0 ∧ t89_0 ≤ (s0.size : Int)) <|
    letk (s0.extract 0 t89_0.toNat) fun t94 =>
    Option.bind (Tok.small t94) fun t95 =>
    bif t89_1 then
      Tok.first.j3 s0 t89_0 (⟨#[114, 101, 97, 108]⟩) t95
    else
      Tok.first.j3 s0 t89_0 (⟨#[105, 110, 116]⟩) t95
  else
    Option.bind (Tok.signs) fun t11 =>
    letk ((t11.length : Int)) fun t12 =>
    Tok.first.l0 s0 t11 t12 t2_0_1 t2_1_1 0

noncomputable def Tok.first.j1 (s0 : ByteArray) (t10 : Int) (t36 : Bool) : Option (api.Token × Int) :=
  bif t36 then
    Option.bind (Tok.quoted s0) fun (t46_0, t46_1) =>
    some ((⟨⟨#[116, 101, 120, 116]⟩, t46_0⟩ : api.Token), t46_1)
  else
    Option.bind (Tok.word s0) fun t54 =>
    letk (!(t54.toList == (⟨#[]⟩ : ByteArray).toList)) fun t55 =>
    bif t55 then
      Option.bind (Tok.word s0) fun t57 =>
      Option.bind (Tok.words) fun t58 =>
      chk (0 ≤ (4 : Int) ∧ (4 : Int) ≤ (t58.length : Int)) <|
      letk ((t58.drop (4 : Int).toNat).take (t58.length - (4 : Int).toNat)) fun t59 =>
      Option.bind (Slcs.Contains___string_string_ t59 t57) fun t61 =>
      bif t61 then
        letk ((t57.size : Int)) fun t65 =>
        some ((⟨⟨#[108, 111, 103, 105, 99, 97, 108]⟩, t57⟩ : api.Token), t65)
      else
        letk ((t57.size : Int)) fun t69 =>
        some ((⟨⟨#[111, 112]⟩, t57⟩ : api.Token), t69)
    else
      Option.bind (Tok.isDigit t10) fun t72 =>
      bif t72 then
        Tok.first.j2 s0 (⟨#[]⟩) (⟨#[]⟩) true
      else
        letk (t10 == (46 : Int)) fun t75 =>
        bif t75 then
          letk ((s0.size : Int)) fun t78 =>
          letk (decide (t78 > (1 : Int))) fun t79 =>
          bif t79 then
            chk (0 ≤ (1 : Int) ∧ (1 : Int) < (s0.size : Int)) <|
            letk (bt s0 (1 : Int)) fun t83 =>
            Option.bind (Tok.isDigit t83) fun t84 =>
            Tok.first.j2 s0 (⟨#[]⟩) (⟨#[]⟩) t84
          else
            Tok.first.j2 s0 (⟨#[]⟩) (⟨#[]⟩) false
        else
          Tok.first.j2 s0 (⟨#[]⟩) (⟨#[]⟩) false

noncomputable def Tok.first (s0 : ByteArray) : Option (api.Token × Int) :=
  chk (0 ≤ (0 : Int) ∧ (0 : Int) < (s0.size : Int)) <|
  letk (bt s0 (0 : Int)) fun t10 =>
  Option.bind (Tok.isLetter t10) fun t28 =>
  bif t28 then
    Option.bind (Tok.run s0 Tok.isPart) fun t30 =>
    chk (0 ≤ t30 ∧ t30 ≤ (s0.size : Int)) <|
    letk (s0.extract 0 t30.toNat) fun t33 =>
    Option.bind (Tok.small t33) fun t34 =>
    Tok.first.j0 (⟨#[110, 97, 109, 101]⟩) t34 t30
  else
    letk (t10 == (39 : Int)) fun t38 =>
    bif t38 then
      Tok.first.j1 s0 t10 true
    else
      letk (t10 == (34 : Int)) fun t41 =>
      Tok.first.j1 s0 t10 t41

theorem Tok.first_ok {s0 : ByteArray} {r : api.Token × Int} (h0 : Tok.first s0 = some r) : Gives Tryz.prog 31 [.lit (.string s0)] (.tup [api.Token.enc r.1, .lit (.int .i64 r.2)]) := by
  unfold Tok.first at h0
  refine ACalls.of_swp Tryz.func31 rfl (by decide) rfl (st0 := ⟨116, [(0, .lit (.string s0))], []⟩) rfl (bwp_ok (C := [(0, 29), (46, 27), (80, 45), (0, 27), (118, 57)]) ?_)
  conv => whnf
  refine Nm.mk ⟨[.lit (.string (⟨#[]⟩)), .lit (.string (⟨#[]⟩))], rfl, ?_⟩
  obtain ⟨ch1, h1⟩ := chk_elim h0; clear h0
  obtain ⟨t10, et10, h2⟩ := letk_elim h1; clear h1
  conv => whnf
  refine Side.mk ch1 ?_
  conv => whnf
  refine Nm.mk ⟨t10, et10, ?_⟩
  conv => whnf
  refine CutN.of (fun s => ∃ (t2_0 : ByteArray) (t2_1 : ByteArray) (n3 : Int), Tok.first.j0 t2_0 t2_1 n3 = some r ∧ s = (⟨116, [(2, .ptr 0 0), (3, .lit (.int .i64 n3))], [.box [.lit (.string t2_0), .lit (.string t2_1)]]⟩ : St)) ?_ ?_
  · obtain ⟨t28, et28, h3⟩ := bind_elim h2; clear h2
    conv => whnf
    refine Gate.go ?_
    conv => whnf
    refine CallN.by (v := .lit (.bool t28)) (Tok.isLetter_ok et28) rfl rfl ?_
    rcases t28 with _ | _
    · have h4 := bif_f h3
      clear h3
      conv => whnf
      refine CutN.of (fun s => ∃ (t36 : Bool), Tok.first.j1 s0 t10 t36 = some r ∧ s = (⟨116, [(0, .lit (.string s0)), (2, .ptr 0 0), (4, .lit (.int .u8 t10)), (36, .lit (.bool t36))], [.box [.lit (.string (⟨#[]⟩)), .lit (.string (⟨#[]⟩))]]⟩ : St)) ?_ ?_
      · obtain ⟨t38, et38, h5⟩ := letk_elim h4; clear h4
        conv => whnf
        refine Nm.mk ⟨t38, et38, ?_⟩
        rcases t38 with _ | _
        · have h6 := bif_f h5
          clear h5
          obtain ⟨t41, et41, h7⟩ := letk_elim h6; clear h6
          conv => whnf
          refine Nm.mk ⟨t41, et41, ?_⟩
          exact BackS.of (Sees.of (Weak.objs (keep := [0]) (frz := []) (m := 0) (ts := [(0, .lit (.string s0)), (2, .ptr 0 0), (4, .lit (.int .u8 t10)), (36, .lit (.bool t41))]) (hs := [.box [.lit (.string (⟨#[]⟩)), .lit (.string (⟨#[]⟩))]]) rfl (by decide) rfl rfl ⟨⟨_, rfl, WO.boxs ⟨(.same (.lit (.string (⟨#[]⟩))) rfl), (.same (.lit (.string (⟨#[]⟩))) rfl), trivial⟩⟩, ⟨rfl, fun _ h => by cases h⟩⟩ ⟨(.same (.lit (.string s0)) rfl), (.ptr _ _ 0 rfl), (.same (.lit (.int .u8 t10)) rfl), (.same (.lit (.bool t41)) rfl), trivial⟩)) ⟨_, h7, rfl⟩
        · have h6 := bif_t h5
          clear h5
          exact BackS.of (Sees.of (Weak.objs (keep := [0]) (frz := []) (m := 0) (ts := [(0, .lit (.string s0)), (2, .ptr 0 0), (4, .lit (.int .u8 t10)), (36, .lit (.bool true))]) (hs := [.box [.lit (.string (⟨#[]⟩)), .lit (.string (⟨#[]⟩))]]) rfl (by decide) rfl rfl ⟨⟨_, rfl, WO.boxs ⟨(.same (.lit (.string (⟨#[]⟩))) rfl), (.same (.lit (.string (⟨#[]⟩))) rfl), trivial⟩⟩, ⟨rfl, fun _ h => by cases h⟩⟩ ⟨(.same (.lit (.string s0)) rfl), (.ptr _ _ 0 rfl), (.same (.lit (.int .u8 t10)) rfl), (.same (.lit (.bool true)) rfl), trivial⟩)) ⟨_, h6, rfl⟩
      · clear h4
        rintro s ⟨t36, hj0, rfl⟩
        unfold Tok.first.j1 at hj0
        rcases t36 with _ | _
        · have hj1 := bif_f hj0
          clear hj0
          obtain ⟨t54, et54, hj2⟩ := bind_elim hj1; clear hj1
          conv => whnf
          refine Gate.go ?_
          conv => whnf
          refine CallN.by (v := .lit (.string t54)) (Tok.word_ok et54) rfl rfl ?_
          obtain ⟨t55, et55, hj3⟩ := letk_elim hj2; clear hj2
          conv => whnf
          refine Nm.mk ⟨t55, et55, ?_⟩
          rcases t55 with _ | _
          · have hj4 := bif_f hj3
            clear hj3
            conv => whnf
            refine CutN.of (fun s => ∃ (t2_0_1 : ByteArray) (t2_1_1 : ByteArray) (t70 : Bool), Tok.first.j2 s0 t2_0_1 t2_1_1 t70 = some r ∧ s = (⟨116, [(0, .lit (.string s0)), (2, .ptr 0 0), (70, .lit (.bool t70))], [.box [.lit (.string t2_0_1), .lit (.string t2_1_1)]]⟩ : St)) ?_ ?_
            · obtain ⟨t72, et72, hj5⟩ := bind_elim hj4; clear hj4
              conv => whnf
              refine Gate.go ?_
              conv => whnf
              refine CallN.by (v := .lit (.bool t72)) (Tok.isDigit_ok et72) rfl rfl ?_
              rcases t72 with _ | _
              · have hj6 := bif_f hj5
                clear hj5
                obtain ⟨t75, et75, hj7⟩ := letk_elim hj6; clear hj6
                conv => whnf
                refine Nm.mk ⟨t75, et75, ?_⟩
                rcases t75 with _ | _
                · have hj8 := bif_f hj7
                  clear hj7
                  exact BackS.of (Sees.of (Weak.objs (keep := [0]) (frz := []) (m := 0) (ts := [(0, .lit (.string s0)), (2, .ptr 0 0), (70, .lit (.bool false))]) (hs := [.box [.lit (.string ((⟨#[]⟩))), .lit (.string ((⟨#[]⟩)))]]) rfl (by decide) rfl rfl ⟨⟨_, rfl, WO.boxs ⟨(.same (.lit (.string (⟨#[]⟩))) rfl), (.same (.lit (.string (⟨#[]⟩))) rfl), trivial⟩⟩, ⟨rfl, fun _ h => by cases h⟩⟩ ⟨(.same (.lit (.string s0)) rfl), (.ptr _ _ 0 rfl), (.same (.lit (.bool false)) rfl), trivial⟩)) ⟨_, _, _, hj8, rfl⟩
                · have hj8 := bif_t hj7
                  clear hj7
                  obtain ⟨t78, et78, hj9⟩ := letk_elim hj8; clear hj8
                  conv => whnf
                  refine Nm.mk ⟨t78, et78, ?_⟩
                  obtain ⟨t79, et79, hj10⟩ := letk_elim hj9; clear hj9
                  conv => whnf
                  refine Nm.mk ⟨t79, et79, ?_⟩
                  rcases t79 with _ | _
                  · have hj11 := bif_f hj10
                    clear hj10
                    exact BackS.of (Sees.of (Weak.objs (keep := [0]) (frz := []) (m := 0) (ts := [(0, .lit (.string s0)), (2, .ptr 0 0), (70, .lit (.bool false))]) (hs := [.box [.lit (.string ((⟨#[]⟩))), .lit (.string ((⟨#[]⟩)))]]) rfl (by decide) rfl rfl ⟨⟨_, rfl, WO.boxs ⟨(.same (.lit (.string (⟨#[]⟩))) rfl), (.same (.lit (.string (⟨#[]⟩))) rfl), trivial⟩⟩, ⟨rfl, fun _ h => by cases h⟩⟩ ⟨(.same (.lit (.string s0)) rfl), (.ptr _ _ 0 rfl), (.same (.lit (.bool false)) rfl), trivial⟩)) ⟨_, _, _, hj11, rfl⟩
                  · have hj11 := bif_t hj10
                    clear hj10
                    obtain ⟨chj12, hj12⟩ := chk_elim hj11; clear hj11
                    obtain ⟨t83, et83, hj13⟩ := letk_elim hj12; clear hj12
                    conv => whnf
                    refine Side.mk chj12 ?_
                    conv => whnf
                    refine Nm.mk ⟨t83, et83, ?_⟩
                    obtain ⟨t84, et84, hj14⟩ := bind_elim hj13; clear hj13
                    conv => whnf
                    refine Gate.go ?_
                    conv => whnf
                    refine CallN.by (v := .lit (.bool t84)) (Tok.isDigit_ok et84) rfl rfl ?_
                    exact BackS.of (Sees.of (Weak.objs (keep := [0]) (frz := []) (m := 0) (ts := [(0, .lit (.string s0)), (2, .ptr 0 0), (70, .lit (.bool t84))]) (hs := [.box [.lit (.string ((⟨#[]⟩))), .lit (.string ((⟨#[]⟩)))]]) rfl (by decide) rfl rfl ⟨⟨_, rfl, WO.boxs ⟨(.same (.lit (.string (⟨#[]⟩))) rfl), (.same (.lit (.string (⟨#[]⟩))) rfl), trivial⟩⟩, ⟨rfl, fun _ h => by cases h⟩⟩ ⟨(.same (.lit (.string s0)) rfl), (.ptr _ _ 0 rfl), (.same (.lit (.bool t84)) rfl), trivial⟩)) ⟨_, _, _, hj14, rfl⟩
              · have hj6 := bif_t hj5
                clear hj5
                exact BackS.of (Sees.of (Weak.objs (keep := [0]) (frz := []) (m := 0) (ts := [(0, .lit (.string s0)), (2, .ptr 0 0), (70, .lit (.bool true))]) (hs := [.box [.lit (.string ((⟨#[]⟩))), .lit (.string ((⟨#[]⟩)))]]) rfl (by decide) rfl rfl ⟨⟨_, rfl, WO.boxs ⟨(.same (.lit (.string (⟨#[]⟩))) rfl), (.same (.lit (.string (⟨#[]⟩))) rfl), trivial⟩⟩, ⟨rfl, fun _ h => by cases h⟩⟩ ⟨(.same (.lit (.string s0)) rfl), (.ptr _ _ 0 rfl), (.same (.lit (.bool true)) rfl), trivial⟩)) ⟨_, _, _, hj6, rfl⟩
            · clear hj4
              rintro s ⟨t2_0_1, t2_1_1, t70, hj0, rfl⟩
              unfold Tok.first.j2 at hj0
              rcases t70 with _ | _
              · have hj1 := bif_f hj0
                clear hj0
                obtain ⟨t11, et11, hj2⟩ := bind_elim hj1; clear hj1
                conv => whnf
                refine Gate.go ?_
                conv => whnf
                refine CallN.by (v := .vs 1 (t11.map (eS))) (Tok.signs_ok et11) rfl rfl ?_
                obtain ⟨t12, et12, hj3⟩ := letk_elim hj2; clear hj2
                conv => whnf
                refine Nm.mk ⟨t12, by rw [et12, List.length_map], ?_⟩
                conv => whnf
                unfold Tok.first.l0 at hj3
                refine LoopB.of (σ := ByteArray × ByteArray × Int) (ρ := api.Token × Int) (fun v : ByteArray × ByteArray × Int => Tok.first.s0 s0 t11 t12 v.1 v.2.1 v.2.2) (fun v => (⟨116, [(0, .lit (.string s0)), (2, .ptr 0 0), (11, .vs 1 (t11.map (eS))), (12, .lit (.int .i64 t12)), (13, .lit (.int .i64 v.2.2))], [.box [.lit (.string v.1), .lit (.string v.2.1)]]⟩ : St)) (t2_0_1, t2_1_1, 0) hj3 (BackS.of (Sees.of (Weak.objs (keep := [0]) (frz := []) (m := 0) (ts := [(0, .lit (.string s0)), (2, .ptr 0 0), (11, .vs 1 (t11.map (eS))), (12, .lit (.int .i64 t12)), (13, .lit (.int .i64 0))]) (hs := [.box [.lit (.string t2_0_1), .lit (.string t2_1_1)]]) rfl (by decide) rfl rfl ⟨⟨_, rfl, WO.boxs ⟨(.same (.lit (.string t2_0_1)) rfl), (.same (.lit (.string t2_1_1)) rfl), trivial⟩⟩, ⟨rfl, fun _ h => by cases h⟩⟩ ⟨(.same (.lit (.string s0)) rfl), (.ptr _ _ 0 rfl), (.same (.vs 1 (t11.map (eS))) rfl), (.same (.lit (.int .i64 t12)) rfl), (.same (.lit (.int .i64 0)) rfl), trivial⟩)) rfl) ?_
                clear hj3
                rintro K1 ⟨t2_0_2, t2_1_2, t13⟩ x1 hs0_0 hl1 hr1
                replace hs0_0 : Tok.first.s0 s0 t11 t12 t2_0_2 t2_1_2 t13 = some x1 := hs0_0
                unfold Tok.first.s0 at hs0_0
                change bwp _ _ _ _ _ (⟨116, [(0, .lit (.string s0)), (2, .ptr 0 0), (11, .vs 1 (t11.map (eS))), (12, .lit (.int .i64 t12)), (13, .lit (.int .i64 t13))], [.box [.lit (.string t2_0_2), .lit (.string t2_1_2)]]⟩ : St)
                obtain ⟨t14, et14, hs0_1⟩ := letk_elim hs0_0; clear hs0_0
                conv => whnf
                refine Nm.mk ⟨t14, et14, ?_⟩
                rcases t14 with _ | _
                · have hs0_2 := bif_f hs0_1
                  clear hs0_1
                  have ehs0_2u_0 := hr1 _ (Option.some.inj hs0_2).symm
                  have hs0_2u := congrArg some ehs0_2u_0
                  conv => whnf
                  refine Nm.mk ⟨[.lit (.string t2_0_2), .lit (.string t2_1_2)], rfl, ?_⟩
                  have ehs0_2u_0 := Option.some.inj hs0_2u
                  subst ehs0_2u_0
                  conv => whnf
                  exact Returns.pure (r := .tup [api.Token.enc ((⟨t2_0_2, t2_1_2⟩ : api.Token)), .lit (.int .i64 0)]) rfl rfl rfl rfl ⟨rfl, rfl⟩
                · have hs0_2 := bif_t hs0_1
                  clear hs0_1
                  obtain ⟨chs0_3, hs0_3⟩ := chk_elim hs0_2; clear hs0_2
                  obtain ⟨t15, et15, hs0_4⟩ := bind_elim hs0_3; clear hs0_3
                  conv => whnf
                  refine Side.mk chs0_3 ?_
                  conv => whnf
                  refine At.by et15 ?_
                  obtain ⟨t19, et19, hs0_5⟩ := bind_elim hs0_4; clear hs0_4
                  conv => whnf
                  refine Gate.go ?_
                  conv => whnf
                  refine CallN.by (v := .lit (.bool t19)) (Strs.HasPrefix_ok et19) rfl rfl ?_
                  rcases t19 with _ | _
                  · have hs0_6 := bif_f hs0_5
                    clear hs0_5
                    obtain ⟨t24, et24, hs0_7⟩ := letk_elim hs0_6; clear hs0_6
                    conv => whnf
                    refine Nm.mk ⟨t24, et24, ?_⟩
                    exact BackS.of (Sees.of (Weak.objs (keep := [0]) (frz := []) (m := 0) (ts := [(0, .lit (.string s0)), (2, .ptr 0 0), (11, .vs 1 (t11.map (eS))), (12, .lit (.int .i64 t12)), (13, .lit (.int .i64 t24))]) (hs := [.box [.lit (.string t2_0_2), .lit (.string t2_1_2)]]) rfl (by decide) rfl rfl ⟨⟨_, rfl, WO.boxs ⟨(.same (.lit (.string t2_0_2)) rfl), (.same (.lit (.string t2_1_2)) rfl), trivial⟩⟩, ⟨rfl, fun _ h => by cases h⟩⟩ ⟨(.same (.lit (.string s0)) rfl), (.ptr _ _ 0 rfl), (.same (.vs 1 (t11.map (eS))) rfl), (.same (.lit (.int .i64 t12)) rfl), (.same (.lit (.int .i64 t24)) rfl), trivial⟩)) ⟨_, hl1 _ (Option.some.inj hs0_7).symm, rfl⟩
                  · have hs0_6 := bif_t hs0_5
                    clear hs0_5
                    conv => whnf
                    refine Gate.go ?_
                    conv => whnf
                    refine Nm.mk ⟨[.lit (.string (⟨#[111, 112]⟩)), .lit (.string t15)], rfl, ?_⟩
                    obtain ⟨t23, et23, hs0_7⟩ := letk_elim hs0_6; clear hs0_6
                    conv => whnf
                    refine Nm.mk ⟨t23, et23, ?_⟩
                    conv => whnf
                    refine Nm.mk ⟨[.lit (.string (⟨#[111, 112]⟩)), .lit (.string t15)], rfl, ?_⟩
                    have ehs0_7_0 := hr1 _ (Option.some.inj hs0_7).symm
                    subst ehs0_7_0
                    conv => whnf
                    exact Returns.pure (r := .tup [api.Token.enc ((⟨⟨#[111, 112]⟩, t15⟩ : api.Token)), .lit (.int .i64 t23)]) rfl rfl rfl rfl ⟨rfl, rfl⟩
              · have hj1 := bif_t hj0
                clear hj0
                obtain ⟨⟨t89_0, t89_1⟩, et89, hj2⟩ := bind_elim hj1; clear hj1
                conv => whnf
                refine Gate.go ?_
                conv => whnf
                refine CallN.by (v := .tup [.lit (.int .i64 t89_0), .lit (.bool t89_1)]) (Tok.number_ok et89) rfl rfl ?_
                obtain ⟨chj3, hj3⟩ := chk_elim hj2; clear hj2
                obtain ⟨t94, et94, hj4⟩ := letk_elim hj3; clear hj3
                conv => whnf
                refine Side.mk chj3 ?_
                conv => whnf
                refine Nm.mk ⟨t94, et94, ?_⟩
                obtain ⟨t95, et95, hj5⟩ := bind_elim hj4; clear hj4
                conv => whnf
                refine Gate.go ?_
                conv => whnf
                refine CallN.by (v := .lit (.string t95)) (Tok.small_ok et95) rfl rfl ?_
                conv => whnf
                refine Gate.go ?_
                conv => whnf
                refine Nm.mk ⟨[.lit (.string (⟨#[105, 110, 116]⟩)), .lit (.string t95)], rfl, ?_⟩
                conv => whnf
                refine Nm.mk ⟨[.lit (.string (⟨#[105, 110, 116]⟩)), .lit (.string t95)], rfl, ?_⟩
                conv => whnf
                refine CutN.of (fun s => ∃ (t2_0_3 : ByteArray) (t2_1_3 : ByteArray), Tok.first.j3 s0 t89_0 t2_0_3 t2_1_3 = some r ∧ s = (⟨116, [(0, .lit (.string s0)), (2, .ptr 0 0), (3, .lit (.int .i64 t89_0))], [.box [.lit (.string t2_0_3), .lit (.string t2_1_3)]]⟩ : St)) ?_ ?_
                · rcases t89_1 with _ | _
                  · have hj6 := bif_f hj5
                    clear hj5
                    exact BackS.of (Sees.of (Weak.objs (keep := [0]) (frz := []) (m := 0) (ts := [(0, .lit (.string s0)), (2, .ptr 0 0), (3, .lit (.int .i64 t89_0))]) (hs := [.box [.lit (.string ((⟨#[105, 110, 116]⟩))), .lit (.string t95)]]) rfl (by decide) rfl rfl ⟨⟨_, rfl, WO.boxs ⟨(.same (.lit (.string (⟨#[105, 110, 116]⟩))) rfl), (.same (.lit (.string t95)) rfl), trivial⟩⟩, ⟨rfl, fun _ h => by cases h⟩⟩ ⟨(.same (.lit (.string s0)) rfl), (.ptr _ _ 0 rfl), (.same (.lit (.int .i64 t89_0)) rfl), trivial⟩)) ⟨_, _, hj6, rfl⟩
                  · have hj6 := bif_t hj5
                    clear hj5
                    conv => whnf
                    refine Nm.mk ⟨[.lit (.string (⟨#[114, 101, 97, 108]⟩)), .lit (.string t95)], rfl, ?_⟩
                    exact BackS.of (Sees.of (Weak.objs (keep := [0]) (frz := []) (m := 0) (ts := [(0, .lit (.string s0)), (2, .ptr 0 0), (3, .lit (.int .i64 t89_0))]) (hs := [.box [.lit (.string ((⟨#[114, 101, 97, 108]⟩))), .lit (.string t95)]]) rfl (by decide) rfl rfl ⟨⟨_, rfl, WO.boxs ⟨(.same (.lit (.string (⟨#[114, 101, 97, 108]⟩))) rfl), (.same (.lit (.string t95)) rfl), trivial⟩⟩, ⟨rfl, fun _ h => by cases h⟩⟩ ⟨(.same (.lit (.string s0)) rfl), (.ptr _ _ 0 rfl), (.same (.lit (.int .i64 t89_0)) rfl), trivial⟩)) ⟨_, _, hj6, rfl⟩
                · clear hj5
                  rintro s ⟨t2_0_3, t2_1_3, hj0, rfl⟩
                  unfold Tok.first.j3 at hj0
                  conv => whnf
                  refine CutN.of (fun s => ∃ (t2_0_4 : ByteArray) (t2_1_4 : ByteArray) (t108 : Bool), Tok.first.j4 t89_0 t2_0_4 t2_1_4 t108 = some r ∧ s = (⟨116, [(2, .ptr 0 0), (3, .lit (.int .i64 t89_0)), (108, .lit (.bool t108))], [.box [.lit (.string t2_0_4), .lit (.string t2_1_4)]]⟩ : St)) ?_ ?_
                  · obtain ⟨t101, et101, hj1⟩ := letk_elim hj0; clear hj0
                    conv => whnf
                    refine Nm.mk ⟨t101, et101, ?_⟩
                    obtain ⟨t102, et102, hj2⟩ := letk_elim hj1; clear hj1
                    conv => whnf
                    refine Nm.mk ⟨t102, et102, ?_⟩
                    rcases t102 with _ | _
                    · have hj3 := bif_f hj2
                      clear hj2
                      exact BackS.of (Sees.of (Weak.objs (keep := [0]) (frz := []) (m := 0) (ts := [(2, .ptr 0 0), (3, .lit (.int .i64 t89_0)), (108, .lit (.bool false))]) (hs := [.box [.lit (.string t2_0_3), .lit (.string t2_1_3)]]) rfl (by decide) rfl rfl ⟨⟨_, rfl, WO.boxs ⟨(.same (.lit (.string t2_0_3)) rfl), (.same (.lit (.string t2_1_3)) rfl), trivial⟩⟩, ⟨rfl, fun _ h => by cases h⟩⟩ ⟨(.ptr _ _ 0 rfl), (.same (.lit (.int .i64 t89_0)) rfl), (.same (.lit (.bool false)) rfl), trivial⟩)) ⟨_, _, _, hj3, rfl⟩
                    · have hj3 := bif_t hj2
                      clear hj2
                      obtain ⟨chj4, hj4⟩ := chk_elim hj3; clear hj3
                      obtain ⟨t106, et106, hj5⟩ := letk_elim hj4; clear hj4
                      conv => whnf
                      refine Side.mk chj4 ?_
                      conv => whnf
                      refine Nm.mk ⟨t106, et106, ?_⟩
                      obtain ⟨t107, et107, hj6⟩ := bind_elim hj5; clear hj5
                      conv => whnf
                      refine Gate.go ?_
                      conv => whnf
                      refine CallN.by (v := .lit (.bool t107)) (Tok.isPart_ok et107) rfl rfl ?_
                      exact BackS.of (Sees.of (Weak.objs (keep := [0]) (frz := []) (m := 0) (ts := [(2, .ptr 0 0), (3, .lit (.int .i64 t89_0)), (108, .lit (.bool t107))]) (hs := [.box [.lit (.string t2_0_3), .lit (.string t2_1_3)]]) rfl (by decide) rfl rfl ⟨⟨_, rfl, WO.boxs ⟨(.same (.lit (.string t2_0_3)) rfl), (.same (.lit (.string t2_1_3)) rfl), trivial⟩⟩, ⟨rfl, fun _ h => by cases h⟩⟩ ⟨(.ptr _ _ 0 rfl), (.same (.lit (.int .i64 t89_0)) rfl), (.same (.lit (.bool t107)) rfl), trivial⟩)) ⟨_, _, _, hj6, rfl⟩
                  · clear hj0
                    rintro s ⟨t2_0_4, t2_1_4, t108, hj0, rfl⟩
                    unfold Tok.first.j4 at hj0
                    rcases t108 with _ | _
                    · have hj1 := bif_f hj0
                      clear hj0
                      exact BackS.of (Sees.of (Weak.objs (keep := [0]) (frz := []) (m := 0) (ts := [(2, .ptr 0 0), (3, .lit (.int .i64 t89_0))]) (hs := [.box [.lit (.string t2_0_4), .lit (.string t2_1_4)]]) rfl (by decide) rfl rfl ⟨⟨_, rfl, WO.boxs ⟨(.same (.lit (.string t2_0_4)) rfl), (.same (.lit (.string t2_1_4)) rfl), trivial⟩⟩, ⟨rfl, fun _ h => by cases h⟩⟩ ⟨(.ptr _ _ 0 rfl), (.same (.lit (.int .i64 t89_0)) rfl), trivial⟩)) ⟨_, _, _, hj1, rfl⟩
                    · have hj1 := bif_t hj0
                      clear hj0
                      conv => whnf
                      refine Nm.mk ⟨[.lit (.string t2_0_4), .lit (.string t2_1_4)], rfl, ?_⟩
                      have ehj1_0 := Option.some.inj hj1
                      subst ehj1_0
                      conv => whnf
                      exact Returns.pure (r := .tup [api.Token.enc ((⟨t2_0_4, t2_1_4⟩ : api.Token)), .lit (.int .i64 0)]) rfl rfl rfl rfl ⟨rfl, rfl⟩
          · have hj4 := bif_t hj3
            clear hj3
            obtain ⟨t57, et57, hj5⟩ := bind_elim hj4; clear hj4
            conv => whnf
            refine Gate.go ?_
            conv => whnf
            refine CallN.by (v := .lit (.string t57)) (Tok.word_ok et57) rfl rfl ?_
            obtain ⟨t58, et58, hj6⟩ := bind_elim hj5; clear hj5
            conv => whnf
            refine Gate.go ?_
            conv => whnf
            refine CallN.by (v := .vs 1 (t58.map (eS))) (Tok.words_ok et58) rfl rfl ?_
            obtain ⟨chj7, hj7⟩ := chk_elim hj6; clear hj6
            obtain ⟨t59, et59, hj8⟩ := letk_elim hj7; clear hj7
            conv => whnf
            refine Side.mk (by simpa only [List.length_map] using chj7) ?_
            conv => whnf
            refine Nm.mk ⟨t59.map (eS), by rw [et59]; simp only [List.map_take, List.map_drop, List.length_map], ?_⟩
            obtain ⟨t61, et61, hj9⟩ := bind_elim hj8; clear hj8
            conv => whnf
            refine Gate.go ?_
            conv => whnf
            refine CallN.by (v := .lit (.bool t61)) (Slcs.Contains___string_string__ok et61) rfl rfl ?_
            rcases t61 with _ | _
            · have hj10 := bif_f hj9
              clear hj9
              conv => whnf
              refine Gate.go ?_
              conv => whnf
              refine Nm.mk ⟨[.lit (.string (⟨#[111, 112]⟩)), .lit (.string t57)], rfl, ?_⟩
              obtain ⟨t69, et69, hj11⟩ := letk_elim hj10; clear hj10
              conv => whnf
              refine Nm.mk ⟨t69, et69, ?_⟩
              conv => whnf
              refine Nm.mk ⟨[.lit (.string (⟨#[111, 112]⟩)), .lit (.string t57)], rfl, ?_⟩
              have ehj11_0 := Option.some.inj hj11
              subst ehj11_0
              conv => whnf
              exact Returns.pure (r := .tup [api.Token.enc ((⟨⟨#[111, 112]⟩, t57⟩ : api.Token)), .lit (.int .i64 t69)]) rfl rfl rfl rfl ⟨rfl, rfl⟩
            · have hj10 := bif_t hj9
              clear hj9
              conv => whnf
              refine Gate.go ?_
              conv => whnf
              refine Nm.mk ⟨[.lit (.string (⟨#[108, 111, 103, 105, 99, 97, 108]⟩)), .lit (.string t57)], rfl, ?_⟩
              obtain ⟨t65, et65, hj11⟩ := letk_elim hj10; clear hj10
              conv => whnf
              refine Nm.mk ⟨t65, et65, ?_⟩
              conv => whnf
              refine Nm.mk ⟨[.lit (.string (⟨#[108, 111, 103, 105, 99, 97, 108]⟩)), .lit (.string t57)], rfl, ?_⟩
              have ehj11_0 := Option.some.inj hj11
              subst ehj11_0
              conv => whnf
              exact Returns.pure (r := .tup [api.Token.enc ((⟨⟨#[108, 111, 103, 105, 99, 97, 108]⟩, t57⟩ : api.Token)), .lit (.int .i64 t65)]) rfl rfl rfl rfl ⟨rfl, rfl⟩
        · have hj1 := bif_t hj0
          clear hj0
          conv => whnf
          refine Nm.mk ⟨[.lit (.string (⟨#[116, 101, 120, 116]⟩)), .lit (.string (⟨#[]⟩))], rfl, ?_⟩
          obtain ⟨⟨t46_0, t46_1⟩, et46, hj2⟩ := bind_elim hj1; clear hj1
          conv => whnf
          refine Gate.go ?_
          conv => whnf
          refine CallN.by (v := .tup [.lit (.string t46_0), .lit (.int .i64 t46_1)]) (Tok.quoted_ok et46) rfl rfl ?_
          conv => whnf
          refine Nm.mk ⟨[.lit (.string (⟨#[116, 101, 120, 116]⟩)), .lit (.string t46_0)], rfl, ?_⟩
          conv => whnf
          refine Nm.mk ⟨[.lit (.string (⟨#[116, 101, 120, 116]⟩)), .lit (.string t46_0)], rfl, ?_⟩
          have ehj2_0 := Option.some.inj hj2
          subst ehj2_0
          conv => whnf
          exact Returns.pure (r := .tup [api.Token.enc ((⟨⟨#[116, 101, 120, 116]⟩, t46_0⟩ : api.Token)), .lit (.int .i64 t46_1)]) rfl rfl rfl rfl ⟨rfl, rfl⟩
    · have h4 := bif_t h3
      clear h3
      obtain ⟨t30, et30, h5⟩ := bind_elim h4; clear h4
      conv => whnf
      refine Gate.go ?_
      conv => whnf
      refine CallN.by (v := .lit (.int .i64 t30)) (Tok.run_ok (show List.all [] pureQ.pureQ0 = true from rfl) (fun _ r h => Tok.isPart_ok h) et30) rfl rfl ?_
      obtain ⟨ch6, h6⟩ := chk_elim h5; clear h5
      obtain ⟨t33, et33, h7⟩ := letk_elim h6; clear h6
      conv => whnf
      refine Side.mk ch6 ?_
      conv => whnf
      refine Nm.mk ⟨t33, et33, ?_⟩
      obtain ⟨t34, et34, h8⟩ := bind_elim h7; clear h7
      conv => whnf
      refine Gate.go ?_
      conv => whnf
      refine CallN.by (v := .lit (.string t34)) (Tok.small_ok et34) rfl rfl ?_
      conv => whnf
      refine Gate.go ?_
      conv => whnf
      refine Nm.mk ⟨[.lit (.string (⟨#[110, 97, 109, 101]⟩)), .lit (.string t34)], rfl, ?_⟩
      conv => whnf
      refine Nm.mk ⟨[.lit (.string (⟨#[110, 97, 109, 101]⟩)), .lit (.string t34)], rfl, ?_⟩
      exact BackS.of (Sees.of (Weak.objs (keep := [0]) (frz := []) (m := 0) (ts := [(2, .ptr 0 0), (3, .lit (.int .i64 t30))]) (hs := [.box [.lit (.string ((⟨#[110, 97, 109, 101]⟩))), .lit (.string t34)]]) rfl (by decide) rfl rfl ⟨⟨_, rfl, WO.boxs ⟨(.same (.lit (.string (⟨#[110, 97, 109, 101]⟩))) rfl), (.same (.lit (.string t34)) rfl), trivial⟩⟩, ⟨rfl, fun _ h => by cases h⟩⟩ ⟨(.ptr _ _ 0 rfl), (.same (.lit (.int .i64 t30)) rfl), trivial⟩)) ⟨_, _, _, h8, rfl⟩
  · clear h2
    rintro s ⟨t2_0, t2_1, n3, hj0, rfl⟩
    unfold Tok.first.j0 at hj0
    obtain ⟨t111, et111, hj1⟩ := bind_elim hj0; clear hj0
    conv => whnf
    refine Gate.go ?_
    conv => whnf
    refine CallN.by (v := .lit (.bool t111)) (Tok.Valid_ok et111) rfl rfl ?_
    obtain ⟨t112, et112, hj2⟩ := letk_elim hj1; clear hj1
    conv => whnf
    refine Nm.mk ⟨t112, et112, ?_⟩
    rcases t112 with _ | _
    · have hj3 := bif_f hj2
      clear hj2
      conv => whnf
      refine Nm.mk ⟨[.lit (.string t2_0), .lit (.string t2_1)], rfl, ?_⟩
      have ehj3_0 := Option.some.inj hj3
      subst ehj3_0
      conv => whnf
      exact Returns.pure (r := .tup [api.Token.enc ((⟨t2_0, t2_1⟩ : api.Token)), .lit (.int .i64 n3)]) rfl rfl rfl rfl ⟨rfl, rfl⟩
    · have hj3 := bif_t hj2
      clear hj2
      conv => whnf
      refine Nm.mk ⟨[.lit (.string t2_0), .lit (.string t2_1)], rfl, ?_⟩
      have ehj3_0 := Option.some.inj hj3
      subst ehj3_0
      conv => whnf
      exact Returns.pure (r := .tup [api.Token.enc ((⟨t2_0, t2_1⟩ : api.Token)), .lit (.int .i64 0)]) rfl rfl rfl rfl ⟨rfl, rfl⟩

noncomputable def Tok.Scan.j0 (text0 : ByteArray) (at7 : Int) (t31_1 : Int) (out6_1 : List api.Token) (t8_0 : ByteArray) (t8_1 : ByteArray) : Option (((List api.Token) × Int) ⊕ ((List api.Token) × Int × Int)) :=
  chk ((out6_1.length + ([(⟨t8_0, t8_1⟩ : api.Token)]).length) * 32 ≤ 140737488355328) <|
  letk (out6_1 ++ ([(⟨t8_0, t8_1⟩ : api.Token)])) fun t45 =>
  letk (IntKind.i64.wrap (at7 + t31_1)) fun t48 =>
  some (.inl (t45, t48))

noncomputable def Tok.Scan.s0 (text0 : ByteArray) (out6 : List api.Token) (at7 : Int) : Option (((List api.Token) × Int) ⊕ ((List api.Token) × Int × Int)) :=
  letk ((text0.size : Int)) fun t19 =>
  letk (decide (at7 < t19)) fun t20 =>
  bif t20 then
    chk (0 ≤ at7 ∧ at7 < (text0.size : Int)) <|
    letk (bt text0 at7) fun t23 =>
    letk (t23 == (32 : Int)) fun t24 =>
    bif t24 then
      letk (IntKind.i64.wrap (at7 + (1 : Int))) fun t26 =>
      some (.inl (out6, t26))
    else
      chk (0 ≤ at7 ∧ at7 ≤ (text0.size : Int)) <|
      letk (text0.extract at7.toNat text0.size) fun t30 =>
      Option.bind (Tok.first t30) fun (t31_0, t31_1) =>
      letk (t31_1 == (0 : Int)) fun t35 =>
      bif t35 then
        some (.inr ([], at7, 3))
      else
        Option.bind (Tok.Valid (⟨t31_0.Kind, t31_0.Text⟩ : api.Token)) fun t38 =>
        letk (!t38) fun t39 =>
        bif t39 then
          some (.inr ([], at7, 3))
        else
          Tok.Scan.j0 text0 at7 t31_1 out6 t31_0.Kind t31_0.Text
  else
    some (.inr (out6, 0, 0))

noncomputable def Tok.Scan.l0 (text0 : ByteArray) (out6 : List api.Token) (at7 : Int) : Option ((List api.Token) × Int × Int) := loopO (fun v : (List api.Token) × Int => Tok.Scan.s0 text0 v.1 v.2) (out6, at7)
theorem Tok.Scan.l0_eq (text0 : ByteArray) (out6 : List api.Token) (at7 : Int) : Tok.Scan.l0 text0 out6 at7 = (Tok.Scan.s0 text0 out6 at7).bind (Sum.elim (fun v => Tok.Scan.l0 text0 v.1 v.2) some) := loopO_eq _ _

noncomputable def Tok.Scan (text0 : ByteArray) : Option ((List api.Token) × Int × Int) :=
  Option.bind (Tok.run text0 Tok.isText) fun t11 =>
  letk ((text0.size : Int)) fun t14 =>
  letk (decide (t11 < t14)) fun t15 =>
  bif t15 then
    some ([], t11, 3)
  else
    Tok.Scan.l0 text0 ([]) 0

theorem Tok.Scan_ok {text0 : ByteArray} {r : (List api.Token) × Int × Int} (h0 : Tok.Scan text0 = some r) : Gives Tryz.prog 12 [.lit (.string text0)] (.tup [.vs 2 (r.1.map (api.Token.enc)), .lit (.int .i64 r.2.1), .lit (.int .i64 r.2.2)]) := by
  unfold Tok.Scan at h0
  refine ACalls.of_swp Tryz.func12 rfl (by decide) rfl (st0 := ⟨50, [(0, .lit (.string text0))], []⟩) rfl (bwp_ok (C := [(0, 12)]) ?_)
  obtain ⟨t11, et11, h1⟩ := bind_elim h0; clear h0
  conv => whnf
  refine Gate.go ?_
  conv => whnf
  refine CallN.by (v := .lit (.int .i64 t11)) (Tok.run_ok (show List.all [] pureQ.pureQ0 = true from rfl) (fun _ r h => Tok.isText_ok h) et11) rfl rfl ?_
  obtain ⟨t14, et14, h2⟩ := letk_elim h1; clear h1
  conv => whnf
  refine Nm.mk ⟨t14, et14, ?_⟩
  obtain ⟨t15, et15, h3⟩ := letk_elim h2; clear h2
  conv => whnf
  refine Nm.mk ⟨t15, et15, ?_⟩
  rcases t15 with _ | _
  · have h4 := bif_f h3
    clear h3
    conv => whnf
    unfold Tok.Scan.l0 at h4
    refine LoopB.of (σ := (List api.Token) × Int) (ρ := (List api.Token) × Int × Int) (fun v : (List api.Token) × Int => Tok.Scan.s0 text0 v.1 v.2) (fun v => (⟨50, [(0, .lit (.string text0)), (6, .ref 0 0 ((v.1.map (api.Token.enc)).length)), (7, .lit (.int .i64 v.2))], [.arr 2 (v.1.map (api.Token.enc))]⟩ : St)) ([], 0) h4 (BackS.of (Sees.of (Weak.objs (keep := []) (frz := []) (m := 1) (ts := [(0, .lit (.string text0)), (6, .ref 0 0 ((([]).map (api.Token.enc)).length)), (7, .lit (.int .i64 0))]) (hs := [.arr 2 ((([])).map (api.Token.enc))]) rfl (by decide) rfl rfl ⟨rfl, fun ob ho => by simp only [List.mem_cons, List.not_mem_nil, or_false] at ho; exact ⟨_, ho⟩⟩ ⟨(.same (.lit (.string text0)) rfl), (.nilsRef 0 (by decide) (by decide)), (.same (.lit (.int .i64 0)) rfl), trivial⟩)) rfl) ?_
    clear h4
    rintro K1 ⟨out6, at7⟩ x1 hs0_0 hl1 hr1
    replace hs0_0 : Tok.Scan.s0 text0 out6 at7 = some x1 := hs0_0
    unfold Tok.Scan.s0 at hs0_0
    change bwp _ _ _ _ _ (⟨50, [(0, .lit (.string text0)), (6, .ref 0 0 ((out6.map (api.Token.enc)).length)), (7, .lit (.int .i64 at7))], [.arr 2 (out6.map (api.Token.enc))]⟩ : St)
    obtain ⟨t19, et19, hs0_1⟩ := letk_elim hs0_0; clear hs0_0
    conv => whnf
    refine Nm.mk ⟨t19, et19, ?_⟩
    obtain ⟨t20, et20, hs0_2⟩ := letk_elim hs0_1; clear hs0_1
    conv => whnf
    refine Nm.mk ⟨t20, et20, ?_⟩
    rcases t20 with _ | _
    · have hs0_3 := bif_f hs0_2
      clear hs0_2
      have ehs0_3u_0 := hr1 _ (Option.some.inj hs0_3).symm
      have hs0_3u := congrArg some ehs0_3u_0
      have ehs0_3u_0 := Option.some.inj hs0_3u
      subst ehs0_3u_0
      conv => whnf
      exact Returns.frozen (r := .tup [.vs 2 (out6.map (api.Token.enc)), .lit (.int .i64 0), .lit (.int .i64 0)]) [0] rfl rfl (WV.tups ⟨(WV.all (k := 0) (by decide) rfl), (.same (.lit (.int .i64 0)) rfl), (.same (.lit (.int .i64 0)) rfl), trivial⟩) ⟨rfl, rfl⟩
    · have hs0_3 := bif_t hs0_2
      clear hs0_2
      obtain ⟨chs0_4, hs0_4⟩ := chk_elim hs0_3; clear hs0_3
      obtain ⟨t23, et23, hs0_5⟩ := letk_elim hs0_4; clear hs0_4
      conv => whnf
      refine Side.mk chs0_4 ?_
      conv => whnf
      refine Nm.mk ⟨t23, et23, ?_⟩
      obtain ⟨t24, et24, hs0_6⟩ := letk_elim hs0_5; clear hs0_5
      conv => whnf
      refine Nm.mk ⟨t24, et24, ?_⟩
      rcases t24 with _ | _
      · have hs0_7 := bif_f hs0_6
        clear hs0_6
        obtain ⟨chs0_8, hs0_8⟩ := chk_elim hs0_7; clear hs0_7
        obtain ⟨t30, et30, hs0_9⟩ := letk_elim hs0_8; clear hs0_8
        conv => whnf
        refine Side.mk chs0_8 ?_
        conv => whnf
        refine Nm.mk ⟨t30, et30, ?_⟩
        obtain ⟨⟨t31_0, t31_1⟩, et31, hs0_10⟩ := bind_elim hs0_9; clear hs0_9
        conv => whnf
        refine Gate.go ?_
        conv => whnf
        refine CallN.by (v := .tup [api.Token.enc t31_0, .lit (.int .i64 t31_1)]) (Tok.first_ok et31) rfl rfl ?_
        conv => whnf
        refine Nm.mk ⟨[.lit (.string (⟨#[]⟩)), .lit (.string (⟨#[]⟩))], rfl, ?_⟩
        conv => whnf
        refine Nm.mk ⟨[.lit (.string t31_0.Kind), .lit (.string t31_0.Text)], rfl, ?_⟩
        conv => whnf
        refine CutN.of (fun s => ∃ (out6_1 : List api.Token) (t8_0 : ByteArray) (t8_1 : ByteArray), Tok.Scan.j0 text0 at7 t31_1 out6_1 t8_0 t8_1 = some x1 ∧ s = (⟨50, [(0, .lit (.string text0)), (6, .ref 0 0 ((out6_1.map (api.Token.enc)).length)), (7, .lit (.int .i64 at7)), (8, .ptr 1 0), (9, .lit (.int .i64 t31_1))], [.arr 2 (out6_1.map (api.Token.enc)), .box [.lit (.string t8_0), .lit (.string t8_1)]]⟩ : St)) ?_ ?_
        · obtain ⟨t35, et35, hs0_11⟩ := letk_elim hs0_10; clear hs0_10
          conv => whnf
          refine Nm.mk ⟨t35, et35, ?_⟩
          rcases t35 with _ | _
          · have hs0_12 := bif_f hs0_11
            clear hs0_11
            obtain ⟨t38, et38, hs0_13⟩ := bind_elim hs0_12; clear hs0_12
            conv => whnf
            refine Gate.go ?_
            conv => whnf
            refine CallN.by (v := .lit (.bool t38)) (Tok.Valid_ok et38) rfl rfl ?_
            obtain ⟨t39, et39, hs0_14⟩ := letk_elim hs0_13; clear hs0_13
            conv => whnf
            refine Nm.mk ⟨t39, et39, ?_⟩
            rcases t39 with _ | _
            · have hs0_15 := bif_f hs0_14
              clear hs0_14
              exact BackS.of (Sees.of (Weak.objs (keep := [0, 1]) (frz := []) (m := 0) (ts := [(0, .lit (.string text0)), (6, .ref 0 0 ((out6.map (api.Token.enc)).length)), (7, .lit (.int .i64 at7)), (8, .ptr 1 0), (9, .lit (.int .i64 t31_1))]) (hs := [.arr 2 (out6.map (api.Token.enc)), .box [.lit (.string t31_0.Kind), .lit (.string t31_0.Text)]]) rfl (by decide) rfl rfl ⟨⟨_, rfl, .arr _ _⟩, ⟨⟨_, rfl, WO.boxs ⟨(.same (.lit (.string t31_0.Kind)) rfl), (.same (.lit (.string t31_0.Text)) rfl), trivial⟩⟩, ⟨rfl, fun _ h => by cases h⟩⟩⟩ ⟨(.same (.lit (.string text0)) rfl), (.ref _ _ _ 0 rfl), (.same (.lit (.int .i64 at7)) rfl), (.ptr _ _ 1 rfl), (.same (.lit (.int .i64 t31_1)) rfl), trivial⟩)) ⟨_, _, _, hs0_15, rfl⟩
            · have hs0_15 := bif_t hs0_14
              clear hs0_14
              have ehs0_15_0 := hr1 _ (Option.some.inj hs0_15).symm
              subst ehs0_15_0
              conv => whnf
              exact Returns.frozen (r := .tup [.vs 2 (([]).map (api.Token.enc)), .lit (.int .i64 at7), .lit (.int .i64 3)]) [] rfl rfl (WV.tups ⟨(.nilsVs _), (.same (.lit (.int .i64 at7)) rfl), (.same (.lit (.int .i64 3)) rfl), trivial⟩) ⟨rfl, rfl⟩
          · have hs0_12 := bif_t hs0_11
            clear hs0_11
            have ehs0_12_0 := hr1 _ (Option.some.inj hs0_12).symm
            subst ehs0_12_0
            conv => whnf
            exact Returns.frozen (r := .tup [.vs 2 (([]).map (api.Token.enc)), .lit (.int .i64 at7), .lit (.int .i64 3)]) [] rfl rfl (WV.tups ⟨(.nilsVs _), (.same (.lit (.int .i64 at7)) rfl), (.same (.lit (.int .i64 3)) rfl), trivial⟩) ⟨rfl, rfl⟩
        · clear hs0_10
          rintro s ⟨out6_1, t8_0, t8_1, hj0, rfl⟩
          unfold Tok.Scan.j0 at hj0
          conv => whnf
          refine Gate.go ?_
          conv => whnf
          refine Nm.mk ⟨([(⟨t8_0, t8_1⟩ : api.Token)]).map (api.Token.enc), rfl, ?_⟩
          obtain ⟨chj1, hj1⟩ := chk_elim hj0; clear hj0
          obtain ⟨t45, et45, hj2⟩ := letk_elim hj1; clear hj1
          conv => whnf
          refine Gate.go ?_
          conv => whnf
          refine Side.mk (full_le _) ?_
          conv => whnf
          refine Side.mk ⟨full_le _, one_map (fun _ _ hc => by simp only [api.Token.enc, AV.cells, List.mem_cons, List.not_mem_nil, or_false] at hc; rcases hc with rfl | rfl <;> rfl)⟩ ?_
          conv => whnf
          refine Side.mk (side_rr (by decide) chj1) ?_
          conv => whnf
          refine Nm.mk ⟨t45.map (api.Token.enc), by rw [et45]; exact app_rr (m := [(⟨t8_0, t8_1⟩ : api.Token)]), ?_⟩
          obtain ⟨t48, et48, hj3⟩ := letk_elim hj2; clear hj2
          conv => whnf
          refine Nm.mk ⟨t48, et48, ?_⟩
          exact BackS.of (Sees.of (Weak.objs (keep := [3]) (frz := []) (m := 0) (ts := [(0, .lit (.string text0)), (6, .ref 0 0 ((t45.map (api.Token.enc)).length)), (7, .lit (.int .i64 t48))]) (hs := [.arr 2 (t45.map (api.Token.enc))]) rfl (by decide) rfl rfl ⟨⟨_, rfl, .arr _ _⟩, ⟨rfl, fun _ h => by cases h⟩⟩ ⟨(.same (.lit (.string text0)) rfl), (.ref _ _ _ 0 rfl), (.same (.lit (.int .i64 t48)) rfl), trivial⟩)) ⟨_, hl1 _ (Option.some.inj hj3).symm, rfl⟩
      · have hs0_7 := bif_t hs0_6
        clear hs0_6
        obtain ⟨t26, et26, hs0_8⟩ := letk_elim hs0_7; clear hs0_7
        conv => whnf
        refine Nm.mk ⟨t26, et26, ?_⟩
        exact BackS.of (Sees.of (Weak.objs (keep := [0]) (frz := []) (m := 0) (ts := [(0, .lit (.string text0)), (6, .ref 0 0 ((out6.map (api.Token.enc)).length)), (7, .lit (.int .i64 t26))]) (hs := [.arr 2 (out6.map (api.Token.enc))]) rfl (by decide) rfl rfl ⟨⟨_, rfl, .arr _ _⟩, ⟨rfl, fun _ h => by cases h⟩⟩ ⟨(.same (.lit (.string text0)) rfl), (.ref _ _ _ 0 rfl), (.same (.lit (.int .i64 t26)) rfl), trivial⟩)) ⟨_, hl1 _ (Option.some.inj hs0_8).symm, rfl⟩
  · have h4 := bif_t h3
    clear h3
    have eh4_0 := Option.some.inj h4
    subst eh4_0
    conv => whnf
    exact Returns.frozen (r := .tup [.vs 2 (([]).map (api.Token.enc)), .lit (.int .i64 t11), .lit (.int .i64 3)]) [] rfl rfl (WV.tups ⟨(.nilsVs _), (.same (.lit (.int .i64 t11)) rfl), (.same (.lit (.int .i64 3)) rfl), trivial⟩) ⟨rfl, rfl⟩

noncomputable def Tok.Kind8 (real0 : ByteArray) : Option Bool :=
  Option.bind (Strs.ContainsAny real0 ⟨#[100, 68]⟩) fun t4 =>
  some t4

theorem Tok.Kind8_ok {real0 : ByteArray} {r : Bool} (h0 : Tok.Kind8 real0 = some r) : Gives Tryz.prog 10 [.lit (.string real0)] (.lit (.bool r)) := by
  unfold Tok.Kind8 at h0
  refine ACalls.of_swp Tryz.func10 rfl (by decide) rfl (st0 := ⟨5, [(0, .lit (.string real0))], []⟩) rfl (bwp_ok (C := []) ?_)
  obtain ⟨t4, et4, h1⟩ := bind_elim h0; clear h0
  conv => whnf
  refine Gate.go ?_
  conv => whnf
  refine CallN.by (v := .lit (.bool t4)) (Strs.ContainsAny_ok et4) rfl rfl ?_
  have eh1_0 := Option.some.inj h1
  subst eh1_0
  conv => whnf
  exact Returns.pure (r := .lit (.bool t4)) rfl rfl rfl rfl ⟨rfl, rfl⟩

noncomputable def Tok.Write.s0 (l0 : List api.Token) (t9 : Int) (out4 : List ByteArray) (t10 : Int) : Option (((List ByteArray) × Int) ⊕ (ByteArray × Int)) :=
  letk (decide (t10 < t9)) fun t11 =>
  bif t11 then
    chk (0 ≤ t10) <|
    Option.bind (l0[t10.toNat]?) fun t12 =>
    Option.bind (Tok.Valid (⟨t12.Kind, t12.Text⟩ : api.Token)) fun t15 =>
    letk (!t15) fun t16 =>
    bif t16 then
      some (.inr (⟨#[]⟩, 2))
    else
      letk (t12.Kind.toList == (⟨#[116, 101, 120, 116]⟩ : ByteArray).toList) fun t21 =>
      bif t21 then
        Option.bind (Strs.ReplaceAll t12.Text ⟨#[39]⟩ ⟨#[39, 39]⟩) fun t23 =>
        chk ((((⟨#[39]⟩ : ByteArray).size + t23.size : Nat) : Int) ≤ 9223372036854775807) <|
        letk ((⟨#[39]⟩ : ByteArray) ++ t23) fun t24 =>
        chk (((t24.size + (⟨#[39]⟩ : ByteArray).size : Nat) : Int) ≤ 9223372036854775807) <|
        letk (t24 ++ (⟨#[39]⟩ : ByteArray)) fun t25 =>
        chk ((out4.length + ([t25]).length) * 16 ≤ 140737488355328) <|
        letk (out4 ++ ([t25])) fun t29_1 =>
        letk (IntKind.i64.wrap (t10 + (1 : Int))) fun t30_1 =>
        some (.inl (t29_1, t30_1))
      else
        chk ((out4.length + ([t12.Text]).length) * 16 ≤ 140737488355328) <|
        letk (out4 ++ ([t12.Text])) fun t29 =>
        letk (IntKind.i64.wrap (t10 + (1 : Int))) fun t30 =>
        some (.inl (t29, t30))
  else
    ((
    Option.bind (Strs.Join out4 ⟨#[32]⟩) fun t32 =>
    some (t32, 0))).map .inr

noncomputable def Tok.Write.l0 (l0 : List api.Token) (t9 : Int) (out4 : List ByteArray) (t10 : Int) : Option (ByteArray × Int) := loopO (fun v : (List ByteArray) × Int => Tok.Write.s0 l0 t9 v.1 v.2) (out4, t10)
theorem Tok.Write.l0_eq (l0 : List api.Token) (t9 : Int) (out4 : List ByteArray) (t10 : Int) : Tok.Write.l0 l0 t9 out4 t10 = (Tok.Write.s0 l0 t9 out4 t10).bind (Sum.elim (fun v => Tok.Write.l0 l0 t9 v.1 v.2) some) := loopO_eq _ _

noncomputable def Tok.Write (l0 : List api.Token) : Option (ByteArray × Int) :=
  letk ((l0.length : Int)) fun t9 =>
  Tok.Write.l0 l0 t9 ([]) 0

theorem Tok.Write_ok {l0 : List api.Token} {r : ByteArray × Int} (h0 : Tok.Write l0 = some r) : Gives Tryz.prog 13 [.vs 2 (l0.map (api.Token.enc))] (.tup [.lit (.string r.1), .lit (.int .i64 r.2)]) := by
  unfold Tok.Write at h0
  refine ACalls.of_swp Tryz.func13 rfl (by decide) rfl (st0 := ⟨33, [(0, .vs 2 (l0.map (api.Token.enc)))], []⟩) rfl (bwp_ok (C := []) ?_)
  obtain ⟨t9, et9, h1⟩ := letk_elim h0; clear h0
  conv => whnf
  refine Nm.mk ⟨t9, by rw [et9, List.length_map], ?_⟩
  conv => whnf
  unfold Tok.Write.l0 at h1
  refine LoopB.of (σ := (List ByteArray) × Int) (ρ := ByteArray × Int) (fun v : (List ByteArray) × Int => Tok.Write.s0 l0 t9 v.1 v.2) (fun v => (⟨33, [(4, .ref 0 0 ((v.1.map (eS)).length)), (8, .vs 2 (l0.map (api.Token.enc))), (9, .lit (.int .i64 t9)), (10, .lit (.int .i64 v.2))], [.arr 1 (v.1.map (eS))]⟩ : St)) ([], 0) h1 (BackS.of (Sees.of (Weak.objs (keep := []) (frz := []) (m := 1) (ts := [(4, .ref 0 0 ((([]).map (eS)).length)), (8, .vs 2 (l0.map (api.Token.enc))), (9, .lit (.int .i64 t9)), (10, .lit (.int .i64 0))]) (hs := [.arr 1 ((([])).map (eS))]) rfl (by decide) rfl rfl ⟨rfl, fun ob ho => by simp only [List.mem_cons, List.not_mem_nil, or_false] at ho; exact ⟨_, ho⟩⟩ ⟨(.nilsRef 0 (by decide) (by decide)), (.same (.vs 2 (l0.map (api.Token.enc))) rfl), (.same (.lit (.int .i64 t9)) rfl), (.same (.lit (.int .i64 0)) rfl), trivial⟩)) rfl) ?_
  clear h1
  rintro K1 ⟨out4, t10⟩ x1 hs0_0 hl1 hr1
  replace hs0_0 : Tok.Write.s0 l0 t9 out4 t10 = some x1 := hs0_0
  unfold Tok.Write.s0 at hs0_0
  change bwp _ _ _ _ _ (⟨33, [(4, .ref 0 0 ((out4.map (eS)).length)), (8, .vs 2 (l0.map (api.Token.enc))), (9, .lit (.int .i64 t9)), (10, .lit (.int .i64 t10))], [.arr 1 (out4.map (eS))]⟩ : St)
  obtain ⟨t11, et11, hs0_1⟩ := letk_elim hs0_0; clear hs0_0
  conv => whnf
  refine Nm.mk ⟨t11, et11, ?_⟩
  rcases t11 with _ | _
  · have hs0_2 := bif_f hs0_1
    clear hs0_1
    obtain ⟨yhs0_2_0, hs0_2u, ehs0_2_0⟩ := map_elim hs0_2
    have ehs0_2_0 := hr1 _ ehs0_2_0.symm
    subst ehs0_2_0
    obtain ⟨t32, et32, hs0_2u0⟩ := bind_elim hs0_2u; clear hs0_2u
    conv => whnf
    refine Gate.weak (Sees.of (Weak.objs (keep := []) (frz := [0]) (m := 0) (ts := [(31, .vs 1 (out4.map (eS)))]) (hs := []) rfl (by decide) rfl rfl ⟨rfl, fun _ h => by cases h⟩ ⟨(WV.all (k := 0) (by decide) rfl), trivial⟩)) ?_
    conv => whnf
    refine CallN.by (v := .lit (.string t32)) (Strs.Join_ok et32) rfl rfl ?_
    have ehs0_2u0_0 := Option.some.inj hs0_2u0
    subst ehs0_2u0_0
    conv => whnf
    exact Returns.pure (r := .tup [.lit (.string t32), .lit (.int .i64 0)]) rfl rfl rfl rfl ⟨rfl, rfl⟩
  · have hs0_2 := bif_t hs0_1
    clear hs0_1
    obtain ⟨chs0_3, hs0_3⟩ := chk_elim hs0_2; clear hs0_2
    obtain ⟨t12, et12, hs0_4⟩ := bind_elim hs0_3; clear hs0_3
    conv => whnf
    refine Side.mk chs0_3 ?_
    conv => whnf
    refine At.by et12 ?_
    conv => whnf
    refine Nm.mk ⟨[.lit (.string (⟨#[]⟩)), .lit (.string (⟨#[]⟩))], rfl, ?_⟩
    conv => whnf
    refine Nm.mk ⟨[.lit (.string t12.Kind), .lit (.string t12.Text)], rfl, ?_⟩
    obtain ⟨t15, et15, hs0_5⟩ := bind_elim hs0_4; clear hs0_4
    conv => whnf
    refine Gate.go ?_
    conv => whnf
    refine CallN.by (v := .lit (.bool t15)) (Tok.Valid_ok et15) rfl rfl ?_
    obtain ⟨t16, et16, hs0_6⟩ := letk_elim hs0_5; clear hs0_5
    conv => whnf
    refine Nm.mk ⟨t16, et16, ?_⟩
    rcases t16 with _ | _
    · have hs0_7 := bif_f hs0_6
      clear hs0_6
      obtain ⟨t21, et21, hs0_8⟩ := letk_elim hs0_7; clear hs0_7
      conv => whnf
      refine Nm.mk ⟨t21, et21, ?_⟩
      rcases t21 with _ | _
      · have hs0_9 := bif_f hs0_8
        clear hs0_8
        conv => whnf
        refine Gate.go ?_
        conv => whnf
        refine Nm.mk ⟨([t12.Text]).map (eS), rfl, ?_⟩
        obtain ⟨chs0_10, hs0_10⟩ := chk_elim hs0_9; clear hs0_9
        obtain ⟨t29, et29, hs0_11⟩ := letk_elim hs0_10; clear hs0_10
        conv => whnf
        refine Gate.go ?_
        conv => whnf
        refine Side.mk (full_le _) ?_
        conv => whnf
        refine Side.mk ⟨full_le _, one_map (fun _ _ hc => by simp only [AV.cells, List.mem_singleton] at hc; subst hc; rfl)⟩ ?_
        conv => whnf
        refine Side.mk (side_rr (by decide) chs0_10) ?_
        conv => whnf
        refine Nm.mk ⟨t29.map (eS), by rw [et29]; exact app_rr (m := [t12.Text]), ?_⟩
        obtain ⟨t30, et30, hs0_12⟩ := letk_elim hs0_11; clear hs0_11
        conv => whnf
        refine Nm.mk ⟨t30, et30, ?_⟩
        exact BackS.of (Sees.of (Weak.objs (keep := [3]) (frz := []) (m := 0) (ts := [(4, .ref 0 0 ((t29.map (eS)).length)), (8, .vs 2 (l0.map (api.Token.enc))), (9, .lit (.int .i64 t9)), (10, .lit (.int .i64 t30))]) (hs := [.arr 1 (t29.map (eS))]) rfl (by decide) rfl rfl ⟨⟨_, rfl, .arr _ _⟩, ⟨rfl, fun _ h => by cases h⟩⟩ ⟨(.ref _ _ _ 0 rfl), (.same (.vs 2 (l0.map (api.Token.enc))) rfl), (.same (.lit (.int .i64 t9)) rfl), (.same (.lit (.int .i64 t30)) rfl), trivial⟩)) ⟨_, hl1 _ (Option.some.inj hs0_12).symm, rfl⟩
      · have hs0_9 := bif_t hs0_8
        clear hs0_8
        obtain ⟨t23, et23, hs0_10⟩ := bind_elim hs0_9; clear hs0_9
        conv => whnf
        refine Gate.go ?_
        conv => whnf
        refine CallN.by (v := .lit (.string t23)) (Strs.ReplaceAll_ok et23) rfl rfl ?_
        obtain ⟨chs0_11, hs0_11⟩ := chk_elim hs0_10; clear hs0_10
        obtain ⟨t24, et24, hs0_12⟩ := letk_elim hs0_11; clear hs0_11
        conv => whnf
        refine Side.mk chs0_11 ?_
        conv => whnf
        refine Nm.mk ⟨t24, et24, ?_⟩
        obtain ⟨chs0_13, hs0_13⟩ := chk_elim hs0_12; clear hs0_12
        obtain ⟨t25, et25, hs0_14⟩ := letk_elim hs0_13; clear hs0_13
        conv => whnf
        refine Side.mk chs0_13 ?_
        conv => whnf
        refine Nm.mk ⟨t25, et25, ?_⟩
        conv => whnf
        refine Gate.go ?_
        conv => whnf
        refine Nm.mk ⟨([t25]).map (eS), rfl, ?_⟩
        obtain ⟨chs0_15, hs0_15⟩ := chk_elim hs0_14; clear hs0_14
        obtain ⟨t29_1, et29_1, hs0_16⟩ := letk_elim hs0_15; clear hs0_15
        conv => whnf
        refine Gate.go ?_
        conv => whnf
        refine Side.mk (full_le _) ?_
        conv => whnf
        refine Side.mk ⟨full_le _, one_map (fun _ _ hc => by simp only [AV.cells, List.mem_singleton] at hc; subst hc; rfl)⟩ ?_
        conv => whnf
        refine Side.mk (side_rr (by decide) chs0_15) ?_
        conv => whnf
        refine Nm.mk ⟨t29_1.map (eS), by rw [et29_1]; exact app_rr (m := [t25]), ?_⟩
        obtain ⟨t30_1, et30_1, hs0_17⟩ := letk_elim hs0_16; clear hs0_16
        conv => whnf
        refine Nm.mk ⟨t30_1, et30_1, ?_⟩
        exact BackS.of (Sees.of (Weak.objs (keep := [3]) (frz := []) (m := 0) (ts := [(4, .ref 0 0 ((t29_1.map (eS)).length)), (8, .vs 2 (l0.map (api.Token.enc))), (9, .lit (.int .i64 t9)), (10, .lit (.int .i64 t30_1))]) (hs := [.arr 1 (t29_1.map (eS))]) rfl (by decide) rfl rfl ⟨⟨_, rfl, .arr _ _⟩, ⟨rfl, fun _ h => by cases h⟩⟩ ⟨(.ref _ _ _ 0 rfl), (.same (.vs 2 (l0.map (api.Token.enc))) rfl), (.same (.lit (.int .i64 t9)) rfl), (.same (.lit (.int .i64 t30_1)) rfl), trivial⟩)) ⟨_, hl1 _ (Option.some.inj hs0_17).symm, rfl⟩
    · have hs0_7 := bif_t hs0_6
      clear hs0_6
      have ehs0_7_0 := hr1 _ (Option.some.inj hs0_7).symm
      subst ehs0_7_0
      conv => whnf
      exact Returns.pure (r := .tup [.lit (.string (⟨#[]⟩)), .lit (.int .i64 2)]) rfl rfl rfl rfl ⟨rfl, rfl⟩

end Go.Q
