import Derived.Test.YthdklcpkoeehnaaGreatDoorGJ
import Derived.Test.YthdklcpkoeehnaaGreatDoorProg
namespace Go.Q
open Go Go.Proofs
set_option maxRecDepth 10000
set_option maxHeartbeats 2000000

noncomputable def Tok.isText (c0 : Int) : Option Bool :=
  letk (decide (c0 ≥ (32 : Int))) fun t4 =>
  bif t4 then
    letk (decide (c0 ≤ (126 : Int))) fun t7 =>
    some t7
  else
    some false

theorem Tok.isText_ok {c0 : Int} {r : Bool} (h0 : Tok.isText c0 = some r) : Gives Tryz.prog 22 [.lit (.int .u8 c0)] (.lit (.bool r)) := by
  unfold Tok.isText at h0
  refine ACalls.of_swp Tryz.func22 rfl (by decide) rfl (st0 := ⟨9, [(0, .lit (.int .u8 c0))], []⟩) rfl (bwp_ok (C := []) ?_)
  obtain ⟨t4, et4, h1⟩ := letk_elim h0; clear h0
  conv => whnf
  refine Nm.mk ⟨t4, et4, ?_⟩
  rcases t4 with _ | _
  · have h2 := bif_f h1
    clear h1
    have eh2_0 := Option.some.inj h2
    subst eh2_0
    conv => whnf
    exact Returns.pure (r := .lit (.bool false)) rfl rfl rfl rfl ⟨rfl, rfl⟩
  · have h2 := bif_t h1
    clear h1
    obtain ⟨t7, et7, h3⟩ := letk_elim h2; clear h2
    conv => whnf
    refine Nm.mk ⟨t7, et7, ?_⟩
    have eh3_0 := Option.some.inj h3
    subst eh3_0
    conv => whnf
    exact Returns.pure (r := .lit (.bool t7)) rfl rfl rfl rfl ⟨rfl, rfl⟩

noncomputable def Tok.isDigit (c0 : Int) : Option Bool :=
  letk (decide (c0 ≥ (48 : Int))) fun t4 =>
  bif t4 then
    letk (decide (c0 ≤ (57 : Int))) fun t7 =>
    some t7
  else
    some false

theorem Tok.isDigit_ok {c0 : Int} {r : Bool} (h0 : Tok.isDigit c0 = some r) : Gives Tryz.prog 36 [.lit (.int .u8 c0)] (.lit (.bool r)) := by
  unfold Tok.isDigit at h0
  refine ACalls.of_swp Tryz.func36 rfl (by decide) rfl (st0 := ⟨9, [(0, .lit (.int .u8 c0))], []⟩) rfl (bwp_ok (C := []) ?_)
  obtain ⟨t4, et4, h1⟩ := letk_elim h0; clear h0
  conv => whnf
  refine Nm.mk ⟨t4, et4, ?_⟩
  rcases t4 with _ | _
  · have h2 := bif_f h1
    clear h1
    have eh2_0 := Option.some.inj h2
    subst eh2_0
    conv => whnf
    exact Returns.pure (r := .lit (.bool false)) rfl rfl rfl rfl ⟨rfl, rfl⟩
  · have h2 := bif_t h1
    clear h1
    obtain ⟨t7, et7, h3⟩ := letk_elim h2; clear h2
    conv => whnf
    refine Nm.mk ⟨t7, et7, ?_⟩
    have eh3_0 := Option.some.inj h3
    subst eh3_0
    conv => whnf
    exact Returns.pure (r := .lit (.bool t7)) rfl rfl rfl rfl ⟨rfl, rfl⟩

noncomputable def Tok.isLetter (c0 : Int) : Option Bool :=
  letk (decide (c0 ≥ (97 : Int))) fun t4 =>
  bif t4 then
    letk (decide (c0 ≤ (122 : Int))) fun t7 =>
    bif t7 then
      some true
    else
      letk (decide (c0 ≥ (65 : Int))) fun t11_1 =>
      bif t11_1 then
        letk (decide (c0 ≤ (90 : Int))) fun t14_1 =>
        some t14_1
      else
        some false
  else
    letk (decide (c0 ≥ (65 : Int))) fun t11 =>
    bif t11 then
      letk (decide (c0 ≤ (90 : Int))) fun t14 =>
      some t14
    else
      some false

theorem Tok.isLetter_ok {c0 : Int} {r : Bool} (h0 : Tok.isLetter c0 = some r) : Gives Tryz.prog 26 [.lit (.int .u8 c0)] (.lit (.bool r)) := by
  unfold Tok.isLetter at h0
  refine ACalls.of_swp Tryz.func26 rfl (by decide) rfl (st0 := ⟨17, [(0, .lit (.int .u8 c0))], []⟩) rfl (bwp_ok (C := []) ?_)
  obtain ⟨t4, et4, h1⟩ := letk_elim h0; clear h0
  conv => whnf
  refine Nm.mk ⟨t4, et4, ?_⟩
  rcases t4 with _ | _
  · have h2 := bif_f h1
    clear h1
    obtain ⟨t11, et11, h3⟩ := letk_elim h2; clear h2
    conv => whnf
    refine Nm.mk ⟨t11, et11, ?_⟩
    rcases t11 with _ | _
    · have h4 := bif_f h3
      clear h3
      have eh4_0 := Option.some.inj h4
      subst eh4_0
      conv => whnf
      exact Returns.pure (r := .lit (.bool false)) rfl rfl rfl rfl ⟨rfl, rfl⟩
    · have h4 := bif_t h3
      clear h3
      obtain ⟨t14, et14, h5⟩ := letk_elim h4; clear h4
      conv => whnf
      refine Nm.mk ⟨t14, et14, ?_⟩
      have eh5_0 := Option.some.inj h5
      subst eh5_0
      conv => whnf
      exact Returns.pure (r := .lit (.bool t14)) rfl rfl rfl rfl ⟨rfl, rfl⟩
  · have h2 := bif_t h1
    clear h1
    obtain ⟨t7, et7, h3⟩ := letk_elim h2; clear h2
    conv => whnf
    refine Nm.mk ⟨t7, et7, ?_⟩
    rcases t7 with _ | _
    · have h4 := bif_f h3
      clear h3
      obtain ⟨t11_1, et11_1, h5⟩ := letk_elim h4; clear h4
      conv => whnf
      refine Nm.mk ⟨t11_1, et11_1, ?_⟩
      rcases t11_1 with _ | _
      · have h6 := bif_f h5
        clear h5
        have eh6_0 := Option.some.inj h6
        subst eh6_0
        conv => whnf
        exact Returns.pure (r := .lit (.bool false)) rfl rfl rfl rfl ⟨rfl, rfl⟩
      · have h6 := bif_t h5
        clear h5
        obtain ⟨t14_1, et14_1, h7⟩ := letk_elim h6; clear h6
        conv => whnf
        refine Nm.mk ⟨t14_1, et14_1, ?_⟩
        have eh7_0 := Option.some.inj h7
        subst eh7_0
        conv => whnf
        exact Returns.pure (r := .lit (.bool t14_1)) rfl rfl rfl rfl ⟨rfl, rfl⟩
    · have h4 := bif_t h3
      clear h3
      have eh4_0 := Option.some.inj h4
      subst eh4_0
      conv => whnf
      exact Returns.pure (r := .lit (.bool true)) rfl rfl rfl rfl ⟨rfl, rfl⟩

noncomputable def Tok.isPart (c0 : Int) : Option Bool :=
  Option.bind (Tok.isLetter c0) fun t4 =>
  bif t4 then
    some true
  else
    Option.bind (Tok.isDigit c0) fun t7 =>
    bif t7 then
      some true
    else
      letk (c0 == (95 : Int)) fun t11 =>
      some t11

theorem Tok.isPart_ok {c0 : Int} {r : Bool} (h0 : Tok.isPart c0 = some r) : Gives Tryz.prog 27 [.lit (.int .u8 c0)] (.lit (.bool r)) := by
  unfold Tok.isPart at h0
  refine ACalls.of_swp Tryz.func27 rfl (by decide) rfl (st0 := ⟨13, [(0, .lit (.int .u8 c0))], []⟩) rfl (bwp_ok (C := []) ?_)
  obtain ⟨t4, et4, h1⟩ := bind_elim h0; clear h0
  conv => whnf
  refine Gate.go ?_
  conv => whnf
  refine CallN.by (v := .lit (.bool t4)) (Tok.isLetter_ok et4) rfl rfl ?_
  rcases t4 with _ | _
  · have h2 := bif_f h1
    clear h1
    obtain ⟨t7, et7, h3⟩ := bind_elim h2; clear h2
    conv => whnf
    refine Gate.go ?_
    conv => whnf
    refine CallN.by (v := .lit (.bool t7)) (Tok.isDigit_ok et7) rfl rfl ?_
    rcases t7 with _ | _
    · have h4 := bif_f h3
      clear h3
      obtain ⟨t11, et11, h5⟩ := letk_elim h4; clear h4
      conv => whnf
      refine Nm.mk ⟨t11, et11, ?_⟩
      have eh5_0 := Option.some.inj h5
      subst eh5_0
      conv => whnf
      exact Returns.pure (r := .lit (.bool t11)) rfl rfl rfl rfl ⟨rfl, rfl⟩
    · have h4 := bif_t h3
      clear h3
      have eh4_0 := Option.some.inj h4
      subst eh4_0
      conv => whnf
      exact Returns.pure (r := .lit (.bool true)) rfl rfl rfl rfl ⟨rfl, rfl⟩
  · have h2 := bif_t h1
    clear h1
    have eh2_0 := Option.some.inj h2
    subst eh2_0
    conv => whnf
    exact Returns.pure (r := .lit (.bool true)) rfl rfl rfl rfl ⟨rfl, rfl⟩

noncomputable def Tok.run.s0 (s0 : ByteArray) (is1 : Int → Option Bool) (n5 : Int) : Option (Int ⊕ Int) :=
  letk ((s0.size : Int)) fun t8 =>
  letk (decide (n5 < t8)) fun t9 =>
  bif t9 then
    chk (0 ≤ n5 ∧ n5 < (s0.size : Int)) <|
    letk (bt s0 n5) fun t14 =>
    Option.bind (is1 t14) fun t15 =>
    bif t15 then
      letk (IntKind.i64.wrap (n5 + (1 : Int))) fun t18 =>
      some (.inl t18)
    else
      some (.inr n5)
  else
    some (.inr n5)

noncomputable def Tok.run.l0 (s0 : ByteArray) (is1 : Int → Option Bool) (n5 : Int) : Option Int := loopO (fun v : Int => Tok.run.s0 s0 is1 v) n5
theorem Tok.run.l0_eq (s0 : ByteArray) (is1 : Int → Option Bool) (n5 : Int) : Tok.run.l0 s0 is1 n5 = (Tok.run.s0 s0 is1 n5).bind (Sum.elim (fun v => Tok.run.l0 s0 is1 v) some) := loopO_eq _ _

noncomputable def Tok.run (s0 : ByteArray) (is1 : Int → Option Bool) : Option Int :=
  Tok.run.l0 s0 is1 0

theorem Tok.run_ok {s0 : ByteArray} {is1 : Int → Option Bool} {r : Int} {is1g : Nat} {is1gc : List AV} (his1gc : is1gc.all pureQ.pureQ0 = true) (his1 : ∀ a0 r, is1 a0 = some r → Gives Tryz.prog is1g ([.lit (.int .u8 a0)] ++ is1gc) (.lit (.bool r))) (h0 : Tok.run s0 is1 = some r) : Gives Tryz.prog 21 [.lit (.string s0), .fn (.func is1g) [] is1gc] (.lit (.int .i64 r)) := by
  unfold Tok.run at h0
  refine ACalls.of_swp Tryz.func21 rfl (by decide) rfl (st0 := ⟨20, [(0, .lit (.string s0)), (1, .fn (.func is1g) [] is1gc)], []⟩) rfl (bwp_ok (C := []) ?_)
  conv => whnf
  unfold Tok.run.l0 at h0
  refine LoopB.of (σ := Int) (ρ := Int) (fun v : Int => Tok.run.s0 s0 is1 v) (fun v => (⟨20, [(0, .lit (.string s0)), (1, .fn (.func is1g) [] is1gc), (5, .lit (.int .i64 v))], []⟩ : St)) 0 h0 (BackS.of (Sees.of (Weak.objs (keep := []) (frz := []) (m := 0) (ts := [(0, .lit (.string s0)), (1, .fn (.func is1g) [] is1gc), (5, .lit (.int .i64 0))]) (hs := []) rfl (by decide) rfl rfl ⟨rfl, fun _ h => by cases h⟩ ⟨(.same (.lit (.string s0)) rfl), (.same (.fn (.func is1g) [] is1gc) (fnq his1gc)), (.same (.lit (.int .i64 0)) rfl), trivial⟩)) rfl) ?_
  clear h0
  rintro K1 n5 x1 hs0_0 hl1 hr1
  replace hs0_0 : Tok.run.s0 s0 is1 n5 = some x1 := hs0_0
  unfold Tok.run.s0 at hs0_0
  change bwp _ _ _ _ _ (⟨20, [(0, .lit (.string s0)), (1, .fn (.func is1g) [] is1gc), (5, .lit (.int .i64 n5))], []⟩ : St)
  obtain ⟨t8, et8, hs0_1⟩ := letk_elim hs0_0; clear hs0_0
  conv => whnf
  refine Nm.mk ⟨t8, et8, ?_⟩
  obtain ⟨t9, et9, hs0_2⟩ := letk_elim hs0_1; clear hs0_1
  conv => whnf
  refine Nm.mk ⟨t9, et9, ?_⟩
  rcases t9 with _ | _
  · have hs0_3 := bif_f hs0_2
    clear hs0_2
    have ehs0_3u_0 := hr1 _ (Option.some.inj hs0_3).symm
    have hs0_3u := congrArg some ehs0_3u_0
    have ehs0_3u_0 := Option.some.inj hs0_3u
    subst ehs0_3u_0
    conv => whnf
    exact Returns.pure (r := .lit (.int .i64 n5)) rfl rfl rfl rfl ⟨rfl, rfl⟩
  · have hs0_3 := bif_t hs0_2
    clear hs0_2
    obtain ⟨chs0_4, hs0_4⟩ := chk_elim hs0_3; clear hs0_3
    obtain ⟨t14, et14, hs0_5⟩ := letk_elim hs0_4; clear hs0_4
    conv => whnf
    refine Side.mk chs0_4 ?_
    conv => whnf
    refine Nm.mk ⟨t14, et14, ?_⟩
    obtain ⟨t15, et15, hs0_6⟩ := bind_elim hs0_5; clear hs0_5
    conv => whnf
    refine Gate.go ?_
    conv => whnf
    refine CallN.by (v := .lit (.bool t15)) (his1 _ _ et15) (allq_app rfl his1gc) rfl ?_
    rcases t15 with _ | _
    · have hs0_7 := bif_f hs0_6
      clear hs0_6
      have ehs0_7u_0 := hr1 _ (Option.some.inj hs0_7).symm
      have hs0_7u := congrArg some ehs0_7u_0
      have ehs0_7u_0 := Option.some.inj hs0_7u
      subst ehs0_7u_0
      conv => whnf
      exact Returns.pure (r := .lit (.int .i64 n5)) rfl rfl rfl rfl ⟨rfl, rfl⟩
    · have hs0_7 := bif_t hs0_6
      clear hs0_6
      obtain ⟨t18, et18, hs0_8⟩ := letk_elim hs0_7; clear hs0_7
      conv => whnf
      refine Nm.mk ⟨t18, et18, ?_⟩
      exact BackS.of (Sees.of (Weak.objs (keep := []) (frz := []) (m := 0) (ts := [(0, .lit (.string s0)), (1, .fn (.func is1g) [] is1gc), (5, .lit (.int .i64 t18))]) (hs := []) rfl (by decide) rfl rfl ⟨rfl, fun _ h => by cases h⟩ ⟨(.same (.lit (.string s0)) rfl), (.same (.fn (.func is1g) [] is1gc) (fnq his1gc)), (.same (.lit (.int .i64 t18)) rfl), trivial⟩)) ⟨_, hl1 _ (Option.some.inj hs0_8).symm, rfl⟩

noncomputable def Tok.small.j0 (t9 : Int) (b3 : List Int) (t10 : Int) (t14 : Int) (t20 : Bool) : Option (((List Int) × Int) ⊕ ByteArray) :=
  bif t20 then
    letk (IntKind.u8.wrap (t14 - (65 : Int))) fun t24 =>
    letk (IntKind.u8.wrap (t24 + (97 : Int))) fun t25 =>
    chk (0 ≤ t10 ∧ t10 < (b3.length : Int)) <|
    letk (0 + t10.toNat) fun t26 =>
    Option.bind (b3[t26]?) fun old =>
    letk (b3.set t26 t25) fun l =>
    letk (IntKind.i64.wrap (t10 + (1 : Int))) fun t27_1 =>
    some (.inl (l, t27_1))
  else
    letk (IntKind.i64.wrap (t10 + (1 : Int))) fun t27 =>
    some (.inl (b3, t27))

noncomputable def Tok.small.s0 (t9 : Int) (b3 : List Int) (t10 : Int) : Option (((List Int) × Int) ⊕ ByteArray) :=
  letk (decide (t10 < t9)) fun t11 =>
  bif t11 then
    chk (0 ≤ t10 ∧ t10 < (b3.length : Int)) <|
    letk (0 + t10.toNat) fun t13 =>
    Option.bind (b3[t13]?) fun t14 =>
    letk (decide (t14 ≥ (65 : Int))) fun t16 =>
    bif t16 then
      letk (decide (t14 ≤ (90 : Int))) fun t19 =>
      Tok.small.j0 t9 b3 t10 t14 t19
    else
      Tok.small.j0 t9 b3 t10 t14 false
  else
    ((
    letk (ofInts b3) fun t29 =>
    some t29)).map .inr

noncomputable def Tok.small.l0 (t9 : Int) (b3 : List Int) (t10 : Int) : Option ByteArray := loopO (fun v : (List Int) × Int => Tok.small.s0 t9 v.1 v.2) (b3, t10)
theorem Tok.small.l0_eq (t9 : Int) (b3 : List Int) (t10 : Int) : Tok.small.l0 t9 b3 t10 = (Tok.small.s0 t9 b3 t10).bind (Sum.elim (fun v => Tok.small.l0 t9 v.1 v.2) some) := loopO_eq _ _

noncomputable def Tok.small (s0 : ByteArray) : Option ByteArray :=
  letk (bytesI s0) fun t7 =>
  letk ((t7.length : Int)) fun t9 =>
  Tok.small.l0 t9 t7 0

theorem Tok.small_ok {s0 : ByteArray} {r : ByteArray} (h0 : Tok.small s0 = some r) : Gives Tryz.prog 28 [.lit (.string s0)] (.lit (.string r)) := by
  unfold Tok.small at h0
  refine ACalls.of_swp Tryz.func28 rfl (by decide) rfl (st0 := ⟨30, [(0, .lit (.string s0))], []⟩) rfl (bwp_ok (C := [(30, 13)]) ?_)
  obtain ⟨t7, et7, h1⟩ := letk_elim h0; clear h0
  conv => whnf
  refine Nm.mk ⟨t7.map (eI .u8), by rw [et7]; exact bytesI_map _, ?_⟩
  obtain ⟨t9, et9, h2⟩ := letk_elim h1; clear h1
  conv => whnf
  refine Nm.mk ⟨t9, by rw [et9, List.length_map], ?_⟩
  conv => whnf
  unfold Tok.small.l0 at h2
  refine LoopB.of (σ := (List Int) × Int) (ρ := ByteArray) (fun v : (List Int) × Int => Tok.small.s0 t9 v.1 v.2) (fun v => (⟨30, [(3, .ref 0 0 ((v.1.map (eI .u8)).length)), (8, .ref 0 0 ((v.1.map (eI .u8)).length)), (9, .lit (.int .i64 t9)), (10, .lit (.int .i64 v.2))], [.arr 1 (v.1.map (eI .u8))]⟩ : St)) (t7, 0) h2 (BackS.of (Sees.of (Weak.objs (keep := [0]) (frz := []) (m := 0) (ts := [(3, .ref 0 0 ((t7.map (eI .u8)).length)), (8, .ref 0 0 ((t7.map (eI .u8)).length)), (9, .lit (.int .i64 t9)), (10, .lit (.int .i64 0))]) (hs := [.arr 1 (t7.map (eI .u8))]) rfl (by decide) rfl rfl ⟨⟨_, rfl, .arr _ _⟩, ⟨rfl, fun _ h => by cases h⟩⟩ ⟨(.ref _ _ _ 0 rfl), (.ref _ _ _ 0 rfl), (.same (.lit (.int .i64 t9)) rfl), (.same (.lit (.int .i64 0)) rfl), trivial⟩)) rfl) ?_
  clear h2
  rintro K1 ⟨b3, t10⟩ x1 hs0_0 hl1 hr1
  replace hs0_0 : Tok.small.s0 t9 b3 t10 = some x1 := hs0_0
  unfold Tok.small.s0 at hs0_0
  change bwp _ _ _ _ _ (⟨30, [(3, .ref 0 0 ((b3.map (eI .u8)).length)), (8, .ref 0 0 ((b3.map (eI .u8)).length)), (9, .lit (.int .i64 t9)), (10, .lit (.int .i64 t10))], [.arr 1 (b3.map (eI .u8))]⟩ : St)
  obtain ⟨t11, et11, hs0_1⟩ := letk_elim hs0_0; clear hs0_0
  conv => whnf
  refine Nm.mk ⟨t11, et11, ?_⟩
  rcases t11 with _ | _
  · have hs0_2 := bif_f hs0_1
    clear hs0_1
    obtain ⟨yhs0_2_0, hs0_2u, ehs0_2_0⟩ := map_elim hs0_2
    have ehs0_2_0 := hr1 _ ehs0_2_0.symm
    subst ehs0_2_0
    obtain ⟨t29, et29, hs0_2u0⟩ := letk_elim hs0_2u; clear hs0_2u
    conv => whnf
    refine Side.mk ⟨full_le _, one_map (fun _ _ hc => by simp only [AV.cells, List.mem_singleton] at hc; subst hc; rfl)⟩ ?_
    conv => whnf
    refine BytesN.mk ⟨b3, map_takeAll _ _, ?_⟩
    conv => whnf
    refine Nm.mk ⟨t29, et29, ?_⟩
    have ehs0_2u0_0 := Option.some.inj hs0_2u0
    subst ehs0_2u0_0
    conv => whnf
    exact Returns.pure (r := .lit (.string t29)) rfl rfl rfl rfl ⟨rfl, rfl⟩
  · have hs0_2 := bif_t hs0_1
    clear hs0_1
    obtain ⟨chs0_3, hs0_3⟩ := chk_elim hs0_2; clear hs0_2
    obtain ⟨t13, et13, hs0_4⟩ := letk_elim hs0_3; clear hs0_3
    conv => whnf
    refine Side.mk (by simpa only [List.length_map] using chs0_3) ?_
    conv => whnf
    refine Nm.mk ⟨t13, et13, ?_⟩
    obtain ⟨t14, et14, hs0_5⟩ := bind_elim hs0_4; clear hs0_4
    conv => whnf
    refine At.by et14 ?_
    conv => whnf
    refine CutN.of (fun s => ∃ (t20 : Bool), Tok.small.j0 t9 b3 t10 t14 t20 = some x1 ∧ s = (⟨30, [(3, .ref 0 0 ((b3.map (eI .u8)).length)), (4, .lit (.int .i64 t10)), (5, .lit (.int .u8 t14)), (8, .ref 0 0 ((b3.map (eI .u8)).length)), (9, .lit (.int .i64 t9)), (10, .lit (.int .i64 t10)), (20, .lit (.bool t20))], [.arr 1 (b3.map (eI .u8))]⟩ : St)) ?_ ?_
    · obtain ⟨t16, et16, hs0_6⟩ := letk_elim hs0_5; clear hs0_5
      conv => whnf
      refine Nm.mk ⟨t16, et16, ?_⟩
      rcases t16 with _ | _
      · have hs0_7 := bif_f hs0_6
        clear hs0_6
        exact BackS.of (Sees.of (Weak.objs (keep := [0]) (frz := []) (m := 0) (ts := [(3, .ref 0 0 ((b3.map (eI .u8)).length)), (4, .lit (.int .i64 t10)), (5, .lit (.int .u8 t14)), (8, .ref 0 0 ((b3.map (eI .u8)).length)), (9, .lit (.int .i64 t9)), (10, .lit (.int .i64 t10)), (20, .lit (.bool false))]) (hs := [.arr 1 (b3.map (eI .u8))]) rfl (by decide) rfl rfl ⟨⟨_, rfl, .arr _ _⟩, ⟨rfl, fun _ h => by cases h⟩⟩ ⟨(.ref _ _ _ 0 rfl), (.same (.lit (.int .i64 t10)) rfl), (.same (.lit (.int .u8 t14)) rfl), (.ref _ _ _ 0 rfl), (.same (.lit (.int .i64 t9)) rfl), (.same (.lit (.int .i64 t10)) rfl), (.same (.lit (.bool false)) rfl), trivial⟩)) ⟨_, hs0_7, rfl⟩
      · have hs0_7 := bif_t hs0_6
        clear hs0_6
        obtain ⟨t19, et19, hs0_8⟩ := letk_elim hs0_7; clear hs0_7
        conv => whnf
        refine Nm.mk ⟨t19, et19, ?_⟩
        exact BackS.of (Sees.of (Weak.objs (keep := [0]) (frz := []) (m := 0) (ts := [(3, .ref 0 0 ((b3.map (eI .u8)).length)), (4, .lit (.int .i64 t10)), (5, .lit (.int .u8 t14)), (8, .ref 0 0 ((b3.map (eI .u8)).length)), (9, .lit (.int .i64 t9)), (10, .lit (.int .i64 t10)), (20, .lit (.bool t19))]) (hs := [.arr 1 (b3.map (eI .u8))]) rfl (by decide) rfl rfl ⟨⟨_, rfl, .arr _ _⟩, ⟨rfl, fun _ h => by cases h⟩⟩ ⟨(.ref _ _ _ 0 rfl), (.same (.lit (.int .i64 t10)) rfl), (.same (.lit (.int .u8 t14)) rfl), (.ref _ _ _ 0 rfl), (.same (.lit (.int .i64 t9)) rfl), (.same (.lit (.int .i64 t10)) rfl), (.same (.lit (.bool t19)) rfl), trivial⟩)) ⟨_, hs0_8, rfl⟩
    · clear hs0_5
      rintro s ⟨t20, hj0, rfl⟩
      unfold Tok.small.j0 at hj0
      rcases t20 with _ | _
      · have hj1 := bif_f hj0
        clear hj0
        obtain ⟨t27, et27, hj2⟩ := letk_elim hj1; clear hj1
        conv => whnf
        refine Nm.mk ⟨t27, et27, ?_⟩
        exact BackS.of (Sees.of (Weak.objs (keep := [0]) (frz := []) (m := 0) (ts := [(3, .ref 0 0 ((b3.map (eI .u8)).length)), (8, .ref 0 0 ((b3.map (eI .u8)).length)), (9, .lit (.int .i64 t9)), (10, .lit (.int .i64 t27))]) (hs := [.arr 1 (b3.map (eI .u8))]) rfl (by decide) rfl rfl ⟨⟨_, rfl, .arr _ _⟩, ⟨rfl, fun _ h => by cases h⟩⟩ ⟨(.ref _ _ _ 0 rfl), (.ref _ _ _ 0 rfl), (.same (.lit (.int .i64 t9)) rfl), (.same (.lit (.int .i64 t27)) rfl), trivial⟩)) ⟨_, hl1 _ (Option.some.inj hj2).symm, rfl⟩
      · have hj1 := bif_t hj0
        clear hj0
        obtain ⟨t24, et24, hj2⟩ := letk_elim hj1; clear hj1
        conv => whnf
        refine Nm.mk ⟨t24, et24, ?_⟩
        obtain ⟨t25, et25, hj3⟩ := letk_elim hj2; clear hj2
        conv => whnf
        refine Nm.mk ⟨t25, et25, ?_⟩
        obtain ⟨chj4, hj4⟩ := chk_elim hj3; clear hj3
        obtain ⟨t26, et26, hj5⟩ := letk_elim hj4; clear hj4
        conv => whnf
        refine Side.mk (by simpa only [List.length_map] using chj4) ?_
        conv => whnf
        refine Nm.mk ⟨t26, et26, ?_⟩
        obtain ⟨old, eold, hj6⟩ := bind_elim hj5; clear hj5
        obtain ⟨l, el, hj7⟩ := letk_elim hj6; clear hj6
        conv => whnf
        refine At.by eold ?_
        conv => whnf
        refine Side.mk ⟨Nat.le_of_ble_eq_true rfl, rfl⟩ ?_
        conv => whnf
        refine Nm.mk ⟨l.map (eI .u8), by rw [el, List.map_set]; rfl, ?_⟩
        rw [show (b3.map (eI .u8)).length = (l.map (eI .u8)).length from by rw [el, List.length_map, List.length_map, List.length_set]]
        obtain ⟨t27_1, et27_1, hj8⟩ := letk_elim hj7; clear hj7
        conv => whnf
        refine Nm.mk ⟨t27_1, et27_1, ?_⟩
        exact BackS.of (Sees.of (Weak.objs (keep := [0]) (frz := []) (m := 0) (ts := [(3, .ref 0 0 ((l.map (eI .u8)).length)), (8, .ref 0 0 ((l.map (eI .u8)).length)), (9, .lit (.int .i64 t9)), (10, .lit (.int .i64 t27_1))]) (hs := [.arr 1 (l.map (eI .u8))]) rfl (by decide) rfl rfl ⟨⟨_, rfl, .arr _ _⟩, ⟨rfl, fun _ h => by cases h⟩⟩ ⟨(.ref _ _ _ 0 rfl), (.ref _ _ _ 0 rfl), (.same (.lit (.int .i64 t9)) rfl), (.same (.lit (.int .i64 t27_1)) rfl), trivial⟩)) ⟨_, hl1 _ (Option.some.inj hj8).symm, rfl⟩

noncomputable def Tok.words  : Option ((List ByteArray)) :=
  some ([⟨#[46, 97, 110, 100, 46]⟩, ⟨#[46, 111, 114, 46]⟩, ⟨#[46, 110, 111, 116, 46]⟩, ⟨#[46, 101, 113, 118, 46]⟩, ⟨#[46, 116, 114, 117, 101, 46]⟩, ⟨#[46, 102, 97, 108, 115, 101, 46]⟩])

theorem Tok.words_ok {r : (List ByteArray)} (h0 : Tok.words = some r) : Gives Tryz.prog 24 [] (.vs 1 (r.map (eS))) := by
  unfold Tok.words at h0
  refine ACalls.of_swp Tryz.func24 rfl (by decide) rfl (st0 := ⟨2, [], []⟩) rfl (bwp_ok (C := []) ?_)
  conv => whnf
  refine Gate.go ?_
  conv => whnf
  refine Nm.mk ⟨([⟨#[46, 97, 110, 100, 46]⟩, ⟨#[46, 111, 114, 46]⟩, ⟨#[46, 110, 111, 116, 46]⟩, ⟨#[46, 101, 113, 118, 46]⟩, ⟨#[46, 116, 114, 117, 101, 46]⟩, ⟨#[46, 102, 97, 108, 115, 101, 46]⟩]).map (eS), rfl, ?_⟩
  have eh0_0 := Option.some.inj h0
  subst eh0_0
  conv => whnf
  exact Returns.frozen (r := .vs 1 (([⟨#[46, 97, 110, 100, 46]⟩, ⟨#[46, 111, 114, 46]⟩, ⟨#[46, 110, 111, 116, 46]⟩, ⟨#[46, 101, 113, 118, 46]⟩, ⟨#[46, 116, 114, 117, 101, 46]⟩, ⟨#[46, 102, 97, 108, 115, 101, 46]⟩]).map (eS))) [0] rfl rfl (WV.all (k := 0) (by decide) rfl) ⟨rfl, rfl⟩

noncomputable def Tok.signs  : Option ((List ByteArray)) :=
  some ([⟨#[42, 42]⟩, ⟨#[61, 61]⟩, ⟨#[47, 61]⟩, ⟨#[60, 61]⟩, ⟨#[62, 61]⟩, ⟨#[61, 62]⟩, ⟨#[58, 58]⟩, ⟨#[43]⟩, ⟨#[45]⟩, ⟨#[42]⟩, ⟨#[47]⟩, ⟨#[60]⟩, ⟨#[62]⟩, ⟨#[61]⟩, ⟨#[40]⟩, ⟨#[41]⟩, ⟨#[91]⟩, ⟨#[93]⟩, ⟨#[44]⟩, ⟨#[58]⟩, ⟨#[37]⟩])

theorem Tok.signs_ok {r : (List ByteArray)} (h0 : Tok.signs = some r) : Gives Tryz.prog 23 [] (.vs 1 (r.map (eS))) := by
  unfold Tok.signs at h0
  refine ACalls.of_swp Tryz.func23 rfl (by decide) rfl (st0 := ⟨2, [], []⟩) rfl (bwp_ok (C := []) ?_)
  conv => whnf
  refine Gate.go ?_
  conv => whnf
  refine Nm.mk ⟨([⟨#[42, 42]⟩, ⟨#[61, 61]⟩, ⟨#[47, 61]⟩, ⟨#[60, 61]⟩, ⟨#[62, 61]⟩, ⟨#[61, 62]⟩, ⟨#[58, 58]⟩, ⟨#[43]⟩, ⟨#[45]⟩, ⟨#[42]⟩, ⟨#[47]⟩, ⟨#[60]⟩, ⟨#[62]⟩, ⟨#[61]⟩, ⟨#[40]⟩, ⟨#[41]⟩, ⟨#[91]⟩, ⟨#[93]⟩, ⟨#[44]⟩, ⟨#[58]⟩, ⟨#[37]⟩]).map (eS), rfl, ?_⟩
  have eh0_0 := Option.some.inj h0
  subst eh0_0
  conv => whnf
  exact Returns.frozen (r := .vs 1 (([⟨#[42, 42]⟩, ⟨#[61, 61]⟩, ⟨#[47, 61]⟩, ⟨#[60, 61]⟩, ⟨#[62, 61]⟩, ⟨#[61, 62]⟩, ⟨#[58, 58]⟩, ⟨#[43]⟩, ⟨#[45]⟩, ⟨#[42]⟩, ⟨#[47]⟩, ⟨#[60]⟩, ⟨#[62]⟩, ⟨#[61]⟩, ⟨#[40]⟩, ⟨#[41]⟩, ⟨#[91]⟩, ⟨#[93]⟩, ⟨#[44]⟩, ⟨#[58]⟩, ⟨#[37]⟩]).map (eS))) [0] rfl rfl (WV.all (k := 0) (by decide) rfl) ⟨rfl, rfl⟩

noncomputable def Slcs.Index___string_string_.s0 (s0 : List ByteArray) (v1 : ByteArray) (t7 : Int) (t8 : Int) : Option (Int ⊕ Int) :=
  letk (decide (t8 < t7)) fun t9 =>
  bif t9 then
    chk (0 ≤ t8) <|
    Option.bind (s0[t8.toNat]?) fun t14 =>
    letk (v1.toList == t14.toList) fun t16 =>
    bif t16 then
      some (.inr t8)
    else
      letk (IntKind.i64.wrap (t8 + (1 : Int))) fun t18 =>
      some (.inl t18)
  else
    some (.inr (-1))

noncomputable def Slcs.Index___string_string_.l0 (s0 : List ByteArray) (v1 : ByteArray) (t7 : Int) (t8 : Int) : Option Int := loopO (fun v : Int => Slcs.Index___string_string_.s0 s0 v1 t7 v) t8
theorem Slcs.Index___string_string_.l0_eq (s0 : List ByteArray) (v1 : ByteArray) (t7 : Int) (t8 : Int) : Slcs.Index___string_string_.l0 s0 v1 t7 t8 = (Slcs.Index___string_string_.s0 s0 v1 t7 t8).bind (Sum.elim (fun v => Slcs.Index___string_string_.l0 s0 v1 t7 v) some) := loopO_eq _ _

noncomputable def Slcs.Index___string_string_ (s0 : List ByteArray) (v1 : ByteArray) : Option Int :=
  letk ((s0.length : Int)) fun t7 =>
  Slcs.Index___string_string_.l0 s0 v1 t7 0

theorem Slcs.Index___string_string__ok {s0 : List ByteArray} {v1 : ByteArray} {r : Int} (h0 : Slcs.Index___string_string_ s0 v1 = some r) : Gives Tryz.prog 35 [.vs 1 (s0.map (eS)), .lit (.string v1)] (.lit (.int .i64 r)) := by
  unfold Slcs.Index___string_string_ at h0
  refine ACalls.of_swp Tryz.func35 rfl (by decide) rfl (st0 := ⟨19, [(0, .vs 1 (s0.map (eS))), (1, .lit (.string v1))], []⟩) rfl (bwp_ok (C := []) ?_)
  obtain ⟨t7, et7, h1⟩ := letk_elim h0; clear h0
  conv => whnf
  refine Nm.mk ⟨t7, by rw [et7, List.length_map], ?_⟩
  conv => whnf
  unfold Slcs.Index___string_string_.l0 at h1
  refine LoopB.of (σ := Int) (ρ := Int) (fun v : Int => Slcs.Index___string_string_.s0 s0 v1 t7 v) (fun v => (⟨19, [(0, .vs 1 (s0.map (eS))), (1, .lit (.string v1)), (7, .lit (.int .i64 t7)), (8, .lit (.int .i64 v))], []⟩ : St)) 0 h1 (BackS.of (Sees.of (Weak.objs (keep := []) (frz := []) (m := 0) (ts := [(0, .vs 1 (s0.map (eS))), (1, .lit (.string v1)), (7, .lit (.int .i64 t7)), (8, .lit (.int .i64 0))]) (hs := []) rfl (by decide) rfl rfl ⟨rfl, fun _ h => by cases h⟩ ⟨(.same (.vs 1 (s0.map (eS))) rfl), (.same (.lit (.string v1)) rfl), (.same (.lit (.int .i64 t7)) rfl), (.same (.lit (.int .i64 0)) rfl), trivial⟩)) rfl) ?_
  clear h1
  rintro K1 t8 x1 hs0_0 hl1 hr1
  replace hs0_0 : Slcs.Index___string_string_.s0 s0 v1 t7 t8 = some x1 := hs0_0
  unfold Slcs.Index___string_string_.s0 at hs0_0
  change bwp _ _ _ _ _ (⟨19, [(0, .vs 1 (s0.map (eS))), (1, .lit (.string v1)), (7, .lit (.int .i64 t7)), (8, .lit (.int .i64 t8))], []⟩ : St)
  obtain ⟨t9, et9, hs0_1⟩ := letk_elim hs0_0; clear hs0_0
  conv => whnf
  refine Nm.mk ⟨t9, et9, ?_⟩
  rcases t9 with _ | _
  · have hs0_2 := bif_f hs0_1
    clear hs0_1
    have ehs0_2u_0 := hr1 _ (Option.some.inj hs0_2).symm
    have hs0_2u := congrArg some ehs0_2u_0
    have ehs0_2u_0 := Option.some.inj hs0_2u
    subst ehs0_2u_0
    conv => whnf
    exact Returns.pure (r := .lit (.int .i64 ((-1)))) rfl rfl rfl rfl ⟨rfl, rfl⟩
  · have hs0_2 := bif_t hs0_1
    clear hs0_1
    obtain ⟨chs0_3, hs0_3⟩ := chk_elim hs0_2; clear hs0_2
    obtain ⟨t14, et14, hs0_4⟩ := bind_elim hs0_3; clear hs0_3
    conv => whnf
    refine Side.mk chs0_3 ?_
    conv => whnf
    refine At.by et14 ?_
    obtain ⟨t16, et16, hs0_5⟩ := letk_elim hs0_4; clear hs0_4
    conv => whnf
    refine Nm.mk ⟨t16, et16, ?_⟩
    rcases t16 with _ | _
    · have hs0_6 := bif_f hs0_5
      clear hs0_5
      obtain ⟨t18, et18, hs0_7⟩ := letk_elim hs0_6; clear hs0_6
      conv => whnf
      refine Nm.mk ⟨t18, et18, ?_⟩
      exact BackS.of (Sees.of (Weak.objs (keep := []) (frz := []) (m := 0) (ts := [(0, .vs 1 (s0.map (eS))), (1, .lit (.string v1)), (7, .lit (.int .i64 t7)), (8, .lit (.int .i64 t18))]) (hs := []) rfl (by decide) rfl rfl ⟨rfl, fun _ h => by cases h⟩ ⟨(.same (.vs 1 (s0.map (eS))) rfl), (.same (.lit (.string v1)) rfl), (.same (.lit (.int .i64 t7)) rfl), (.same (.lit (.int .i64 t18)) rfl), trivial⟩)) ⟨_, hl1 _ (Option.some.inj hs0_7).symm, rfl⟩
    · have hs0_6 := bif_t hs0_5
      clear hs0_5
      have ehs0_6_0 := hr1 _ (Option.some.inj hs0_6).symm
      subst ehs0_6_0
      conv => whnf
      exact Returns.pure (r := .lit (.int .i64 t8)) rfl rfl rfl rfl ⟨rfl, rfl⟩

noncomputable def Slcs.Contains___string_string_ (s0 : List ByteArray) (v1 : ByteArray) : Option Bool :=
  Option.bind (Slcs.Index___string_string_ s0 v1) fun t7 =>
  letk (decide (t7 ≥ (0 : Int))) fun t8 =>
  some t8

theorem Slcs.Contains___string_string__ok {s0 : List ByteArray} {v1 : ByteArray} {r : Bool} (h0 : Slcs.Contains___string_string_ s0 v1 = some r) : Gives Tryz.prog 18 [.vs 1 (s0.map (eS)), .lit (.string v1)] (.lit (.bool r)) := by
  unfold Slcs.Contains___string_string_ at h0
  refine ACalls.of_swp Tryz.func18 rfl (by decide) rfl (st0 := ⟨9, [(0, .vs 1 (s0.map (eS))), (1, .lit (.string v1))], []⟩) rfl (bwp_ok (C := []) ?_)
  obtain ⟨t7, et7, h1⟩ := bind_elim h0; clear h0
  conv => whnf
  refine Gate.go ?_
  conv => whnf
  refine CallN.by (v := .lit (.int .i64 t7)) (Slcs.Index___string_string__ok et7) rfl rfl ?_
  obtain ⟨t8, et8, h2⟩ := letk_elim h1; clear h1
  conv => whnf
  refine Nm.mk ⟨t8, et8, ?_⟩
  have eh2_0 := Option.some.inj h2
  subst eh2_0
  conv => whnf
  exact Returns.pure (r := .lit (.bool t8)) rfl rfl rfl rfl ⟨rfl, rfl⟩

noncomputable def Slcs.Equal___quadrat_api.Token_quadrat_api.Token_.s0 (s10 : List api.Token) (s21 : List api.Token) (t12 : Int) (t13 : Int) : Option (Int ⊕ Bool) :=
  letk (decide (t13 < t12)) fun t14 =>
  bif t14 then
    chk (0 ≤ t13) <|
    Option.bind (s10[t13.toNat]?) fun t18 =>
    chk (0 ≤ t13) <|
    Option.bind (s21[t13.toNat]?) fun t22 =>
    letk (!((t18.Kind.toList == t22.Kind.toList) && ((t18.Text.toList == t22.Text.toList) && true))) fun t24 =>
    bif t24 then
      some (.inr false)
    else
      letk (IntKind.i64.wrap (t13 + (1 : Int))) fun t25 =>
      some (.inl t25)
  else
    some (.inr true)

noncomputable def Slcs.Equal___quadrat_api.Token_quadrat_api.Token_.l0 (s10 : List api.Token) (s21 : List api.Token) (t12 : Int) (t13 : Int) : Option Bool := loopO (fun v : Int => Slcs.Equal___quadrat_api.Token_quadrat_api.Token_.s0 s10 s21 t12 v) t13
theorem Slcs.Equal___quadrat_api.Token_quadrat_api.Token_.l0_eq (s10 : List api.Token) (s21 : List api.Token) (t12 : Int) (t13 : Int) : Slcs.Equal___quadrat_api.Token_quadrat_api.Token_.l0 s10 s21 t12 t13 = (Slcs.Equal___quadrat_api.Token_quadrat_api.Token_.s0 s10 s21 t12 t13).bind (Sum.elim (fun v => Slcs.Equal___quadrat_api.Token_quadrat_api.Token_.l0 s10 s21 t12 v) some) := loopO_eq _ _

noncomputable def Slcs.Equal___quadrat_api.Token_quadrat_api.Token_ (s10 : List api.Token) (s21 : List api.Token) : Option Bool :=
  letk ((s10.length : Int)) fun t7 =>
  letk ((s21.length : Int)) fun t9 =>
  letk (t7 != t9) fun t10 =>
  bif t10 then
    some false
  else
    letk ((s10.length : Int)) fun t12 =>
    Slcs.Equal___quadrat_api.Token_quadrat_api.Token_.l0 s10 s21 t12 0

theorem Slcs.Equal___quadrat_api.Token_quadrat_api.Token__ok {s10 : List api.Token} {s21 : List api.Token} {r : Bool} (h0 : Slcs.Equal___quadrat_api.Token_quadrat_api.Token_ s10 s21 = some r) : Gives Tryz.prog 34 [.vs 2 (s10.map (api.Token.enc)), .vs 2 (s21.map (api.Token.enc))] (.lit (.bool r)) := by
  unfold Slcs.Equal___quadrat_api.Token_quadrat_api.Token_ at h0
  refine ACalls.of_swp Tryz.func34 rfl (by decide) rfl (st0 := ⟨26, [(0, .vs 2 (s10.map (api.Token.enc))), (1, .vs 2 (s21.map (api.Token.enc)))], []⟩) rfl (bwp_ok (C := []) ?_)
  obtain ⟨t7, et7, h1⟩ := letk_elim h0; clear h0
  conv => whnf
  refine Nm.mk ⟨t7, by rw [et7, List.length_map], ?_⟩
  obtain ⟨t9, et9, h2⟩ := letk_elim h1; clear h1
  conv => whnf
  refine Nm.mk ⟨t9, by rw [et9, List.length_map], ?_⟩
  obtain ⟨t10, et10, h3⟩ := letk_elim h2; clear h2
  conv => whnf
  refine Nm.mk ⟨t10, et10, ?_⟩
  rcases t10 with _ | _
  · have h4 := bif_f h3
    clear h3
    obtain ⟨t12, et12, h5⟩ := letk_elim h4; clear h4
    conv => whnf
    refine Nm.mk ⟨t12, by rw [et12, List.length_map], ?_⟩
    conv => whnf
    unfold Slcs.Equal___quadrat_api.Token_quadrat_api.Token_.l0 at h5
    refine LoopB.of (σ := Int) (ρ := Bool) (fun v : Int => Slcs.Equal___quadrat_api.Token_quadrat_api.Token_.s0 s10 s21 t12 v) (fun v => (⟨26, [(0, .vs 2 (s10.map (api.Token.enc))), (1, .vs 2 (s21.map (api.Token.enc))), (12, .lit (.int .i64 t12)), (13, .lit (.int .i64 v))], []⟩ : St)) 0 h5 (BackS.of (Sees.of (Weak.objs (keep := []) (frz := []) (m := 0) (ts := [(0, .vs 2 (s10.map (api.Token.enc))), (1, .vs 2 (s21.map (api.Token.enc))), (12, .lit (.int .i64 t12)), (13, .lit (.int .i64 0))]) (hs := []) rfl (by decide) rfl rfl ⟨rfl, fun _ h => by cases h⟩ ⟨(.same (.vs 2 (s10.map (api.Token.enc))) rfl), (.same (.vs 2 (s21.map (api.Token.enc))) rfl), (.same (.lit (.int .i64 t12)) rfl), (.same (.lit (.int .i64 0)) rfl), trivial⟩)) rfl) ?_
    clear h5
    rintro K1 t13 x1 hs0_0 hl1 hr1
    replace hs0_0 : Slcs.Equal___quadrat_api.Token_quadrat_api.Token_.s0 s10 s21 t12 t13 = some x1 := hs0_0
    unfold Slcs.Equal___quadrat_api.Token_quadrat_api.Token_.s0 at hs0_0
    change bwp _ _ _ _ _ (⟨26, [(0, .vs 2 (s10.map (api.Token.enc))), (1, .vs 2 (s21.map (api.Token.enc))), (12, .lit (.int .i64 t12)), (13, .lit (.int .i64 t13))], []⟩ : St)
    obtain ⟨t14, et14, hs0_1⟩ := letk_elim hs0_0; clear hs0_0
    conv => whnf
    refine Nm.mk ⟨t14, et14, ?_⟩
    rcases t14 with _ | _
    · have hs0_2 := bif_f hs0_1
      clear hs0_1
      have ehs0_2u_0 := hr1 _ (Option.some.inj hs0_2).symm
      have hs0_2u := congrArg some ehs0_2u_0
      have ehs0_2u_0 := Option.some.inj hs0_2u
      subst ehs0_2u_0
      conv => whnf
      exact Returns.pure (r := .lit (.bool true)) rfl rfl rfl rfl ⟨rfl, rfl⟩
    · have hs0_2 := bif_t hs0_1
      clear hs0_1
      conv => whnf
      refine DrawB.of Tryz_mixed rfl ?_
      conv => whnf
      refine DNodeB.of (.vs 2 (s10.map (api.Token.enc))) ?_ ?_
      · conv => whnf
        rfl
      · conv => whnf
        refine DNodeB.of (.lit (.int .i64 t13)) ?_ ?_
        · conv => whnf
          rfl
        · obtain ⟨chs0_3, hs0_3⟩ := chk_elim hs0_2; clear hs0_2
          obtain ⟨t18, et18, hs0_4⟩ := bind_elim hs0_3; clear hs0_3
          conv => whnf
          refine DNodeB.of (.iptr (api.Token.enc t18)) ?_ ?_
          · conv => whnf
            refine Side.mk chs0_3 ?_
            conv => whnf
            refine At.by et18 ?_
            conv => whnf
            rfl
          · conv => whnf
            refine DNodeB.of (api.Token.enc t18) ?_ ?_
            · conv => whnf
              rfl
            · conv => whnf
              refine DNodeB.of (.vs 2 (s21.map (api.Token.enc))) ?_ ?_
              · conv => whnf
                rfl
              · conv => whnf
                refine DNodeB.of (.lit (.int .i64 t13)) ?_ ?_
                · conv => whnf
                  rfl
                · obtain ⟨chs0_5, hs0_5⟩ := chk_elim hs0_4; clear hs0_4
                  obtain ⟨t22, et22, hs0_6⟩ := bind_elim hs0_5; clear hs0_5
                  conv => whnf
                  refine DNodeB.of (.iptr (api.Token.enc t22)) ?_ ?_
                  · conv => whnf
                    refine Side.mk chs0_5 ?_
                    conv => whnf
                    refine At.by et22 ?_
                    conv => whnf
                    rfl
                  · conv => whnf
                    refine DNodeB.of (api.Token.enc t22) ?_ ?_
                    · conv => whnf
                      rfl
                    · obtain ⟨t24, et24, hs0_7⟩ := letk_elim hs0_6; clear hs0_6
                      conv => whnf
                      refine DNodeB.of (.lit (.bool t24)) ?_ ?_
                      · conv => whnf
                        refine EqS.mk ⟨[.s, .s], by kernel_rfl, ?_⟩
                        conv => whnf
                        refine Nm.mk ⟨t24, et24, ?_⟩
                        conv => whnf
                        rfl
                      · rcases t24 with _ | _
                        · have hs0_8 := bif_f hs0_7
                          clear hs0_7
                          obtain ⟨t25, et25, hs0_9⟩ := letk_elim hs0_8; clear hs0_8
                          conv => whnf
                          refine Nm.mk ⟨t25, et25, ?_⟩
                          exact BackS.of (Sees.of (Weak.objs (keep := []) (frz := []) (m := 0) (ts := [(0, .vs 2 (s10.map (api.Token.enc))), (1, .vs 2 (s21.map (api.Token.enc))), (12, .lit (.int .i64 t12)), (13, .lit (.int .i64 t25))]) (hs := []) rfl (by decide) rfl rfl ⟨rfl, fun _ h => by cases h⟩ ⟨(.same (.vs 2 (s10.map (api.Token.enc))) rfl), (.same (.vs 2 (s21.map (api.Token.enc))) rfl), (.same (.lit (.int .i64 t12)) rfl), (.same (.lit (.int .i64 t25)) rfl), trivial⟩)) ⟨_, hl1 _ (Option.some.inj hs0_9).symm, rfl⟩
                        · have hs0_8 := bif_t hs0_7
                          clear hs0_7
                          have ehs0_8_0 := hr1 _ (Option.some.inj hs0_8).symm
                          subst ehs0_8_0
                          conv => whnf
                          exact Returns.pure (r := .lit (.bool false)) rfl rfl rfl rfl ⟨rfl, rfl⟩
  · have h4 := bif_t h3
    clear h3
    have eh4_0 := Option.some.inj h4
    subst eh4_0
    conv => whnf
    exact Returns.pure (r := .lit (.bool false)) rfl rfl rfl rfl ⟨rfl, rfl⟩

noncomputable def Tok.Same (a0 : List api.Token) (b1 : List api.Token) : Option Bool :=
  Option.bind (Slcs.Equal___quadrat_api.Token_quadrat_api.Token_ a0 b1) fun t7 =>
  some t7

theorem Tok.Same_ok {a0 : List api.Token} {b1 : List api.Token} {r : Bool} (h0 : Tok.Same a0 b1 = some r) : Gives Tryz.prog 15 [.vs 2 (a0.map (api.Token.enc)), .vs 2 (b1.map (api.Token.enc))] (.lit (.bool r)) := by
  unfold Tok.Same at h0
  refine ACalls.of_swp Tryz.func15 rfl (by decide) rfl (st0 := ⟨8, [(0, .vs 2 (a0.map (api.Token.enc))), (1, .vs 2 (b1.map (api.Token.enc)))], []⟩) rfl (bwp_ok (C := []) ?_)
  obtain ⟨t7, et7, h1⟩ := bind_elim h0; clear h0
  conv => whnf
  refine Gate.go ?_
  conv => whnf
  refine CallN.by (v := .lit (.bool t7)) (Slcs.Equal___quadrat_api.Token_quadrat_api.Token__ok et7) rfl rfl ?_
  have eh1_0 := Option.some.inj h1
  subst eh1_0
  conv => whnf
  exact Returns.pure (r := .lit (.bool t7)) rfl rfl rfl rfl ⟨rfl, rfl⟩

noncomputable def Slite.HasPrefix (s0 : ByteArray) (prefix1 : ByteArray) : Option Bool :=
  letk ((s0.size : Int)) fun t6 =>
  letk ((prefix1.size : Int)) fun t8 =>
  letk (decide (t6 ≥ t8)) fun t9 =>
  bif t9 then
    letk ((prefix1.size : Int)) fun t13 =>
    chk (0 ≤ t13 ∧ t13 ≤ (s0.size : Int)) <|
    letk (s0.extract 0 t13.toNat) fun t14 =>
    letk (t14.toList == prefix1.toList) fun t16 =>
    some t16
  else
    some false

theorem Slite.HasPrefix_ok {s0 : ByteArray} {prefix1 : ByteArray} {r : Bool} (h0 : Slite.HasPrefix s0 prefix1 = some r) : Gives Tryz.prog 68 [.lit (.string s0), .lit (.string prefix1)] (.lit (.bool r)) := by
  unfold Slite.HasPrefix at h0
  refine ACalls.of_swp Tryz.func68 rfl (by decide) rfl (st0 := ⟨18, [(0, .lit (.string s0)), (1, .lit (.string prefix1))], []⟩) rfl (bwp_ok (C := []) ?_)
  obtain ⟨t6, et6, h1⟩ := letk_elim h0; clear h0
  conv => whnf
  refine Nm.mk ⟨t6, et6, ?_⟩
  obtain ⟨t8, et8, h2⟩ := letk_elim h1; clear h1
  conv => whnf
  refine Nm.mk ⟨t8, et8, ?_⟩
  obtain ⟨t9, et9, h3⟩ := letk_elim h2; clear h2
  conv => whnf
  refine Nm.mk ⟨t9, et9, ?_⟩
  rcases t9 with _ | _
  · have h4 := bif_f h3
    clear h3
    have eh4_0 := Option.some.inj h4
    subst eh4_0
    conv => whnf
    exact Returns.pure (r := .lit (.bool false)) rfl rfl rfl rfl ⟨rfl, rfl⟩
  · have h4 := bif_t h3
    clear h3
    obtain ⟨t13, et13, h5⟩ := letk_elim h4; clear h4
    conv => whnf
    refine Nm.mk ⟨t13, et13, ?_⟩
    obtain ⟨ch6, h6⟩ := chk_elim h5; clear h5
    obtain ⟨t14, et14, h7⟩ := letk_elim h6; clear h6
    conv => whnf
    refine Side.mk ch6 ?_
    conv => whnf
    refine Nm.mk ⟨t14, et14, ?_⟩
    obtain ⟨t16, et16, h8⟩ := letk_elim h7; clear h7
    conv => whnf
    refine Nm.mk ⟨t16, et16, ?_⟩
    have eh8_0 := Option.some.inj h8
    subst eh8_0
    conv => whnf
    exact Returns.pure (r := .lit (.bool t16)) rfl rfl rfl rfl ⟨rfl, rfl⟩

noncomputable def Strs.HasPrefix (s0 : ByteArray) (prefix1 : ByteArray) : Option Bool :=
  Option.bind (Slite.HasPrefix s0 prefix1) fun t7 =>
  some t7

theorem Strs.HasPrefix_ok {s0 : ByteArray} {prefix1 : ByteArray} {r : Bool} (h0 : Strs.HasPrefix s0 prefix1 = some r) : Gives Tryz.prog 46 [.lit (.string s0), .lit (.string prefix1)] (.lit (.bool r)) := by
  unfold Strs.HasPrefix at h0
  refine ACalls.of_swp Tryz.func46 rfl (by decide) rfl (st0 := ⟨8, [(0, .lit (.string s0)), (1, .lit (.string prefix1))], []⟩) rfl (bwp_ok (C := []) ?_)
  obtain ⟨t7, et7, h1⟩ := bind_elim h0; clear h0
  conv => whnf
  refine Gate.go ?_
  conv => whnf
  refine CallN.by (v := .lit (.bool t7)) (Slite.HasPrefix_ok et7) rfl rfl ?_
  have eh1_0 := Option.some.inj h1
  subst eh1_0
  conv => whnf
  exact Returns.pure (r := .lit (.bool t7)) rfl rfl rfl rfl ⟨rfl, rfl⟩

noncomputable def Slite.IndexByte (s0 : ByteArray) (c1 : Int) : Option Int :=
  Option.bind (Balg.IndexByteString s0 c1) fun t7 =>
  some t7

theorem Slite.IndexByte_ok {s0 : ByteArray} {c1 : Int} {r : Int} (h0 : Slite.IndexByte s0 c1 = some r) : Gives Tryz.prog 92 [.lit (.string s0), .lit (.int .u8 c1)] (.lit (.int .i64 r)) := by
  unfold Slite.IndexByte at h0
  refine ACalls.of_swp Tryz.func92 rfl (by decide) rfl (st0 := ⟨8, [(0, .lit (.string s0)), (1, .lit (.int .u8 c1))], []⟩) rfl (bwp_ok (C := []) ?_)
  obtain ⟨t7, et7, h1⟩ := bind_elim h0; clear h0
  conv => whnf
  refine Gate.go ?_
  conv => whnf
  refine CallN.by (v := .lit (.int .i64 t7)) (Balg.IndexByteString_ok et7) rfl rfl ?_
  have eh1_0 := Option.some.inj h1
  subst eh1_0
  conv => whnf
  exact Returns.pure (r := .lit (.int .i64 t7)) rfl rfl rfl rfl ⟨rfl, rfl⟩

noncomputable def Slite.Index.j4 (s0 : ByteArray) (substr1 : ByteArray) (t15 : Int) (t49 : Int) (t51 : Int) (t56 : Int) (t96 : Int) (t98 : Int) (t132 : Bool) : Option ((Int × Int) ⊕ Int) :=
  bif t132 then
    chk (0 ≤ t96 ∧ t96 ≤ (s0.size : Int)) <|
    letk (s0.extract t96.toNat s0.size) fun t135 =>
    none
  else
    some (.inl (t96, t98))

noncomputable def Slite.Index.j3 (s0 : ByteArray) (substr1 : ByteArray) (t15 : Int) (t49 : Int) (t51 : Int) (t56 : Int) (t96 : Int) (t98 : Int) (t107 : Bool) : Option ((Int × Int) ⊕ Int) :=
  bif t107 then
    chk (0 ≤ t96 ∧ t96 ≤ (s0.size : Int)) <|
    letk (s0.extract t96.toNat s0.size) fun t110 =>
    none
  else
    none

noncomputable def Slite.Index.j2 (s0 : ByteArray) (substr1 : ByteArray) (t15 : Int) (t49 : Int) (t51 : Int) (t56 : Int) (fails10 : Int) (i8_1 : Int) : Option ((Int × Int) ⊕ Int) :=
  letk (IntKind.i64.wrap (i8_1 + (1 : Int))) fun t96 =>
  letk (IntKind.i64.wrap (fails10 + (1 : Int))) fun t98 =>
  none

noncomputable def Slite.Index.j1 (s0 : ByteArray) (substr1 : ByteArray) (t15 : Int) (t49 : Int) (t51 : Int) (t56 : Int) (fails10 : Int) (i8_1 : Int) : Option ((Int × Int) ⊕ Int) :=
  letk (IntKind.i64.wrap (i8_1 + (1 : Int))) fun t80 =>
  chk (0 ≤ t80 ∧ t80 < (s0.size : Int)) <|
  letk (bt s0 t80) fun t81 =>
  letk (t81 == t51) fun t83 =>
  bif t83 then
    letk (IntKind.i64.wrap (i8_1 + t15)) fun t89 =>
    chk (0 ≤ i8_1 ∧ i8_1 ≤ t89 ∧ t89 ≤ (s0.size : Int)) <|
    letk (s0.extract i8_1.toNat t89.toNat) fun t90 =>
    letk (t90.toList == substr1.toList) fun t92 =>
    bif t92 then
      some (.inr i8_1)
    else
      Slite.Index.j2 s0 substr1 t15 t49 t51 t56 fails10 i8_1
  else
    Slite.Index.j2 s0 substr1 t15 t49 t51 t56 fails10 i8_1

noncomputable def Slite.Index.s0 (s0 : ByteArray) (substr1 : ByteArray) (t15 : Int) (t49 : Int) (t51 : Int) (t56 : Int) (i8 : Int) (fails10 : Int) : Option ((Int × Int) ⊕ Int) :=
  letk (decide (i8 < t56)) fun t59 =>
  bif t59 then
    chk (0 ≤ i8 ∧ i8 < (s0.size : Int)) <|
    letk (bt s0 i8) fun t62 =>
    letk (t62 != t49) fun t64 =>
    bif t64 then
      letk (IntKind.i64.wrap (i8 + (1 : Int))) fun t67 =>
      chk (0 ≤ t67 ∧ t67 ≤ t56 ∧ t56 ≤ (s0.size : Int)) <|
      letk (s0.extract t67.toNat t56.toNat) fun t69 =>
      Option.bind (Slite.IndexByte t69 t49) fun t71 =>
      letk (decide (t71 < (0 : Int))) fun t73 =>
      bif t73 then
        some (.inr (-1))
      else
        letk (IntKind.i64.wrap (t71 + (1 : Int))) fun t76 =>
        letk (IntKind.i64.wrap (i8 + t76)) fun t77 =>
        Slite.Index.j1 s0 substr1 t15 t49 t51 t56 fails10 t77
    else
      Slite.Index.j1 s0 substr1 t15 t49 t51 t56 fails10 i8
  else
    some (.inr (-1))

noncomputable def Slite.Index.l0 (s0 : ByteArray) (substr1 : ByteArray) (t15 : Int) (t49 : Int) (t51 : Int) (t56 : Int) (i8 : Int) (fails10 : Int) : Option Int := loopO (fun v : Int × Int => Slite.Index.s0 s0 substr1 t15 t49 t51 t56 v.1 v.2) (i8, fails10)
theorem Slite.Index.l0_eq (s0 : ByteArray) (substr1 : ByteArray) (t15 : Int) (t49 : Int) (t51 : Int) (t56 : Int) (i8 : Int) (fails10 : Int) : Slite.Index.l0 s0 substr1 t15 t49 t51 t56 i8 fails10 = (Slite.Index.s0 s0 substr1 t15 t49 t51 t56 i8 fails10).bind (Sum.elim (fun v => Slite.Index.l0 s0 substr1 t15 t49 t51 t56 v.1 v.2) some) := loopO_eq _ _

noncomputable def Slite.Index.j0 (s0 : ByteArray) (substr1 : ByteArray) (t15 : Int) : Option Int :=
  chk (0 ≤ (0 : Int) ∧ (0 : Int) < (substr1.size : Int)) <|
  letk (bt substr1 (0 : Int)) fun t49 =>
  chk (0 ≤ (1 : Int) ∧ (1 : Int) < (substr1.size : Int)) <|
  letk (bt substr1 (1 : Int)) fun t51 =>
  letk ((s0.size : Int)) fun t53 =>
  letk (IntKind.i64.wrap (t53 - t15)) fun t55 =>
  letk (IntKind.i64.wrap (t55 + (1 : Int))) fun t56 =>
  Slite.Index.l0 s0 substr1 t15 t49 t51 t56 0 0

noncomputable def Slite.Index.j5 (s0 : ByteArray) (substr1 : ByteArray) (t15 : Int) (t16 : Bool) : Option Int :=
  bif t16 then
    some 0
  else
    letk (t15 == (1 : Int)) fun t26 =>
    bif t26 then
      chk (0 ≤ (0 : Int) ∧ (0 : Int) < (substr1.size : Int)) <|
      letk (bt substr1 (0 : Int)) fun t29 =>
      Option.bind (Slite.IndexByte s0 t29) fun t30 =>
      some t30
    else
      letk ((s0.size : Int)) fun t34 =>
      letk (decide (t15 ≥ t34)) fun t35 =>
      bif t35 then
        some (-1)
      else
        none

noncomputable def Slite.Index (s0 : ByteArray) (substr1 : ByteArray) : Option Int :=
  letk ((substr1.size : Int)) fun t15 =>
  letk (t15 == (0 : Int)) fun t18 =>
  bif t18 then
    Slite.Index.j5 s0 substr1 t15 true
  else
    letk (substr1.toList == s0.toList) fun t22 =>
    Slite.Index.j5 s0 substr1 t15 t22

theorem Slite.Index_ok {s0 : ByteArray} {substr1 : ByteArray} {r : Int} (h0 : Slite.Index s0 substr1 = some r) : Gives Tryz.prog 86 [.lit (.string s0), .lit (.string substr1)] (.lit (.int .i64 r)) := by
  unfold Slite.Index at h0
  refine ACalls.of_swp Tryz.func86 rfl (by decide) rfl (st0 := ⟨143, [(0, .lit (.string s0)), (1, .lit (.string substr1))], []⟩) rfl (bwp_ok (C := [(0, 10), (0, 21), (0, 23), (117, 53), (142, 63), (26, 7)]) ?_)
  obtain ⟨t15, et15, h1⟩ := letk_elim h0; clear h0
  conv => whnf
  refine Nm.mk ⟨t15, et15, ?_⟩
  conv => whnf
  refine CutN.of (fun s => Slite.Index.j0 s0 substr1 t15 = some r ∧ s = (⟨143, [(0, .lit (.string s0)), (1, .lit (.string substr1)), (5, .lit (.int .i64 t15))], []⟩ : St)) ?_ ?_
  · conv => whnf
    refine CutN.of (fun s => ∃ (t16 : Bool), Slite.Index.j5 s0 substr1 t15 t16 = some r ∧ s = (⟨143, [(0, .lit (.string s0)), (1, .lit (.string substr1)), (5, .lit (.int .i64 t15)), (16, .lit (.bool t16))], []⟩ : St)) ?_ ?_
    · obtain ⟨t18, et18, h2⟩ := letk_elim h1; clear h1
      conv => whnf
      refine Nm.mk ⟨t18, et18, ?_⟩
      rcases t18 with _ | _
      · have h3 := bif_f h2
        clear h2
        obtain ⟨t22, et22, h4⟩ := letk_elim h3; clear h3
        conv => whnf
        refine Nm.mk ⟨t22, et22, ?_⟩
        exact BackS.of (Sees.of (Weak.objs (keep := []) (frz := []) (m := 0) (ts := [(0, .lit (.string s0)), (1, .lit (.string substr1)), (5, .lit (.int .i64 t15)), (16, .lit (.bool t22))]) (hs := []) rfl (by decide) rfl rfl ⟨rfl, fun _ h => by cases h⟩ ⟨(.same (.lit (.string s0)) rfl), (.same (.lit (.string substr1)) rfl), (.same (.lit (.int .i64 t15)) rfl), (.same (.lit (.bool t22)) rfl), trivial⟩)) ⟨_, h4, rfl⟩
      · have h3 := bif_t h2
        clear h2
        exact BackS.of (Sees.of (Weak.objs (keep := []) (frz := []) (m := 0) (ts := [(0, .lit (.string s0)), (1, .lit (.string substr1)), (5, .lit (.int .i64 t15)), (16, .lit (.bool true))]) (hs := []) rfl (by decide) rfl rfl ⟨rfl, fun _ h => by cases h⟩ ⟨(.same (.lit (.string s0)) rfl), (.same (.lit (.string substr1)) rfl), (.same (.lit (.int .i64 t15)) rfl), (.same (.lit (.bool true)) rfl), trivial⟩)) ⟨_, h3, rfl⟩
    · clear h1
      rintro s ⟨t16, hj0, rfl⟩
      unfold Slite.Index.j5 at hj0
      rcases t16 with _ | _
      · have hj1 := bif_f hj0
        clear hj0
        obtain ⟨t26, et26, hj2⟩ := letk_elim hj1; clear hj1
        conv => whnf
        refine Nm.mk ⟨t26, et26, ?_⟩
        rcases t26 with _ | _
        · have hj3 := bif_f hj2
          clear hj2
          obtain ⟨t34, et34, hj4⟩ := letk_elim hj3; clear hj3
          conv => whnf
          refine Nm.mk ⟨t34, et34, ?_⟩
          obtain ⟨t35, et35, hj5⟩ := letk_elim hj4; clear hj4
          conv => whnf
          refine Nm.mk ⟨t35, et35, ?_⟩
          rcases t35 with _ | _
          · have hj6 := bif_f hj5
            clear hj5
            cases hj6
          · have hj6 := bif_t hj5
            clear hj5
            have ehj6_0 := Option.some.inj hj6
            subst ehj6_0
            conv => whnf
            exact Returns.pure (r := .lit (.int .i64 ((-1)))) rfl rfl rfl rfl ⟨rfl, rfl⟩
        · have hj3 := bif_t hj2
          clear hj2
          obtain ⟨chj4, hj4⟩ := chk_elim hj3; clear hj3
          obtain ⟨t29, et29, hj5⟩ := letk_elim hj4; clear hj4
          conv => whnf
          refine Side.mk chj4 ?_
          conv => whnf
          refine Nm.mk ⟨t29, et29, ?_⟩
          obtain ⟨t30, et30, hj6⟩ := bind_elim hj5; clear hj5
          conv => whnf
          refine Gate.go ?_
          conv => whnf
          refine CallN.by (v := .lit (.int .i64 t30)) (Slite.IndexByte_ok et30) rfl rfl ?_
          have ehj6_0 := Option.some.inj hj6
          subst ehj6_0
          conv => whnf
          exact Returns.pure (r := .lit (.int .i64 t30)) rfl rfl rfl rfl ⟨rfl, rfl⟩
      · have hj1 := bif_t hj0
        clear hj0
        have ehj1_0 := Option.some.inj hj1
        subst ehj1_0
        conv => whnf
        exact Returns.pure (r := .lit (.int .i64 0)) rfl rfl rfl rfl ⟨rfl, rfl⟩
  · clear h1
    rintro s ⟨hj0, rfl⟩
    unfold Slite.Index.j0 at hj0
    obtain ⟨chj1, hj1⟩ := chk_elim hj0; clear hj0
    obtain ⟨t49, et49, hj2⟩ := letk_elim hj1; clear hj1
    conv => whnf
    refine Side.mk chj1 ?_
    conv => whnf
    refine Nm.mk ⟨t49, et49, ?_⟩
    obtain ⟨chj3, hj3⟩ := chk_elim hj2; clear hj2
    obtain ⟨t51, et51, hj4⟩ := letk_elim hj3; clear hj3
    conv => whnf
    refine Side.mk chj3 ?_
    conv => whnf
    refine Nm.mk ⟨t51, et51, ?_⟩
    obtain ⟨t53, et53, hj5⟩ := letk_elim hj4; clear hj4
    conv => whnf
    refine Nm.mk ⟨t53, et53, ?_⟩
    obtain ⟨t55, et55, hj6⟩ := letk_elim hj5; clear hj5
    conv => whnf
    refine Nm.mk ⟨t55, et55, ?_⟩
    obtain ⟨t56, et56, hj7⟩ := letk_elim hj6; clear hj6
    conv => whnf
    refine Nm.mk ⟨t56, et56, ?_⟩
    conv => whnf
    unfold Slite.Index.l0 at hj7
    refine LoopB.of (σ := Int × Int) (ρ := Int) (fun v : Int × Int => Slite.Index.s0 s0 substr1 t15 t49 t51 t56 v.1 v.2) (fun v => (⟨143, [(0, .lit (.string s0)), (1, .lit (.string substr1)), (5, .lit (.int .i64 t15)), (6, .lit (.int .u8 t49)), (7, .lit (.int .u8 t51)), (8, .lit (.int .i64 v.1)), (9, .lit (.int .i64 t56)), (10, .lit (.int .i64 v.2))], []⟩ : St)) (0, 0) hj7 (BackS.of (Sees.of (Weak.objs (keep := []) (frz := []) (m := 0) (ts := [(0, .lit (.string s0)), (1, .lit (.string substr1)), (5, .lit (.int .i64 t15)), (6, .lit (.int .u8 t49)), (7, .lit (.int .u8 t51)), (8, .lit (.int .i64 0)), (9, .lit (.int .i64 t56)), (10, .lit (.int .i64 0))]) (hs := []) rfl (by decide) rfl rfl ⟨rfl, fun _ h => by cases h⟩ ⟨(.same (.lit (.string s0)) rfl), (.same (.lit (.string substr1)) rfl), (.same (.lit (.int .i64 t15)) rfl), (.same (.lit (.int .u8 t49)) rfl), (.same (.lit (.int .u8 t51)) rfl), (.same (.lit (.int .i64 0)) rfl), (.same (.lit (.int .i64 t56)) rfl), (.same (.lit (.int .i64 0)) rfl), trivial⟩)) rfl) ?_
    clear hj7
    rintro K1 ⟨i8, fails10⟩ x1 hs0_0 hl1 hr1
    replace hs0_0 : Slite.Index.s0 s0 substr1 t15 t49 t51 t56 i8 fails10 = some x1 := hs0_0
    unfold Slite.Index.s0 at hs0_0
    change bwp _ _ _ _ _ (⟨143, [(0, .lit (.string s0)), (1, .lit (.string substr1)), (5, .lit (.int .i64 t15)), (6, .lit (.int .u8 t49)), (7, .lit (.int .u8 t51)), (8, .lit (.int .i64 i8)), (9, .lit (.int .i64 t56)), (10, .lit (.int .i64 fails10))], []⟩ : St)
    obtain ⟨t59, et59, hs0_1⟩ := letk_elim hs0_0; clear hs0_0
    conv => whnf
    refine Nm.mk ⟨t59, et59, ?_⟩
    rcases t59 with _ | _
    · have hs0_2 := bif_f hs0_1
      clear hs0_1
      have ehs0_2u_0 := hr1 _ (Option.some.inj hs0_2).symm
      have hs0_2u := congrArg some ehs0_2u_0
      have ehs0_2u_0 := Option.some.inj hs0_2u
      subst ehs0_2u_0
      conv => whnf
      exact Returns.pure (r := .lit (.int .i64 ((-1)))) rfl rfl rfl rfl ⟨rfl, rfl⟩
    · have hs0_2 := bif_t hs0_1
      clear hs0_1
      conv => whnf
      refine CutN.of (fun s => ∃ (i8_1 : Int), Slite.Index.j1 s0 substr1 t15 t49 t51 t56 fails10 i8_1 = some x1 ∧ s = (⟨143, [(0, .lit (.string s0)), (1, .lit (.string substr1)), (5, .lit (.int .i64 t15)), (6, .lit (.int .u8 t49)), (7, .lit (.int .u8 t51)), (8, .lit (.int .i64 i8_1)), (9, .lit (.int .i64 t56)), (10, .lit (.int .i64 fails10))], []⟩ : St)) ?_ ?_
      · obtain ⟨chs0_3, hs0_3⟩ := chk_elim hs0_2; clear hs0_2
        obtain ⟨t62, et62, hs0_4⟩ := letk_elim hs0_3; clear hs0_3
        conv => whnf
        refine Side.mk chs0_3 ?_
        conv => whnf
        refine Nm.mk ⟨t62, et62, ?_⟩
        obtain ⟨t64, et64, hs0_5⟩ := letk_elim hs0_4; clear hs0_4
        conv => whnf
        refine Nm.mk ⟨t64, et64, ?_⟩
        rcases t64 with _ | _
        · have hs0_6 := bif_f hs0_5
          clear hs0_5
          exact BackS.of (Sees.of (Weak.objs (keep := []) (frz := []) (m := 0) (ts := [(0, .lit (.string s0)), (1, .lit (.string substr1)), (5, .lit (.int .i64 t15)), (6, .lit (.int .u8 t49)), (7, .lit (.int .u8 t51)), (8, .lit (.int .i64 i8)), (9, .lit (.int .i64 t56)), (10, .lit (.int .i64 fails10))]) (hs := []) rfl (by decide) rfl rfl ⟨rfl, fun _ h => by cases h⟩ ⟨(.same (.lit (.string s0)) rfl), (.same (.lit (.string substr1)) rfl), (.same (.lit (.int .i64 t15)) rfl), (.same (.lit (.int .u8 t49)) rfl), (.same (.lit (.int .u8 t51)) rfl), (.same (.lit (.int .i64 i8)) rfl), (.same (.lit (.int .i64 t56)) rfl), (.same (.lit (.int .i64 fails10)) rfl), trivial⟩)) ⟨_, hs0_6, rfl⟩
        · have hs0_6 := bif_t hs0_5
          clear hs0_5
          obtain ⟨t67, et67, hs0_7⟩ := letk_elim hs0_6; clear hs0_6
          conv => whnf
          refine Nm.mk ⟨t67, et67, ?_⟩
          obtain ⟨chs0_8, hs0_8⟩ := chk_elim hs0_7; clear hs0_7
          obtain ⟨t69, et69, hs0_9⟩ := letk_elim hs0_8; clear hs0_8
          conv => whnf
          refine Side.mk chs0_8 ?_
          conv => whnf
          refine Nm.mk ⟨t69, et69, ?_⟩
          obtain ⟨t71, et71, hs0_10⟩ := bind_elim hs0_9; clear hs0_9
          conv => whnf
          refine Gate.go ?_
          conv => whnf
          refine CallN.by (v := .lit (.int .i64 t71)) (Slite.IndexByte_ok et71) rfl rfl ?_
          obtain ⟨t73, et73, hs0_11⟩ := letk_elim hs0_10; clear hs0_10
          conv => whnf
          refine Nm.mk ⟨t73, et73, ?_⟩
          rcases t73 with _ | _
          · have hs0_12 := bif_f hs0_11
            clear hs0_11
            obtain ⟨t76, et76, hs0_13⟩ := letk_elim hs0_12; clear hs0_12
            conv => whnf
            refine Nm.mk ⟨t76, et76, ?_⟩
            obtain ⟨t77, et77, hs0_14⟩ := letk_elim hs0_13; clear hs0_13
            conv => whnf
            refine Nm.mk ⟨t77, et77, ?_⟩
            exact BackS.of (Sees.of (Weak.objs (keep := []) (frz := []) (m := 0) (ts := [(0, .lit (.string s0)), (1, .lit (.string substr1)), (5, .lit (.int .i64 t15)), (6, .lit (.int .u8 t49)), (7, .lit (.int .u8 t51)), (8, .lit (.int .i64 t77)), (9, .lit (.int .i64 t56)), (10, .lit (.int .i64 fails10))]) (hs := []) rfl (by decide) rfl rfl ⟨rfl, fun _ h => by cases h⟩ ⟨(.same (.lit (.string s0)) rfl), (.same (.lit (.string substr1)) rfl), (.same (.lit (.int .i64 t15)) rfl), (.same (.lit (.int .u8 t49)) rfl), (.same (.lit (.int .u8 t51)) rfl), (.same (.lit (.int .i64 t77)) rfl), (.same (.lit (.int .i64 t56)) rfl), (.same (.lit (.int .i64 fails10)) rfl), trivial⟩)) ⟨_, hs0_14, rfl⟩
          · have hs0_12 := bif_t hs0_11
            clear hs0_11
            have ehs0_12_0 := hr1 _ (Option.some.inj hs0_12).symm
            subst ehs0_12_0
            conv => whnf
            exact Returns.pure (r := .lit (.int .i64 ((-1)))) rfl rfl rfl rfl ⟨rfl, rfl⟩
      · clear hs0_2
        rintro s ⟨i8_1, hj0, rfl⟩
        unfold Slite.Index.j1 at hj0
        conv => whnf
        refine CutN.of (fun s => Slite.Index.j2 s0 substr1 t15 t49 t51 t56 fails10 i8_1 = some x1 ∧ s = (⟨143, [(0, .lit (.string s0)), (1, .lit (.string substr1)), (5, .lit (.int .i64 t15)), (6, .lit (.int .u8 t49)), (7, .lit (.int .u8 t51)), (8, .lit (.int .i64 i8_1)), (9, .lit (.int .i64 t56)), (10, .lit (.int .i64 fails10))], []⟩ : St)) ?_ ?_
        · obtain ⟨t80, et80, hj1⟩ := letk_elim hj0; clear hj0
          conv => whnf
          refine Nm.mk ⟨t80, et80, ?_⟩
          obtain ⟨chj2, hj2⟩ := chk_elim hj1; clear hj1
          obtain ⟨t81, et81, hj3⟩ := letk_elim hj2; clear hj2
          conv => whnf
          refine Side.mk chj2 ?_
          conv => whnf
          refine Nm.mk ⟨t81, et81, ?_⟩
          obtain ⟨t83, et83, hj4⟩ := letk_elim hj3; clear hj3
          conv => whnf
          refine Nm.mk ⟨t83, et83, ?_⟩
          rcases t83 with _ | _
          · have hj5 := bif_f hj4
            clear hj4
            exact BackS.of (Sees.of (Weak.objs (keep := []) (frz := []) (m := 0) (ts := [(0, .lit (.string s0)), (1, .lit (.string substr1)), (5, .lit (.int .i64 t15)), (6, .lit (.int .u8 t49)), (7, .lit (.int .u8 t51)), (8, .lit (.int .i64 i8_1)), (9, .lit (.int .i64 t56)), (10, .lit (.int .i64 fails10))]) (hs := []) rfl (by decide) rfl rfl ⟨rfl, fun _ h => by cases h⟩ ⟨(.same (.lit (.string s0)) rfl), (.same (.lit (.string substr1)) rfl), (.same (.lit (.int .i64 t15)) rfl), (.same (.lit (.int .u8 t49)) rfl), (.same (.lit (.int .u8 t51)) rfl), (.same (.lit (.int .i64 i8_1)) rfl), (.same (.lit (.int .i64 t56)) rfl), (.same (.lit (.int .i64 fails10)) rfl), trivial⟩)) ⟨hj5, rfl⟩
          · have hj5 := bif_t hj4
            clear hj4
            obtain ⟨t89, et89, hj6⟩ := letk_elim hj5; clear hj5
            conv => whnf
            refine Nm.mk ⟨t89, et89, ?_⟩
            obtain ⟨chj7, hj7⟩ := chk_elim hj6; clear hj6
            obtain ⟨t90, et90, hj8⟩ := letk_elim hj7; clear hj7
            conv => whnf
            refine Side.mk chj7 ?_
            conv => whnf
            refine Nm.mk ⟨t90, et90, ?_⟩
            obtain ⟨t92, et92, hj9⟩ := letk_elim hj8; clear hj8
            conv => whnf
            refine Nm.mk ⟨t92, et92, ?_⟩
            rcases t92 with _ | _
            · have hj10 := bif_f hj9
              clear hj9
              exact BackS.of (Sees.of (Weak.objs (keep := []) (frz := []) (m := 0) (ts := [(0, .lit (.string s0)), (1, .lit (.string substr1)), (5, .lit (.int .i64 t15)), (6, .lit (.int .u8 t49)), (7, .lit (.int .u8 t51)), (8, .lit (.int .i64 i8_1)), (9, .lit (.int .i64 t56)), (10, .lit (.int .i64 fails10))]) (hs := []) rfl (by decide) rfl rfl ⟨rfl, fun _ h => by cases h⟩ ⟨(.same (.lit (.string s0)) rfl), (.same (.lit (.string substr1)) rfl), (.same (.lit (.int .i64 t15)) rfl), (.same (.lit (.int .u8 t49)) rfl), (.same (.lit (.int .u8 t51)) rfl), (.same (.lit (.int .i64 i8_1)) rfl), (.same (.lit (.int .i64 t56)) rfl), (.same (.lit (.int .i64 fails10)) rfl), trivial⟩)) ⟨hj10, rfl⟩
            · have hj10 := bif_t hj9
              clear hj9
              have ehj10_0 := hr1 _ (Option.some.inj hj10).symm
              subst ehj10_0
              conv => whnf
              exact Returns.pure (r := .lit (.int .i64 i8_1)) rfl rfl rfl rfl ⟨rfl, rfl⟩
        · clear hj0
          rintro s ⟨hj0, rfl⟩
          unfold Slite.Index.j2 at hj0
          obtain ⟨t96, et96, hj1⟩ := letk_elim hj0; clear hj0
          conv => whnf
          refine Nm.mk ⟨t96, et96, ?_⟩
          obtain ⟨t98, et98, hj2⟩ := letk_elim hj1; clear hj1
          conv => whnf
          refine Nm.mk ⟨t98, et98, ?_⟩
          conv => whnf
          refine CutN.of (fun s => ∃ (t107 : Bool), Slite.Index.j3 s0 substr1 t15 t49 t51 t56 t96 t98 t107 = some x1 ∧ s = (⟨143, [(0, .lit (.string s0)), (1, .lit (.string substr1)), (5, .lit (.int .i64 t15)), (6, .lit (.int .u8 t49)), (7, .lit (.int .u8 t51)), (8, .lit (.int .i64 t96)), (9, .lit (.int .i64 t56)), (10, .lit (.int .i64 t98)), (107, .lit (.bool t107))], []⟩ : St)) ?_ ?_
          · cases hj2
          · clear hj2
            rintro s ⟨t107, hj0, rfl⟩
            unfold Slite.Index.j3 at hj0
            rcases t107 with _ | _
            · have hj1 := bif_f hj0
              clear hj0
              conv => whnf
              refine CutN.of (fun s => ∃ (t132 : Bool), Slite.Index.j4 s0 substr1 t15 t49 t51 t56 t96 t98 t132 = some x1 ∧ s = (⟨143, [(0, .lit (.string s0)), (1, .lit (.string substr1)), (5, .lit (.int .i64 t15)), (6, .lit (.int .u8 t49)), (7, .lit (.int .u8 t51)), (8, .lit (.int .i64 t96)), (9, .lit (.int .i64 t56)), (10, .lit (.int .i64 t98)), (132, .lit (.bool t132))], []⟩ : St)) ?_ ?_
              · cases hj1
              · clear hj1
                rintro s ⟨t132, hj0, rfl⟩
                unfold Slite.Index.j4 at hj0
                rcases t132 with _ | _
                · have hj1 := bif_f hj0
                  clear hj0
                  exact BackS.of (Sees.of (Weak.objs (keep := []) (frz := []) (m := 0) (ts := [(0, .lit (.string s0)), (1, .lit (.string substr1)), (5, .lit (.int .i64 t15)), (6, .lit (.int .u8 t49)), (7, .lit (.int .u8 t51)), (8, .lit (.int .i64 t96)), (9, .lit (.int .i64 t56)), (10, .lit (.int .i64 t98))]) (hs := []) rfl (by decide) rfl rfl ⟨rfl, fun _ h => by cases h⟩ ⟨(.same (.lit (.string s0)) rfl), (.same (.lit (.string substr1)) rfl), (.same (.lit (.int .i64 t15)) rfl), (.same (.lit (.int .u8 t49)) rfl), (.same (.lit (.int .u8 t51)) rfl), (.same (.lit (.int .i64 t96)) rfl), (.same (.lit (.int .i64 t56)) rfl), (.same (.lit (.int .i64 t98)) rfl), trivial⟩)) ⟨_, hl1 _ (Option.some.inj hj1).symm, rfl⟩
                · have hj1 := bif_t hj0
                  clear hj0
                  obtain ⟨chj2, hj2⟩ := chk_elim hj1; clear hj1
                  obtain ⟨t135, et135, hj3⟩ := letk_elim hj2; clear hj2
                  conv => whnf
                  refine Side.mk chj2 ?_
                  conv => whnf
                  refine Nm.mk ⟨t135, et135, ?_⟩
                  cases hj3
            · have hj1 := bif_t hj0
              clear hj0
              obtain ⟨chj2, hj2⟩ := chk_elim hj1; clear hj1
              obtain ⟨t110, et110, hj3⟩ := letk_elim hj2; clear hj2
              conv => whnf
              refine Side.mk chj2 ?_
              conv => whnf
              refine Nm.mk ⟨t110, et110, ?_⟩
              cases hj3

noncomputable def Strs.Index (s0 : ByteArray) (substr1 : ByteArray) : Option Int :=
  Option.bind (Slite.Index s0 substr1) fun t7 =>
  some t7

theorem Strs.Index_ok {s0 : ByteArray} {substr1 : ByteArray} {r : Int} (h0 : Strs.Index s0 substr1 = some r) : Gives Tryz.prog 70 [.lit (.string s0), .lit (.string substr1)] (.lit (.int .i64 r)) := by
  unfold Strs.Index at h0
  refine ACalls.of_swp Tryz.func70 rfl (by decide) rfl (st0 := ⟨8, [(0, .lit (.string s0)), (1, .lit (.string substr1))], []⟩) rfl (bwp_ok (C := []) ?_)
  obtain ⟨t7, et7, h1⟩ := bind_elim h0; clear h0
  conv => whnf
  refine Gate.go ?_
  conv => whnf
  refine CallN.by (v := .lit (.int .i64 t7)) (Slite.Index_ok et7) rfl rfl ?_
  have eh1_0 := Option.some.inj h1
  subst eh1_0
  conv => whnf
  exact Returns.pure (r := .lit (.int .i64 t7)) rfl rfl rfl rfl ⟨rfl, rfl⟩

noncomputable def Strs.Contains (s0 : ByteArray) (substr1 : ByteArray) : Option Bool :=
  Option.bind (Strs.Index s0 substr1) fun t7 =>
  letk (decide (t7 ≥ (0 : Int))) fun t8 =>
  some t8

theorem Strs.Contains_ok {s0 : ByteArray} {substr1 : ByteArray} {r : Bool} (h0 : Strs.Contains s0 substr1 = some r) : Gives Tryz.prog 52 [.lit (.string s0), .lit (.string substr1)] (.lit (.bool r)) := by
  unfold Strs.Contains at h0
  refine ACalls.of_swp Tryz.func52 rfl (by decide) rfl (st0 := ⟨9, [(0, .lit (.string s0)), (1, .lit (.string substr1))], []⟩) rfl (bwp_ok (C := []) ?_)
  obtain ⟨t7, et7, h1⟩ := bind_elim h0; clear h0
  conv => whnf
  refine Gate.go ?_
  conv => whnf
  refine CallN.by (v := .lit (.int .i64 t7)) (Strs.Index_ok et7) rfl rfl ?_
  obtain ⟨t8, et8, h2⟩ := letk_elim h1; clear h1
  conv => whnf
  refine Nm.mk ⟨t8, et8, ?_⟩
  have eh2_0 := Option.some.inj h2
  subst eh2_0
  conv => whnf
  exact Returns.pure (r := .lit (.bool t8)) rfl rfl rfl rfl ⟨rfl, rfl⟩

noncomputable def Tok.word.s0 (s0 : ByteArray) (t5 : (List ByteArray)) (t6 : Int) (t7 : Int) : Option (Int ⊕ ByteArray) :=
  letk (decide (t7 < t6)) fun t8 =>
  bif t8 then
    chk (0 ≤ t7) <|
    Option.bind (t5[t7.toNat]?) fun t9 =>
    letk ((s0.size : Int)) fun t12 =>
    letk ((t9.size : Int)) fun t14 =>
    letk (decide (t12 ≥ t14)) fun t15 =>
    bif t15 then
      letk ((t9.size : Int)) fun t19 =>
      chk (0 ≤ t19 ∧ t19 ≤ (s0.size : Int)) <|
      letk (s0.extract 0 t19.toNat) fun t20 =>
      Option.bind (Tok.small t20) fun t21 =>
      letk (t21.toList == t9.toList) fun t23 =>
      bif t23 then
        some (.inr t9)
      else
        letk (IntKind.i64.wrap (t7 + (1 : Int))) fun t26_1 =>
        some (.inl t26_1)
    else
      letk (IntKind.i64.wrap (t7 + (1 : Int))) fun t26 =>
      some (.inl t26)
  else
    some (.inr ⟨#[]⟩)

noncomputable def Tok.word.l0 (s0 : ByteArray) (t5 : (List ByteArray)) (t6 : Int) (t7 : Int) : Option ByteArray := loopO (fun v : Int => Tok.word.s0 s0 t5 t6 v) t7
theorem Tok.word.l0_eq (s0 : ByteArray) (t5 : (List ByteArray)) (t6 : Int) (t7 : Int) : Tok.word.l0 s0 t5 t6 t7 = (Tok.word.s0 s0 t5 t6 t7).bind (Sum.elim (fun v => Tok.word.l0 s0 t5 t6 v) some) := loopO_eq _ _

noncomputable def Tok.word (s0 : ByteArray) : Option ByteArray :=
  Option.bind (Tok.words) fun t5 =>
  letk ((t5.length : Int)) fun t6 =>
  Tok.word.l0 s0 t5 t6 0

theorem Tok.word_ok {s0 : ByteArray} {r : ByteArray} (h0 : Tok.word s0 = some r) : Gives Tryz.prog 45 [.lit (.string s0)] (.lit (.string r)) := by
  unfold Tok.word at h0
  refine ACalls.of_swp Tryz.func45 rfl (by decide) rfl (st0 := ⟨27, [(0, .lit (.string s0))], []⟩) rfl (bwp_ok (C := []) ?_)
  obtain ⟨t5, et5, h1⟩ := bind_elim h0; clear h0
  conv => whnf
  refine Gate.go ?_
  conv => whnf
  refine CallN.by (v := .vs 1 (t5.map (eS))) (Tok.words_ok et5) rfl rfl ?_
  obtain ⟨t6, et6, h2⟩ := letk_elim h1; clear h1
  conv => whnf
  refine Nm.mk ⟨t6, by rw [et6, List.length_map], ?_⟩
  conv => whnf
  unfold Tok.word.l0 at h2
  refine LoopB.of (σ := Int) (ρ := ByteArray) (fun v : Int => Tok.word.s0 s0 t5 t6 v) (fun v => (⟨27, [(0, .lit (.string s0)), (5, .vs 1 (t5.map (eS))), (6, .lit (.int .i64 t6)), (7, .lit (.int .i64 v))], []⟩ : St)) 0 h2 (BackS.of (Sees.of (Weak.objs (keep := []) (frz := []) (m := 0) (ts := [(0, .lit (.string s0)), (5, .vs 1 (t5.map (eS))), (6, .lit (.int .i64 t6)), (7, .lit (.int .i64 0))]) (hs := []) rfl (by decide) rfl rfl ⟨rfl, fun _ h => by cases h⟩ ⟨(.same (.lit (.string s0)) rfl), (.same (.vs 1 (t5.map (eS))) rfl), (.same (.lit (.int .i64 t6)) rfl), (.same (.lit (.int .i64 0)) rfl), trivial⟩)) rfl) ?_
  clear h2
  rintro K1 t7 x1 hs0_0 hl1 hr1
  replace hs0_0 : Tok.word.s0 s0 t5 t6 t7 = some x1 := hs0_0
  unfold Tok.word.s0 at hs0_0
  change bwp _ _ _ _ _ (⟨27, [(0, .lit (.string s0)), (5, .vs 1 (t5.map (eS))), (6, .lit (.int .i64 t6)), (7, .lit (.int .i64 t7))], []⟩ : St)
  obtain ⟨t8, et8, hs0_1⟩ := letk_elim hs0_0; clear hs0_0
  conv => whnf
  refine Nm.mk ⟨t8, et8, ?_⟩
  rcases t8 with _ | _
  · have hs0_2 := bif_f hs0_1
    clear hs0_1
    have ehs0_2u_0 := hr1 _ (Option.some.inj hs0_2).symm
    have hs0_2u := congrArg some ehs0_2u_0
    have ehs0_2u_0 := Option.some.inj hs0_2u
    subst ehs0_2u_0
    conv => whnf
    exact Returns.pure (r := .lit (.string (⟨#[]⟩))) rfl rfl rfl rfl ⟨rfl, rfl⟩
  · have hs0_2 := bif_t hs0_1
    clear hs0_1
    obtain ⟨chs0_3, hs0_3⟩ := chk_elim hs0_2; clear hs0_2
    obtain ⟨t9, et9, hs0_4⟩ := bind_elim hs0_3; clear hs0_3
    conv => whnf
    refine Side.mk chs0_3 ?_
    conv => whnf
    refine At.by et9 ?_
    obtain ⟨t12, et12, hs0_5⟩ := letk_elim hs0_4; clear hs0_4
    conv => whnf
    refine Nm.mk ⟨t12, et12, ?_⟩
    obtain ⟨t14, et14, hs0_6⟩ := letk_elim hs0_5; clear hs0_5
    conv => whnf
    refine Nm.mk ⟨t14, et14, ?_⟩
    obtain ⟨t15, et15, hs0_7⟩ := letk_elim hs0_6; clear hs0_6
    conv => whnf
    refine Nm.mk ⟨t15, et15, ?_⟩
    rcases t15 with _ | _
    · have hs0_8 := bif_f hs0_7
      clear hs0_7
      obtain ⟨t26, et26, hs0_9⟩ := letk_elim hs0_8; clear hs0_8
      conv => whnf
      refine Nm.mk ⟨t26, et26, ?_⟩
      exact BackS.of (Sees.of (Weak.objs (keep := []) (frz := []) (m := 0) (ts := [(0, .lit (.string s0)), (5, .vs 1 (t5.map (eS))), (6, .lit (.int .i64 t6)), (7, .lit (.int .i64 t26))]) (hs := []) rfl (by decide) rfl rfl ⟨rfl, fun _ h => by cases h⟩ ⟨(.same (.lit (.string s0)) rfl), (.same (.vs 1 (t5.map (eS))) rfl), (.same (.lit (.int .i64 t6)) rfl), (.same (.lit (.int .i64 t26)) rfl), trivial⟩)) ⟨_, hl1 _ (Option.some.inj hs0_9).symm, rfl⟩
    · have hs0_8 := bif_t hs0_7
      clear hs0_7
      obtain ⟨t19, et19, hs0_9⟩ := letk_elim hs0_8; clear hs0_8
      conv => whnf
      refine Nm.mk ⟨t19, et19, ?_⟩
      obtain ⟨chs0_10, hs0_10⟩ := chk_elim hs0_9; clear hs0_9
      obtain ⟨t20, et20, hs0_11⟩ := letk_elim hs0_10; clear hs0_10
      conv => whnf
      refine Side.mk chs0_10 ?_
      conv => whnf
      refine Nm.mk ⟨t20, et20, ?_⟩
      obtain ⟨t21, et21, hs0_12⟩ := bind_elim hs0_11; clear hs0_11
      conv => whnf
      refine Gate.go ?_
      conv => whnf
      refine CallN.by (v := .lit (.string t21)) (Tok.small_ok et21) rfl rfl ?_
      obtain ⟨t23, et23, hs0_13⟩ := letk_elim hs0_12; clear hs0_12
      conv => whnf
      refine Nm.mk ⟨t23, et23, ?_⟩
      rcases t23 with _ | _
      · have hs0_14 := bif_f hs0_13
        clear hs0_13
        obtain ⟨t26_1, et26_1, hs0_15⟩ := letk_elim hs0_14; clear hs0_14
        conv => whnf
        refine Nm.mk ⟨t26_1, et26_1, ?_⟩
        exact BackS.of (Sees.of (Weak.objs (keep := []) (frz := []) (m := 0) (ts := [(0, .lit (.string s0)), (5, .vs 1 (t5.map (eS))), (6, .lit (.int .i64 t6)), (7, .lit (.int .i64 t26_1))]) (hs := []) rfl (by decide) rfl rfl ⟨rfl, fun _ h => by cases h⟩ ⟨(.same (.lit (.string s0)) rfl), (.same (.vs 1 (t5.map (eS))) rfl), (.same (.lit (.int .i64 t6)) rfl), (.same (.lit (.int .i64 t26_1)) rfl), trivial⟩)) ⟨_, hl1 _ (Option.some.inj hs0_15).symm, rfl⟩
      · have hs0_14 := bif_t hs0_13
        clear hs0_13
        have ehs0_14_0 := hr1 _ (Option.some.inj hs0_14).symm
        subst ehs0_14_0
        conv => whnf
        exact Returns.pure (r := .lit (.string t9)) rfl rfl rfl rfl ⟨rfl, rfl⟩

noncomputable def Tok.exponent.j1 (s0 : ByteArray) (n3 : Int) : Option Int :=
  chk (0 ≤ n3 ∧ n3 ≤ (s0.size : Int)) <|
  letk (s0.extract n3.toNat s0.size) fun t33 =>
  Option.bind (Tok.run t33 Tok.isDigit) fun t34 =>
  letk (t34 == (0 : Int)) fun t36 =>
  bif t36 then
    some 0
  else
    letk (IntKind.i64.wrap (n3 + t34)) fun t39 =>
    some t39

noncomputable def Tok.exponent.j0 (s0 : ByteArray) : Option Int :=
  letk ((s0.size : Int)) fun t15 =>
  letk (decide ((1 : Int) < t15)) fun t16 =>
  bif t16 then
    chk (0 ≤ (1 : Int) ∧ (1 : Int) < (s0.size : Int)) <|
    letk (bt s0 (1 : Int)) fun t20 =>
    letk (t20 == (43 : Int)) fun t21 =>
    bif t21 then
      letk (IntKind.i64.wrap ((1 : Int) + (1 : Int))) fun t30_1 =>
      Tok.exponent.j1 s0 t30_1
    else
      chk (0 ≤ (1 : Int) ∧ (1 : Int) < (s0.size : Int)) <|
      letk (bt s0 (1 : Int)) fun t25 =>
      letk (t25 == (45 : Int)) fun t26 =>
      bif t26 then
        letk (IntKind.i64.wrap ((1 : Int) + (1 : Int))) fun t30 =>
        Tok.exponent.j1 s0 t30
      else
        Tok.exponent.j1 s0 1
  else
    Tok.exponent.j1 s0 1

noncomputable def Tok.exponent (s0 : ByteArray) : Option Int :=
  letk (s0.toList == (⟨#[]⟩ : ByteArray).toList) fun t6 =>
  bif t6 then
    some 0
  else
    chk (0 ≤ (1 : Int) ∧ (1 : Int) ≤ (s0.size : Int)) <|
    letk (s0.extract 0 ((1 : Int).toNat)) fun t9 =>
    Option.bind (Strs.Contains ⟨#[101, 69, 100, 68]⟩ t9) fun t10 =>
    letk (!t10) fun t11 =>
    bif t11 then
      some 0
    else
      Tok.exponent.j0 s0

theorem Tok.exponent_ok {s0 : ByteArray} {r : Int} (h0 : Tok.exponent s0 = some r) : Gives Tryz.prog 53 [.lit (.string s0)] (.lit (.int .i64 r)) := by
  unfold Tok.exponent at h0
  refine ACalls.of_swp Tryz.func53 rfl (by decide) rfl (st0 := ⟨40, [(0, .lit (.string s0))], []⟩) rfl (bwp_ok (C := [(0, 3), (0, 6)]) ?_)
  conv => whnf
  refine CutN.of (fun s => Tok.exponent.j0 s0 = some r ∧ s = (⟨40, [(0, .lit (.string s0))], []⟩ : St)) ?_ ?_
  · obtain ⟨t6, et6, h1⟩ := letk_elim h0; clear h0
    conv => whnf
    refine Nm.mk ⟨t6, et6, ?_⟩
    rcases t6 with _ | _
    · have h2 := bif_f h1
      clear h1
      obtain ⟨ch3, h3⟩ := chk_elim h2; clear h2
      obtain ⟨t9, et9, h4⟩ := letk_elim h3; clear h3
      conv => whnf
      refine Side.mk ch3 ?_
      conv => whnf
      refine Nm.mk ⟨t9, et9, ?_⟩
      obtain ⟨t10, et10, h5⟩ := bind_elim h4; clear h4
      conv => whnf
      refine Gate.go ?_
      conv => whnf
      refine CallN.by (v := .lit (.bool t10)) (Strs.Contains_ok et10) rfl rfl ?_
      obtain ⟨t11, et11, h6⟩ := letk_elim h5; clear h5
      conv => whnf
      refine Nm.mk ⟨t11, et11, ?_⟩
      rcases t11 with _ | _
      · have h7 := bif_f h6
        clear h6
        exact BackS.of (Sees.of (Weak.objs (keep := []) (frz := []) (m := 0) (ts := [(0, .lit (.string s0))]) (hs := []) rfl (by decide) rfl rfl ⟨rfl, fun _ h => by cases h⟩ ⟨(.same (.lit (.string s0)) rfl), trivial⟩)) ⟨h7, rfl⟩
      · have h7 := bif_t h6
        clear h6
        have eh7_0 := Option.some.inj h7
        subst eh7_0
        conv => whnf
        exact Returns.pure (r := .lit (.int .i64 0)) rfl rfl rfl rfl ⟨rfl, rfl⟩
    · have h2 := bif_t h1
      clear h1
      have eh2_0 := Option.some.inj h2
      subst eh2_0
      conv => whnf
      exact Returns.pure (r := .lit (.int .i64 0)) rfl rfl rfl rfl ⟨rfl, rfl⟩
  · clear h0
    rintro s ⟨hj0, rfl⟩
    unfold Tok.exponent.j0 at hj0
    conv => whnf
    refine CutN.of (fun s => ∃ (n3 : Int), Tok.exponent.j1 s0 n3 = some r ∧ s = (⟨40, [(0, .lit (.string s0)), (3, .lit (.int .i64 n3))], []⟩ : St)) ?_ ?_
    · obtain ⟨t15, et15, hj1⟩ := letk_elim hj0; clear hj0
      conv => whnf
      refine Nm.mk ⟨t15, et15, ?_⟩
      obtain ⟨t16, et16, hj2⟩ := letk_elim hj1; clear hj1
      conv => whnf
      refine Nm.mk ⟨t16, et16, ?_⟩
      rcases t16 with _ | _
      · have hj3 := bif_f hj2
        clear hj2
        exact BackS.of (Sees.of (Weak.objs (keep := []) (frz := []) (m := 0) (ts := [(0, .lit (.string s0)), (3, .lit (.int .i64 1))]) (hs := []) rfl (by decide) rfl rfl ⟨rfl, fun _ h => by cases h⟩ ⟨(.same (.lit (.string s0)) rfl), (.same (.lit (.int .i64 1)) rfl), trivial⟩)) ⟨_, hj3, rfl⟩
      · have hj3 := bif_t hj2
        clear hj2
        obtain ⟨chj4, hj4⟩ := chk_elim hj3; clear hj3
        obtain ⟨t20, et20, hj5⟩ := letk_elim hj4; clear hj4
        conv => whnf
        refine Side.mk chj4 ?_
        conv => whnf
        refine Nm.mk ⟨t20, et20, ?_⟩
        obtain ⟨t21, et21, hj6⟩ := letk_elim hj5; clear hj5
        conv => whnf
        refine Nm.mk ⟨t21, et21, ?_⟩
        rcases t21 with _ | _
        · have hj7 := bif_f hj6
          clear hj6
          obtain ⟨chj8, hj8⟩ := chk_elim hj7; clear hj7
          obtain ⟨t25, et25, hj9⟩ := letk_elim hj8; clear hj8
          conv => whnf
          refine Side.mk chj8 ?_
          conv => whnf
          refine Nm.mk ⟨t25, et25, ?_⟩
          obtain ⟨t26, et26, hj10⟩ := letk_elim hj9; clear hj9
          conv => whnf
          refine Nm.mk ⟨t26, et26, ?_⟩
          rcases t26 with _ | _
          · have hj11 := bif_f hj10
            clear hj10
            exact BackS.of (Sees.of (Weak.objs (keep := []) (frz := []) (m := 0) (ts := [(0, .lit (.string s0)), (3, .lit (.int .i64 1))]) (hs := []) rfl (by decide) rfl rfl ⟨rfl, fun _ h => by cases h⟩ ⟨(.same (.lit (.string s0)) rfl), (.same (.lit (.int .i64 1)) rfl), trivial⟩)) ⟨_, hj11, rfl⟩
          · have hj11 := bif_t hj10
            clear hj10
            obtain ⟨t30, et30, hj12⟩ := letk_elim hj11; clear hj11
            conv => whnf
            refine Nm.mk ⟨t30, et30, ?_⟩
            exact BackS.of (Sees.of (Weak.objs (keep := []) (frz := []) (m := 0) (ts := [(0, .lit (.string s0)), (3, .lit (.int .i64 t30))]) (hs := []) rfl (by decide) rfl rfl ⟨rfl, fun _ h => by cases h⟩ ⟨(.same (.lit (.string s0)) rfl), (.same (.lit (.int .i64 t30)) rfl), trivial⟩)) ⟨_, hj12, rfl⟩
        · have hj7 := bif_t hj6
          clear hj6
          obtain ⟨t30_1, et30_1, hj8⟩ := letk_elim hj7; clear hj7
          conv => whnf
          refine Nm.mk ⟨t30_1, et30_1, ?_⟩
          exact BackS.of (Sees.of (Weak.objs (keep := []) (frz := []) (m := 0) (ts := [(0, .lit (.string s0)), (3, .lit (.int .i64 t30_1))]) (hs := []) rfl (by decide) rfl rfl ⟨rfl, fun _ h => by cases h⟩ ⟨(.same (.lit (.string s0)) rfl), (.same (.lit (.int .i64 t30_1)) rfl), trivial⟩)) ⟨_, hj8, rfl⟩
    · clear hj0
      rintro s ⟨n3, hj0, rfl⟩
      unfold Tok.exponent.j1 at hj0
      obtain ⟨chj1, hj1⟩ := chk_elim hj0; clear hj0
      obtain ⟨t33, et33, hj2⟩ := letk_elim hj1; clear hj1
      conv => whnf
      refine Side.mk chj1 ?_
      conv => whnf
      refine Nm.mk ⟨t33, et33, ?_⟩
      obtain ⟨t34, et34, hj3⟩ := bind_elim hj2; clear hj2
      conv => whnf
      refine Gate.go ?_
      conv => whnf
      refine CallN.by (v := .lit (.int .i64 t34)) (Tok.run_ok (show List.all [] pureQ.pureQ0 = true from rfl) (fun _ r h => Tok.isDigit_ok h) et34) rfl rfl ?_
      obtain ⟨t36, et36, hj4⟩ := letk_elim hj3; clear hj3
      conv => whnf
      refine Nm.mk ⟨t36, et36, ?_⟩
      rcases t36 with _ | _
      · have hj5 := bif_f hj4
        clear hj4
        obtain ⟨t39, et39, hj6⟩ := letk_elim hj5; clear hj5
        conv => whnf
        refine Nm.mk ⟨t39, et39, ?_⟩
        have ehj6_0 := Option.some.inj hj6
        subst ehj6_0
        conv => whnf
        exact Returns.pure (r := .lit (.int .i64 t39)) rfl rfl rfl rfl ⟨rfl, rfl⟩
      · have hj5 := bif_t hj4
        clear hj4
        have ehj5_0 := Option.some.inj hj5
        subst ehj5_0
        conv => whnf
        exact Returns.pure (r := .lit (.int .i64 0)) rfl rfl rfl rfl ⟨rfl, rfl⟩

end Go.Q
