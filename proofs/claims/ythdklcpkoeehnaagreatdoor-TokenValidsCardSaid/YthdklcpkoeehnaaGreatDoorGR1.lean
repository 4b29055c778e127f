import Derived.Test.YthdklcpkoeehnaaGreatDoorGJ
import Derived.Test.YthdklcpkoeehnaaGreatDoorProg
namespace Go.Q
open Go Go.Proofs
set_option maxRecDepth 10000
set_option maxHeartbeats 2000000

noncomputable def Ref4.isLetter (c0 : Int) : Option Bool :=
  letk (decide (c0 ≥ (97 : Int))) fun t4 =>
  bif t4 then
    letk (decide (c0 ≤ (122 : Int))) fun t7 =>
    bif t7 then
      some true
    else
      letk (decide (c0 ≥ (65 : Int))) fun t11_1 =>
      bif t11_1 then
        letk (decide (c0 ≤ (90 : Int))) fun t14_1 =>
        some t14_1
      else
        some false
  else
    letk (decide (c0 ≥ (65 : Int))) fun t11 =>
    bif t11 then
      letk (decide (c0 ≤ (90 : Int))) fun t14 =>
      some t14
    else
      some false

theorem Ref4.isLetter_ok {c0 : Int} {r : Bool} (h0 : Ref4.isLetter c0 = some r) : Gives Tryz.prog 42 [.lit (.int .u8 c0)] (.lit (.bool r)) := by
  unfold Ref4.isLetter at h0
  refine ACalls.of_swp Tryz.func42 rfl (by decide) rfl (st0 := ⟨17, [(0, .lit (.int .u8 c0))], []⟩) rfl (bwp_ok (C := []) ?_)
  obtain ⟨t4, et4, h1⟩ := letk_elim h0; clear h0
  conv => whnf
  refine Nm.mk ⟨t4, et4, ?_⟩
  rcases t4 with _ | _
  · have h2 := bif_f h1
    clear h1
    obtain ⟨t11, et11, h3⟩ := letk_elim h2; clear h2
    conv => whnf
    refine Nm.mk ⟨t11, et11, ?_⟩
    rcases t11 with _ | _
    · have h4 := bif_f h3
      clear h3
      have eh4_0 := Option.some.inj h4
      subst eh4_0
      conv => whnf
      exact Returns.pure (r := .lit (.bool false)) rfl rfl rfl rfl ⟨rfl, rfl⟩
    · have h4 := bif_t h3
      clear h3
      obtain ⟨t14, et14, h5⟩ := letk_elim h4; clear h4
      conv => whnf
      refine Nm.mk ⟨t14, et14, ?_⟩
      have eh5_0 := Option.some.inj h5
      subst eh5_0
      conv => whnf
      exact Returns.pure (r := .lit (.bool t14)) rfl rfl rfl rfl ⟨rfl, rfl⟩
  · have h2 := bif_t h1
    clear h1
    obtain ⟨t7, et7, h3⟩ := letk_elim h2; clear h2
    conv => whnf
    refine Nm.mk ⟨t7, et7, ?_⟩
    rcases t7 with _ | _
    · have h4 := bif_f h3
      clear h3
      obtain ⟨t11_1, et11_1, h5⟩ := letk_elim h4; clear h4
      conv => whnf
      refine Nm.mk ⟨t11_1, et11_1, ?_⟩
      rcases t11_1 with _ | _
      · have h6 := bif_f h5
        clear h5
        have eh6_0 := Option.some.inj h6
        subst eh6_0
        conv => whnf
        exact Returns.pure (r := .lit (.bool false)) rfl rfl rfl rfl ⟨rfl, rfl⟩
      · have h6 := bif_t h5
        clear h5
        obtain ⟨t14_1, et14_1, h7⟩ := letk_elim h6; clear h6
        conv => whnf
        refine Nm.mk ⟨t14_1, et14_1, ?_⟩
        have eh7_0 := Option.some.inj h7
        subst eh7_0
        conv => whnf
        exact Returns.pure (r := .lit (.bool t14_1)) rfl rfl rfl rfl ⟨rfl, rfl⟩
    · have h4 := bif_t h3
      clear h3
      have eh4_0 := Option.some.inj h4
      subst eh4_0
      conv => whnf
      exact Returns.pure (r := .lit (.bool true)) rfl rfl rfl rfl ⟨rfl, rfl⟩

noncomputable def Ref4.isDigit (c0 : Int) : Option Bool :=
  letk (decide (c0 ≥ (48 : Int))) fun t4 =>
  bif t4 then
    letk (decide (c0 ≤ (57 : Int))) fun t7 =>
    some t7
  else
    some false

theorem Ref4.isDigit_ok {c0 : Int} {r : Bool} (h0 : Ref4.isDigit c0 = some r) : Gives Tryz.prog 43 [.lit (.int .u8 c0)] (.lit (.bool r)) := by
  unfold Ref4.isDigit at h0
  refine ACalls.of_swp Tryz.func43 rfl (by decide) rfl (st0 := ⟨9, [(0, .lit (.int .u8 c0))], []⟩) rfl (bwp_ok (C := []) ?_)
  obtain ⟨t4, et4, h1⟩ := letk_elim h0; clear h0
  conv => whnf
  refine Nm.mk ⟨t4, et4, ?_⟩
  rcases t4 with _ | _
  · have h2 := bif_f h1
    clear h1
    have eh2_0 := Option.some.inj h2
    subst eh2_0
    conv => whnf
    exact Returns.pure (r := .lit (.bool false)) rfl rfl rfl rfl ⟨rfl, rfl⟩
  · have h2 := bif_t h1
    clear h1
    obtain ⟨t7, et7, h3⟩ := letk_elim h2; clear h2
    conv => whnf
    refine Nm.mk ⟨t7, et7, ?_⟩
    have eh3_0 := Option.some.inj h3
    subst eh3_0
    conv => whnf
    exact Returns.pure (r := .lit (.bool t7)) rfl rfl rfl rfl ⟨rfl, rfl⟩

noncomputable def Ref4.isInner (c0 : Int) : Option Bool :=
  Option.bind (Ref4.isLetter c0) fun t4 =>
  bif t4 then
    some true
  else
    Option.bind (Ref4.isDigit c0) fun t7 =>
    bif t7 then
      some true
    else
      letk (c0 == (95 : Int)) fun t11 =>
      some t11

theorem Ref4.isInner_ok {c0 : Int} {r : Bool} (h0 : Ref4.isInner c0 = some r) : Gives Tryz.prog 29 [.lit (.int .u8 c0)] (.lit (.bool r)) := by
  unfold Ref4.isInner at h0
  refine ACalls.of_swp Tryz.func29 rfl (by decide) rfl (st0 := ⟨13, [(0, .lit (.int .u8 c0))], []⟩) rfl (bwp_ok (C := []) ?_)
  obtain ⟨t4, et4, h1⟩ := bind_elim h0; clear h0
  conv => whnf
  refine Gate.go ?_
  conv => whnf
  refine CallN.by (v := .lit (.bool t4)) (Ref4.isLetter_ok et4) rfl rfl ?_
  rcases t4 with _ | _
  · have h2 := bif_f h1
    clear h1
    obtain ⟨t7, et7, h3⟩ := bind_elim h2; clear h2
    conv => whnf
    refine Gate.go ?_
    conv => whnf
    refine CallN.by (v := .lit (.bool t7)) (Ref4.isDigit_ok et7) rfl rfl ?_
    rcases t7 with _ | _
    · have h4 := bif_f h3
      clear h3
      obtain ⟨t11, et11, h5⟩ := letk_elim h4; clear h4
      conv => whnf
      refine Nm.mk ⟨t11, et11, ?_⟩
      have eh5_0 := Option.some.inj h5
      subst eh5_0
      conv => whnf
      exact Returns.pure (r := .lit (.bool t11)) rfl rfl rfl rfl ⟨rfl, rfl⟩
    · have h4 := bif_t h3
      clear h3
      have eh4_0 := Option.some.inj h4
      subst eh4_0
      conv => whnf
      exact Returns.pure (r := .lit (.bool true)) rfl rfl rfl rfl ⟨rfl, rfl⟩
  · have h2 := bif_t h1
    clear h1
    have eh2_0 := Option.some.inj h2
    subst eh2_0
    conv => whnf
    exact Returns.pure (r := .lit (.bool true)) rfl rfl rfl rfl ⟨rfl, rfl⟩

noncomputable def Ref4.at_ (s0 : ByteArray) (i1 : Int) : Option Int :=
  letk ((s0.size : Int)) fun t7 =>
  letk (decide (i1 < t7)) fun t8 =>
  bif t8 then
    chk (0 ≤ i1 ∧ i1 < (s0.size : Int)) <|
    letk (bt s0 i1) fun t11 =>
    some t11
  else
    some 0

theorem Ref4.at__ok {s0 : ByteArray} {i1 : Int} {r : Int} (h0 : Ref4.at_ s0 i1 = some r) : Gives Tryz.prog 61 [.lit (.string s0), .lit (.int .i64 i1)] (.lit (.int .u8 r)) := by
  unfold Ref4.at_ at h0
  refine ACalls.of_swp Tryz.func61 rfl (by decide) rfl (st0 := ⟨12, [(0, .lit (.string s0)), (1, .lit (.int .i64 i1))], []⟩) rfl (bwp_ok (C := []) ?_)
  obtain ⟨t7, et7, h1⟩ := letk_elim h0; clear h0
  conv => whnf
  refine Nm.mk ⟨t7, et7, ?_⟩
  obtain ⟨t8, et8, h2⟩ := letk_elim h1; clear h1
  conv => whnf
  refine Nm.mk ⟨t8, et8, ?_⟩
  rcases t8 with _ | _
  · have h3 := bif_f h2
    clear h2
    have eh3_0 := Option.some.inj h3
    subst eh3_0
    conv => whnf
    exact Returns.pure (r := .lit (.int .u8 0)) rfl rfl rfl rfl ⟨rfl, rfl⟩
  · have h3 := bif_t h2
    clear h2
    obtain ⟨ch4, h4⟩ := chk_elim h3; clear h3
    obtain ⟨t11, et11, h5⟩ := letk_elim h4; clear h4
    conv => whnf
    refine Side.mk ch4 ?_
    conv => whnf
    refine Nm.mk ⟨t11, et11, ?_⟩
    have eh5_0 := Option.some.inj h5
    subst eh5_0
    conv => whnf
    exact Returns.pure (r := .lit (.int .u8 t11)) rfl rfl rfl rfl ⟨rfl, rfl⟩

noncomputable def Ref4.Lower.j0 (s0 : ByteArray) (out3 : ByteArray) (i4 : Int) (c5 : Int) : Option ((ByteArray × Int) ⊕ ByteArray) :=
  letk (ofInts ([c5])) fun t26 =>
  chk (((out3.size + t26.size : Nat) : Int) ≤ 9223372036854775807) <|
  letk (out3 ++ t26) fun t27 =>
  letk (IntKind.i64.wrap (i4 + (1 : Int))) fun t11 =>
  some (.inl (t27, t11))

noncomputable def Ref4.Lower.s0 (s0 : ByteArray) (out3 : ByteArray) (i4 : Int) : Option ((ByteArray × Int) ⊕ ByteArray) :=
  letk ((s0.size : Int)) fun t8 =>
  letk (decide (i4 < t8)) fun t9 =>
  bif t9 then
    chk (0 ≤ i4 ∧ i4 < (s0.size : Int)) <|
    letk (bt s0 i4) fun t14 =>
    letk (decide (t14 ≥ (65 : Int))) fun t16 =>
    bif t16 then
      letk (decide (t14 ≤ (90 : Int))) fun t19 =>
      bif t19 then
        letk (IntKind.u8.wrap (t14 + (32 : Int))) fun t22 =>
        Ref4.Lower.j0 s0 out3 i4 t22
      else
        Ref4.Lower.j0 s0 out3 i4 t14
    else
      Ref4.Lower.j0 s0 out3 i4 t14
  else
    some (.inr out3)

noncomputable def Ref4.Lower.l0 (s0 : ByteArray) (out3 : ByteArray) (i4 : Int) : Option ByteArray := loopO (fun v : ByteArray × Int => Ref4.Lower.s0 s0 v.1 v.2) (out3, i4)
theorem Ref4.Lower.l0_eq (s0 : ByteArray) (out3 : ByteArray) (i4 : Int) : Ref4.Lower.l0 s0 out3 i4 = (Ref4.Lower.s0 s0 out3 i4).bind (Sum.elim (fun v => Ref4.Lower.l0 s0 v.1 v.2) some) := loopO_eq _ _

noncomputable def Ref4.Lower (s0 : ByteArray) : Option ByteArray :=
  Ref4.Lower.l0 s0 (⟨#[]⟩) 0

theorem Ref4.Lower_ok {s0 : ByteArray} {r : ByteArray} (h0 : Ref4.Lower s0 = some r) : Gives Tryz.prog 62 [.lit (.string s0)] (.lit (.string r)) := by
  unfold Ref4.Lower at h0
  refine ACalls.of_swp Tryz.func62 rfl (by decide) rfl (st0 := ⟨29, [(0, .lit (.string s0))], []⟩) rfl (bwp_ok (C := [(0, 8)]) ?_)
  conv => whnf
  unfold Ref4.Lower.l0 at h0
  refine LoopB.of (σ := ByteArray × Int) (ρ := ByteArray) (fun v : ByteArray × Int => Ref4.Lower.s0 s0 v.1 v.2) (fun v => (⟨29, [(0, .lit (.string s0)), (3, .lit (.string v.1)), (4, .lit (.int .i64 v.2))], []⟩ : St)) (⟨#[]⟩, 0) h0 (BackS.of (Sees.of (Weak.objs (keep := []) (frz := []) (m := 0) (ts := [(0, .lit (.string s0)), (3, .lit (.string ((⟨#[]⟩)))), (4, .lit (.int .i64 0))]) (hs := []) rfl (by decide) rfl rfl ⟨rfl, fun _ h => by cases h⟩ ⟨(.same (.lit (.string s0)) rfl), (.same (.lit (.string (⟨#[]⟩))) rfl), (.same (.lit (.int .i64 0)) rfl), trivial⟩)) rfl) ?_
  clear h0
  rintro K1 ⟨out3, i4⟩ x1 hs0_0 hl1 hr1
  replace hs0_0 : Ref4.Lower.s0 s0 out3 i4 = some x1 := hs0_0
  unfold Ref4.Lower.s0 at hs0_0
  change bwp _ _ _ _ _ (⟨29, [(0, .lit (.string s0)), (3, .lit (.string out3)), (4, .lit (.int .i64 i4))], []⟩ : St)
  obtain ⟨t8, et8, hs0_1⟩ := letk_elim hs0_0; clear hs0_0
  conv => whnf
  refine Nm.mk ⟨t8, et8, ?_⟩
  obtain ⟨t9, et9, hs0_2⟩ := letk_elim hs0_1; clear hs0_1
  conv => whnf
  refine Nm.mk ⟨t9, et9, ?_⟩
  rcases t9 with _ | _
  · have hs0_3 := bif_f hs0_2
    clear hs0_2
    have ehs0_3u_0 := hr1 _ (Option.some.inj hs0_3).symm
    have hs0_3u := congrArg some ehs0_3u_0
    have ehs0_3u_0 := Option.some.inj hs0_3u
    subst ehs0_3u_0
    conv => whnf
    exact Returns.pure (r := .lit (.string out3)) rfl rfl rfl rfl ⟨rfl, rfl⟩
  · have hs0_3 := bif_t hs0_2
    clear hs0_2
    obtain ⟨chs0_4, hs0_4⟩ := chk_elim hs0_3; clear hs0_3
    obtain ⟨t14, et14, hs0_5⟩ := letk_elim hs0_4; clear hs0_4
    conv => whnf
    refine Side.mk chs0_4 ?_
    conv => whnf
    refine Nm.mk ⟨t14, et14, ?_⟩
    conv => whnf
    refine CutN.of (fun s => ∃ (c5 : Int), Ref4.Lower.j0 s0 out3 i4 c5 = some x1 ∧ s = (⟨29, [(0, .lit (.string s0)), (3, .lit (.string out3)), (4, .lit (.int .i64 i4)), (5, .lit (.int .u8 c5))], []⟩ : St)) ?_ ?_
    · obtain ⟨t16, et16, hs0_6⟩ := letk_elim hs0_5; clear hs0_5
      conv => whnf
      refine Nm.mk ⟨t16, et16, ?_⟩
      rcases t16 with _ | _
      · have hs0_7 := bif_f hs0_6
        clear hs0_6
        exact BackS.of (Sees.of (Weak.objs (keep := []) (frz := []) (m := 0) (ts := [(0, .lit (.string s0)), (3, .lit (.string out3)), (4, .lit (.int .i64 i4)), (5, .lit (.int .u8 t14))]) (hs := []) rfl (by decide) rfl rfl ⟨rfl, fun _ h => by cases h⟩ ⟨(.same (.lit (.string s0)) rfl), (.same (.lit (.string out3)) rfl), (.same (.lit (.int .i64 i4)) rfl), (.same (.lit (.int .u8 t14)) rfl), trivial⟩)) ⟨_, hs0_7, rfl⟩
      · have hs0_7 := bif_t hs0_6
        clear hs0_6
        obtain ⟨t19, et19, hs0_8⟩ := letk_elim hs0_7; clear hs0_7
        conv => whnf
        refine Nm.mk ⟨t19, et19, ?_⟩
        rcases t19 with _ | _
        · have hs0_9 := bif_f hs0_8
          clear hs0_8
          exact BackS.of (Sees.of (Weak.objs (keep := []) (frz := []) (m := 0) (ts := [(0, .lit (.string s0)), (3, .lit (.string out3)), (4, .lit (.int .i64 i4)), (5, .lit (.int .u8 t14))]) (hs := []) rfl (by decide) rfl rfl ⟨rfl, fun _ h => by cases h⟩ ⟨(.same (.lit (.string s0)) rfl), (.same (.lit (.string out3)) rfl), (.same (.lit (.int .i64 i4)) rfl), (.same (.lit (.int .u8 t14)) rfl), trivial⟩)) ⟨_, hs0_9, rfl⟩
        · have hs0_9 := bif_t hs0_8
          clear hs0_8
          obtain ⟨t22, et22, hs0_10⟩ := letk_elim hs0_9; clear hs0_9
          conv => whnf
          refine Nm.mk ⟨t22, et22, ?_⟩
          exact BackS.of (Sees.of (Weak.objs (keep := []) (frz := []) (m := 0) (ts := [(0, .lit (.string s0)), (3, .lit (.string out3)), (4, .lit (.int .i64 i4)), (5, .lit (.int .u8 t22))]) (hs := []) rfl (by decide) rfl rfl ⟨rfl, fun _ h => by cases h⟩ ⟨(.same (.lit (.string s0)) rfl), (.same (.lit (.string out3)) rfl), (.same (.lit (.int .i64 i4)) rfl), (.same (.lit (.int .u8 t22)) rfl), trivial⟩)) ⟨_, hs0_10, rfl⟩
    · clear hs0_5
      rintro s ⟨c5, hj0, rfl⟩
      unfold Ref4.Lower.j0 at hj0
      conv => whnf
      refine Gate.go ?_
      conv => whnf
      refine Nm.mk ⟨([c5]).map (eI .u8), rfl, ?_⟩
      obtain ⟨t26, et26, hj1⟩ := letk_elim hj0; clear hj0
      conv => whnf
      refine Side.mk ⟨full_le _, one_map (fun _ _ hc => by simp only [AV.cells, List.mem_singleton] at hc; subst hc; rfl)⟩ ?_
      conv => whnf
      refine BytesN.mk ⟨[c5], map_takeAll _ _, ?_⟩
      conv => whnf
      refine Nm.mk ⟨t26, et26, ?_⟩
      obtain ⟨chj2, hj2⟩ := chk_elim hj1; clear hj1
      obtain ⟨t27, et27, hj3⟩ := letk_elim hj2; clear hj2
      conv => whnf
      refine Side.mk chj2 ?_
      conv => whnf
      refine Nm.mk ⟨t27, et27, ?_⟩
      obtain ⟨t11, et11, hj4⟩ := letk_elim hj3; clear hj3
      conv => whnf
      refine Nm.mk ⟨t11, et11, ?_⟩
      exact BackS.of (Sees.of (Weak.objs (keep := []) (frz := []) (m := 0) (ts := [(0, .lit (.string s0)), (3, .lit (.string t27)), (4, .lit (.int .i64 t11))]) (hs := []) rfl (by decide) rfl rfl ⟨rfl, fun _ h => by cases h⟩ ⟨(.same (.lit (.string s0)) rfl), (.same (.lit (.string t27)) rfl), (.same (.lit (.int .i64 t11)) rfl), trivial⟩)) ⟨_, hl1 _ (Option.some.inj hj4).symm, rfl⟩

noncomputable def Ref4.digits.s0 (s0 : ByteArray) (i1 : Int) (n5 : Int) : Option (Int ⊕ Int) :=
  letk (IntKind.i64.wrap (i1 + n5)) fun t9 =>
  Option.bind (Ref4.at_ s0 t9) fun t10 =>
  Option.bind (Ref4.isDigit t10) fun t11 =>
  bif t11 then
    letk (IntKind.i64.wrap (n5 + (1 : Int))) fun t13 =>
    some (.inl t13)
  else
    some (.inr n5)

noncomputable def Ref4.digits.l0 (s0 : ByteArray) (i1 : Int) (n5 : Int) : Option Int := loopO (fun v : Int => Ref4.digits.s0 s0 i1 v) n5
theorem Ref4.digits.l0_eq (s0 : ByteArray) (i1 : Int) (n5 : Int) : Ref4.digits.l0 s0 i1 n5 = (Ref4.digits.s0 s0 i1 n5).bind (Sum.elim (fun v => Ref4.digits.l0 s0 i1 v) some) := loopO_eq _ _

noncomputable def Ref4.digits (s0 : ByteArray) (i1 : Int) : Option Int :=
  Ref4.digits.l0 s0 i1 0

theorem Ref4.digits_ok {s0 : ByteArray} {i1 : Int} {r : Int} (h0 : Ref4.digits s0 i1 = some r) : Gives Tryz.prog 81 [.lit (.string s0), .lit (.int .i64 i1)] (.lit (.int .i64 r)) := by
  unfold Ref4.digits at h0
  refine ACalls.of_swp Tryz.func81 rfl (by decide) rfl (st0 := ⟨15, [(0, .lit (.string s0)), (1, .lit (.int .i64 i1))], []⟩) rfl (bwp_ok (C := []) ?_)
  conv => whnf
  unfold Ref4.digits.l0 at h0
  refine LoopB.of (σ := Int) (ρ := Int) (fun v : Int => Ref4.digits.s0 s0 i1 v) (fun v => (⟨15, [(0, .lit (.string s0)), (1, .lit (.int .i64 i1)), (5, .lit (.int .i64 v))], []⟩ : St)) 0 h0 (BackS.of (Sees.of (Weak.objs (keep := []) (frz := []) (m := 0) (ts := [(0, .lit (.string s0)), (1, .lit (.int .i64 i1)), (5, .lit (.int .i64 0))]) (hs := []) rfl (by decide) rfl rfl ⟨rfl, fun _ h => by cases h⟩ ⟨(.same (.lit (.string s0)) rfl), (.same (.lit (.int .i64 i1)) rfl), (.same (.lit (.int .i64 0)) rfl), trivial⟩)) rfl) ?_
  clear h0
  rintro K1 n5 x1 hs0_0 hl1 hr1
  replace hs0_0 : Ref4.digits.s0 s0 i1 n5 = some x1 := hs0_0
  unfold Ref4.digits.s0 at hs0_0
  change bwp _ _ _ _ _ (⟨15, [(0, .lit (.string s0)), (1, .lit (.int .i64 i1)), (5, .lit (.int .i64 n5))], []⟩ : St)
  obtain ⟨t9, et9, hs0_1⟩ := letk_elim hs0_0; clear hs0_0
  conv => whnf
  refine Nm.mk ⟨t9, et9, ?_⟩
  obtain ⟨t10, et10, hs0_2⟩ := bind_elim hs0_1; clear hs0_1
  conv => whnf
  refine Gate.go ?_
  conv => whnf
  refine CallN.by (v := .lit (.int .u8 t10)) (Ref4.at__ok et10) rfl rfl ?_
  obtain ⟨t11, et11, hs0_3⟩ := bind_elim hs0_2; clear hs0_2
  conv => whnf
  refine Gate.go ?_
  conv => whnf
  refine CallN.by (v := .lit (.bool t11)) (Ref4.isDigit_ok et11) rfl rfl ?_
  rcases t11 with _ | _
  · have hs0_4 := bif_f hs0_3
    clear hs0_3
    have ehs0_4u_0 := hr1 _ (Option.some.inj hs0_4).symm
    have hs0_4u := congrArg some ehs0_4u_0
    have ehs0_4u_0 := Option.some.inj hs0_4u
    subst ehs0_4u_0
    conv => whnf
    exact Returns.pure (r := .lit (.int .i64 n5)) rfl rfl rfl rfl ⟨rfl, rfl⟩
  · have hs0_4 := bif_t hs0_3
    clear hs0_3
    obtain ⟨t13, et13, hs0_5⟩ := letk_elim hs0_4; clear hs0_4
    conv => whnf
    refine Nm.mk ⟨t13, et13, ?_⟩
    exact BackS.of (Sees.of (Weak.objs (keep := []) (frz := []) (m := 0) (ts := [(0, .lit (.string s0)), (1, .lit (.int .i64 i1)), (5, .lit (.int .i64 t13))]) (hs := []) rfl (by decide) rfl rfl ⟨rfl, fun _ h => by cases h⟩ ⟨(.same (.lit (.string s0)) rfl), (.same (.lit (.int .i64 i1)) rfl), (.same (.lit (.int .i64 t13)) rfl), trivial⟩)) ⟨_, hl1 _ (Option.some.inj hs0_5).symm, rfl⟩

noncomputable def Ref4.words  : Option ((List ByteArray)) :=
  some ([⟨#[46, 97, 110, 100, 46]⟩, ⟨#[46, 111, 114, 46]⟩, ⟨#[46, 110, 111, 116, 46]⟩, ⟨#[46, 101, 113, 118, 46]⟩, ⟨#[46, 116, 114, 117, 101, 46]⟩, ⟨#[46, 102, 97, 108, 115, 101, 46]⟩])

theorem Ref4.words_ok {r : (List ByteArray)} (h0 : Ref4.words = some r) : Gives Tryz.prog 66 [] (.vs 1 (r.map (eS))) := by
  unfold Ref4.words at h0
  refine ACalls.of_swp Tryz.func66 rfl (by decide) rfl (st0 := ⟨2, [], []⟩) rfl (bwp_ok (C := []) ?_)
  conv => whnf
  refine Gate.go ?_
  conv => whnf
  refine Nm.mk ⟨([⟨#[46, 97, 110, 100, 46]⟩, ⟨#[46, 111, 114, 46]⟩, ⟨#[46, 110, 111, 116, 46]⟩, ⟨#[46, 101, 113, 118, 46]⟩, ⟨#[46, 116, 114, 117, 101, 46]⟩, ⟨#[46, 102, 97, 108, 115, 101, 46]⟩]).map (eS), rfl, ?_⟩
  have eh0_0 := Option.some.inj h0
  subst eh0_0
  conv => whnf
  exact Returns.frozen (r := .vs 1 (([⟨#[46, 97, 110, 100, 46]⟩, ⟨#[46, 111, 114, 46]⟩, ⟨#[46, 110, 111, 116, 46]⟩, ⟨#[46, 101, 113, 118, 46]⟩, ⟨#[46, 116, 114, 117, 101, 46]⟩, ⟨#[46, 102, 97, 108, 115, 101, 46]⟩]).map (eS))) [0] rfl rfl (WV.all (k := 0) (by decide) rfl) ⟨rfl, rfl⟩

noncomputable def Ref4.ops  : Option ((List ByteArray)) :=
  some ([⟨#[42, 42]⟩, ⟨#[61, 61]⟩, ⟨#[47, 61]⟩, ⟨#[60, 61]⟩, ⟨#[62, 61]⟩, ⟨#[61, 62]⟩, ⟨#[58, 58]⟩, ⟨#[43]⟩, ⟨#[45]⟩, ⟨#[42]⟩, ⟨#[47]⟩, ⟨#[60]⟩, ⟨#[62]⟩, ⟨#[61]⟩, ⟨#[40]⟩, ⟨#[41]⟩, ⟨#[91]⟩, ⟨#[93]⟩, ⟨#[44]⟩, ⟨#[58]⟩, ⟨#[37]⟩])

theorem Ref4.ops_ok {r : (List ByteArray)} (h0 : Ref4.ops = some r) : Gives Tryz.prog 67 [] (.vs 1 (r.map (eS))) := by
  unfold Ref4.ops at h0
  refine ACalls.of_swp Tryz.func67 rfl (by decide) rfl (st0 := ⟨2, [], []⟩) rfl (bwp_ok (C := []) ?_)
  conv => whnf
  refine Gate.go ?_
  conv => whnf
  refine Nm.mk ⟨([⟨#[42, 42]⟩, ⟨#[61, 61]⟩, ⟨#[47, 61]⟩, ⟨#[60, 61]⟩, ⟨#[62, 61]⟩, ⟨#[61, 62]⟩, ⟨#[58, 58]⟩, ⟨#[43]⟩, ⟨#[45]⟩, ⟨#[42]⟩, ⟨#[47]⟩, ⟨#[60]⟩, ⟨#[62]⟩, ⟨#[61]⟩, ⟨#[40]⟩, ⟨#[41]⟩, ⟨#[91]⟩, ⟨#[93]⟩, ⟨#[44]⟩, ⟨#[58]⟩, ⟨#[37]⟩]).map (eS), rfl, ?_⟩
  have eh0_0 := Option.some.inj h0
  subst eh0_0
  conv => whnf
  exact Returns.frozen (r := .vs 1 (([⟨#[42, 42]⟩, ⟨#[61, 61]⟩, ⟨#[47, 61]⟩, ⟨#[60, 61]⟩, ⟨#[62, 61]⟩, ⟨#[61, 62]⟩, ⟨#[58, 58]⟩, ⟨#[43]⟩, ⟨#[45]⟩, ⟨#[42]⟩, ⟨#[47]⟩, ⟨#[60]⟩, ⟨#[62]⟩, ⟨#[61]⟩, ⟨#[40]⟩, ⟨#[41]⟩, ⟨#[91]⟩, ⟨#[93]⟩, ⟨#[44]⟩, ⟨#[58]⟩, ⟨#[37]⟩]).map (eS))) [0] rfl rfl (WV.all (k := 0) (by decide) rfl) ⟨rfl, rfl⟩

noncomputable def Ref4.starts.j0 (l0 : List ByteArray) (s1 : ByteArray) (i5 : Int) (t32 : Bool) : Option (Int ⊕ ByteArray) :=
  bif t32 then
    chk (0 ≤ i5) <|
    Option.bind (l0[i5.toNat]?) fun t35 =>
    some (.inr t35)
  else
    letk (IntKind.i64.wrap (i5 + (1 : Int))) fun t12 =>
    some (.inl t12)

noncomputable def Ref4.starts.s0 (l0 : List ByteArray) (s1 : ByteArray) (i5 : Int) : Option (Int ⊕ ByteArray) :=
  letk ((l0.length : Int)) fun t9 =>
  letk (decide (i5 < t9)) fun t10 =>
  bif t10 then
    chk (0 ≤ i5) <|
    Option.bind (l0[i5.toNat]?) fun t15 =>
    letk ((t15.size : Int)) fun t17 =>
    letk ((s1.size : Int)) fun t20 =>
    letk (decide (t17 ≤ t20)) fun t21 =>
    bif t21 then
      chk (0 ≤ t17 ∧ t17 ≤ (s1.size : Int)) <|
      letk (s1.extract 0 t17.toNat) fun t25 =>
      Option.bind (Ref4.Lower t25) fun t26 =>
      chk (0 ≤ i5) <|
      Option.bind (l0[i5.toNat]?) fun t29 =>
      letk (t26.toList == t29.toList) fun t31 =>
      Ref4.starts.j0 l0 s1 i5 t31
    else
      Ref4.starts.j0 l0 s1 i5 false
  else
    some (.inr ⟨#[]⟩)

noncomputable def Ref4.starts.l0 (l0 : List ByteArray) (s1 : ByteArray) (i5 : Int) : Option ByteArray := loopO (fun v : Int => Ref4.starts.s0 l0 s1 v) i5
theorem Ref4.starts.l0_eq (l0 : List ByteArray) (s1 : ByteArray) (i5 : Int) : Ref4.starts.l0 l0 s1 i5 = (Ref4.starts.s0 l0 s1 i5).bind (Sum.elim (fun v => Ref4.starts.l0 l0 s1 v) some) := loopO_eq _ _

noncomputable def Ref4.starts (l0 : List ByteArray) (s1 : ByteArray) : Option ByteArray :=
  Ref4.starts.l0 l0 s1 0

theorem Ref4.starts_ok {l0 : List ByteArray} {s1 : ByteArray} {r : ByteArray} (h0 : Ref4.starts l0 s1 = some r) : Gives Tryz.prog 65 [.vs 1 (l0.map (eS)), .lit (.string s1)] (.lit (.string r)) := by
  unfold Ref4.starts at h0
  refine ACalls.of_swp Tryz.func65 rfl (by decide) rfl (st0 := ⟨37, [(0, .vs 1 (l0.map (eS))), (1, .lit (.string s1))], []⟩) rfl (bwp_ok (C := [(42, 13)]) ?_)
  conv => whnf
  unfold Ref4.starts.l0 at h0
  refine LoopB.of (σ := Int) (ρ := ByteArray) (fun v : Int => Ref4.starts.s0 l0 s1 v) (fun v => (⟨37, [(0, .vs 1 (l0.map (eS))), (1, .lit (.string s1)), (5, .lit (.int .i64 v))], []⟩ : St)) 0 h0 (BackS.of (Sees.of (Weak.objs (keep := []) (frz := []) (m := 0) (ts := [(0, .vs 1 (l0.map (eS))), (1, .lit (.string s1)), (5, .lit (.int .i64 0))]) (hs := []) rfl (by decide) rfl rfl ⟨rfl, fun _ h => by cases h⟩ ⟨(.same (.vs 1 (l0.map (eS))) rfl), (.same (.lit (.string s1)) rfl), (.same (.lit (.int .i64 0)) rfl), trivial⟩)) rfl) ?_
  clear h0
  rintro K1 i5 x1 hs0_0 hl1 hr1
  replace hs0_0 : Ref4.starts.s0 l0 s1 i5 = some x1 := hs0_0
  unfold Ref4.starts.s0 at hs0_0
  change bwp _ _ _ _ _ (⟨37, [(0, .vs 1 (l0.map (eS))), (1, .lit (.string s1)), (5, .lit (.int .i64 i5))], []⟩ : St)
  obtain ⟨t9, et9, hs0_1⟩ := letk_elim hs0_0; clear hs0_0
  conv => whnf
  refine Nm.mk ⟨t9, by rw [et9, List.length_map], ?_⟩
  obtain ⟨t10, et10, hs0_2⟩ := letk_elim hs0_1; clear hs0_1
  conv => whnf
  refine Nm.mk ⟨t10, et10, ?_⟩
  rcases t10 with _ | _
  · have hs0_3 := bif_f hs0_2
    clear hs0_2
    have ehs0_3u_0 := hr1 _ (Option.some.inj hs0_3).symm
    have hs0_3u := congrArg some ehs0_3u_0
    have ehs0_3u_0 := Option.some.inj hs0_3u
    subst ehs0_3u_0
    conv => whnf
    exact Returns.pure (r := .lit (.string (⟨#[]⟩))) rfl rfl rfl rfl ⟨rfl, rfl⟩
  · have hs0_3 := bif_t hs0_2
    clear hs0_2
    obtain ⟨chs0_4, hs0_4⟩ := chk_elim hs0_3; clear hs0_3
    obtain ⟨t15, et15, hs0_5⟩ := bind_elim hs0_4; clear hs0_4
    conv => whnf
    refine Side.mk chs0_4 ?_
    conv => whnf
    refine At.by et15 ?_
    obtain ⟨t17, et17, hs0_6⟩ := letk_elim hs0_5; clear hs0_5
    conv => whnf
    refine Nm.mk ⟨t17, et17, ?_⟩
    conv => whnf
    refine CutN.of (fun s => ∃ (t32 : Bool), Ref4.starts.j0 l0 s1 i5 t32 = some x1 ∧ s = (⟨37, [(0, .vs 1 (l0.map (eS))), (1, .lit (.string s1)), (5, .lit (.int .i64 i5)), (32, .lit (.bool t32))], []⟩ : St)) ?_ ?_
    · conv => whnf
      refine DrawB.of Tryz_mixed rfl ?_
      conv => whnf
      refine DNodeB.of (.lit (.int .i64 t17)) ?_ ?_
      · conv => whnf
        rfl
      · conv => whnf
        refine DNodeB.of (.lit (.string s1)) ?_ ?_
        · conv => whnf
          rfl
        · obtain ⟨t20, et20, hs0_7⟩ := letk_elim hs0_6; clear hs0_6
          conv => whnf
          refine DNodeB.of (.lit (.int .i64 t20)) ?_ ?_
          · conv => whnf
            refine Nm.mk ⟨t20, et20, ?_⟩
            conv => whnf
            rfl
          · obtain ⟨t21, et21, hs0_8⟩ := letk_elim hs0_7; clear hs0_7
            conv => whnf
            refine DNodeB.of (.lit (.bool t21)) ?_ ?_
            · conv => whnf
              refine Nm.mk ⟨t21, et21, ?_⟩
              conv => whnf
              rfl
            · conv => whnf
              refine DNodeB.of (.lit (.bool t21)) ?_ ?_
              · conv => whnf
                rfl
              · rcases t21 with _ | _
                · have hs0_9 := bif_f hs0_8
                  clear hs0_8
                  conv => whnf
                  refine DNodeB.of (.lit (.bool false)) ?_ ?_
                  · conv => whnf
                    rfl
                  · exact BackS.of (Sees.of (Weak.objs (keep := []) (frz := []) (m := 0) (ts := [(0, .vs 1 (l0.map (eS))), (1, .lit (.string s1)), (5, .lit (.int .i64 i5)), (32, .lit (.bool false))]) (hs := []) rfl (by decide) rfl rfl ⟨rfl, fun _ h => by cases h⟩ ⟨(.same (.vs 1 (l0.map (eS))) rfl), (.same (.lit (.string s1)) rfl), (.same (.lit (.int .i64 i5)) rfl), (.same (.lit (.bool false)) rfl), trivial⟩)) ⟨_, hs0_9, rfl⟩
                · have hs0_9 := bif_t hs0_8
                  clear hs0_8
                  conv => whnf
                  refine DNodeB.of (.lit (.string s1)) ?_ ?_
                  · conv => whnf
                    rfl
                  · conv => whnf
                    refine DNodeB.of (.lit (.int .i64 t17)) ?_ ?_
                    · conv => whnf
                      rfl
                    · obtain ⟨chs0_10, hs0_10⟩ := chk_elim hs0_9; clear hs0_9
                      obtain ⟨t25, et25, hs0_11⟩ := letk_elim hs0_10; clear hs0_10
                      conv => whnf
                      refine DNodeB.of (.lit (.string t25)) ?_ ?_
                      · conv => whnf
                        refine Side.mk chs0_10 ?_
                        conv => whnf
                        refine Nm.mk ⟨t25, et25, ?_⟩
                        conv => whnf
                        rfl
                      · obtain ⟨t26, et26, hs0_12⟩ := bind_elim hs0_11; clear hs0_11
                        conv => whnf
                        refine DNodeB.of (.lit (.string t26)) ?_ ?_
                        · conv => whnf
                          refine CallN.by (v := .lit (.string t26)) (Ref4.Lower_ok et26) rfl rfl ?_
                          conv => whnf
                          rfl
                        · conv => whnf
                          refine DNodeB.of (.vs 1 (l0.map (eS))) ?_ ?_
                          · conv => whnf
                            rfl
                          · conv => whnf
                            refine DNodeB.of (.lit (.int .i64 i5)) ?_ ?_
                            · conv => whnf
                              rfl
                            · obtain ⟨chs0_13, hs0_13⟩ := chk_elim hs0_12; clear hs0_12
                              obtain ⟨t29, et29, hs0_14⟩ := bind_elim hs0_13; clear hs0_13
                              conv => whnf
                              refine DNodeB.of (.iptr (.lit (.string t29))) ?_ ?_
                              · conv => whnf
                                refine Side.mk chs0_13 ?_
                                conv => whnf
                                refine At.by et29 ?_
                                conv => whnf
                                rfl
                              · conv => whnf
                                refine DNodeB.of (.lit (.string t29)) ?_ ?_
                                · conv => whnf
                                  rfl
                                · obtain ⟨t31, et31, hs0_15⟩ := letk_elim hs0_14; clear hs0_14
                                  conv => whnf
                                  refine DNodeB.of (.lit (.bool t31)) ?_ ?_
                                  · conv => whnf
                                    refine Nm.mk ⟨t31, et31, ?_⟩
                                    conv => whnf
                                    rfl
                                  · conv => whnf
                                    refine DNodeB.of (.lit (.bool t31)) ?_ ?_
                                    · conv => whnf
                                      rfl
                                    · exact BackS.of (Sees.of (Weak.objs (keep := []) (frz := []) (m := 0) (ts := [(0, .vs 1 (l0.map (eS))), (1, .lit (.string s1)), (5, .lit (.int .i64 i5)), (32, .lit (.bool t31))]) (hs := []) rfl (by decide) rfl rfl ⟨rfl, fun _ h => by cases h⟩ ⟨(.same (.vs 1 (l0.map (eS))) rfl), (.same (.lit (.string s1)) rfl), (.same (.lit (.int .i64 i5)) rfl), (.same (.lit (.bool t31)) rfl), trivial⟩)) ⟨_, hs0_15, rfl⟩
    · clear hs0_6
      rintro s ⟨t32, hj0, rfl⟩
      unfold Ref4.starts.j0 at hj0
      rcases t32 with _ | _
      · have hj1 := bif_f hj0
        clear hj0
        obtain ⟨t12, et12, hj2⟩ := letk_elim hj1; clear hj1
        conv => whnf
        refine Nm.mk ⟨t12, et12, ?_⟩
        exact BackS.of (Sees.of (Weak.objs (keep := []) (frz := []) (m := 0) (ts := [(0, .vs 1 (l0.map (eS))), (1, .lit (.string s1)), (5, .lit (.int .i64 t12))]) (hs := []) rfl (by decide) rfl rfl ⟨rfl, fun _ h => by cases h⟩ ⟨(.same (.vs 1 (l0.map (eS))) rfl), (.same (.lit (.string s1)) rfl), (.same (.lit (.int .i64 t12)) rfl), trivial⟩)) ⟨_, hl1 _ (Option.some.inj hj2).symm, rfl⟩
      · have hj1 := bif_t hj0
        clear hj0
        obtain ⟨chj2, hj2⟩ := chk_elim hj1; clear hj1
        obtain ⟨t35, et35, hj3⟩ := bind_elim hj2; clear hj2
        conv => whnf
        refine Side.mk chj2 ?_
        conv => whnf
        refine At.by et35 ?_
        have ehj3_0 := hr1 _ (Option.some.inj hj3).symm
        subst ehj3_0
        conv => whnf
        exact Returns.pure (r := .lit (.string t35)) rfl rfl rfl rfl ⟨rfl, rfl⟩

noncomputable def Ref4.stray (s0 : ByteArray) (i1 : Int) (ahead2 : Int) : Option Bool :=
  letk (IntKind.i64.wrap (i1 + (1 : Int))) fun t10 =>
  Option.bind (Ref4.at_ s0 t10) fun t11 =>
  letk (decide (ahead2 > (0 : Int))) fun t13 =>
  bif t13 then
    Option.bind (Ref4.isLetter t11) fun t16 =>
    bif t16 then
      letk (t11 != (101 : Int)) fun t20 =>
      bif t20 then
        letk (t11 != (69 : Int)) fun t24 =>
        bif t24 then
          letk (t11 != (100 : Int)) fun t28 =>
          bif t28 then
            letk (t11 != (68 : Int)) fun t32 =>
            some t32
          else
            some false
        else
          some false
      else
        some false
    else
      some false
  else
    some false

theorem Ref4.stray_ok {s0 : ByteArray} {i1 : Int} {ahead2 : Int} {r : Bool} (h0 : Ref4.stray s0 i1 ahead2 = some r) : Gives Tryz.prog 82 [.lit (.string s0), .lit (.int .i64 i1), .lit (.int .i64 ahead2)] (.lit (.bool r)) := by
  unfold Ref4.stray at h0
  refine ACalls.of_swp Tryz.func82 rfl (by decide) rfl (st0 := ⟨34, [(0, .lit (.string s0)), (1, .lit (.int .i64 i1)), (2, .lit (.int .i64 ahead2))], []⟩) rfl (bwp_ok (C := []) ?_)
  obtain ⟨t10, et10, h1⟩ := letk_elim h0; clear h0
  conv => whnf
  refine Nm.mk ⟨t10, et10, ?_⟩
  obtain ⟨t11, et11, h2⟩ := bind_elim h1; clear h1
  conv => whnf
  refine Gate.go ?_
  conv => whnf
  refine CallN.by (v := .lit (.int .u8 t11)) (Ref4.at__ok et11) rfl rfl ?_
  obtain ⟨t13, et13, h3⟩ := letk_elim h2; clear h2
  conv => whnf
  refine Nm.mk ⟨t13, et13, ?_⟩
  rcases t13 with _ | _
  · have h4 := bif_f h3
    clear h3
    have eh4_0 := Option.some.inj h4
    subst eh4_0
    conv => whnf
    exact Returns.pure (r := .lit (.bool false)) rfl rfl rfl rfl ⟨rfl, rfl⟩
  · have h4 := bif_t h3
    clear h3
    obtain ⟨t16, et16, h5⟩ := bind_elim h4; clear h4
    conv => whnf
    refine Gate.go ?_
    conv => whnf
    refine CallN.by (v := .lit (.bool t16)) (Ref4.isLetter_ok et16) rfl rfl ?_
    rcases t16 with _ | _
    · have h6 := bif_f h5
      clear h5
      have eh6_0 := Option.some.inj h6
      subst eh6_0
      conv => whnf
      exact Returns.pure (r := .lit (.bool false)) rfl rfl rfl rfl ⟨rfl, rfl⟩
    · have h6 := bif_t h5
      clear h5
      obtain ⟨t20, et20, h7⟩ := letk_elim h6; clear h6
      conv => whnf
      refine Nm.mk ⟨t20, et20, ?_⟩
      rcases t20 with _ | _
      · have h8 := bif_f h7
        clear h7
        have eh8_0 := Option.some.inj h8
        subst eh8_0
        conv => whnf
        exact Returns.pure (r := .lit (.bool false)) rfl rfl rfl rfl ⟨rfl, rfl⟩
      · have h8 := bif_t h7
        clear h7
        obtain ⟨t24, et24, h9⟩ := letk_elim h8; clear h8
        conv => whnf
        refine Nm.mk ⟨t24, et24, ?_⟩
        rcases t24 with _ | _
        · have h10 := bif_f h9
          clear h9
          have eh10_0 := Option.some.inj h10
          subst eh10_0
          conv => whnf
          exact Returns.pure (r := .lit (.bool false)) rfl rfl rfl rfl ⟨rfl, rfl⟩
        · have h10 := bif_t h9
          clear h9
          obtain ⟨t28, et28, h11⟩ := letk_elim h10; clear h10
          conv => whnf
          refine Nm.mk ⟨t28, et28, ?_⟩
          rcases t28 with _ | _
          · have h12 := bif_f h11
            clear h11
            have eh12_0 := Option.some.inj h12
            subst eh12_0
            conv => whnf
            exact Returns.pure (r := .lit (.bool false)) rfl rfl rfl rfl ⟨rfl, rfl⟩
          · have h12 := bif_t h11
            clear h11
            obtain ⟨t32, et32, h13⟩ := letk_elim h12; clear h12
            conv => whnf
            refine Nm.mk ⟨t32, et32, ?_⟩
            have eh13_0 := Option.some.inj h13
            subst eh13_0
            conv => whnf
            exact Returns.pure (r := .lit (.bool t32)) rfl rfl rfl rfl ⟨rfl, rfl⟩

noncomputable def Ref4.power.j1 (s0 : ByteArray) (i1 : Int) (n6 : Int) : Option Int :=
  letk (IntKind.i64.wrap (i1 + n6)) fun t41 =>
  Option.bind (Ref4.digits s0 t41) fun t42 =>
  letk (t42 == (0 : Int)) fun t44 =>
  bif t44 then
    some 0
  else
    letk (if 3 < t42 then 3 else t42) fun t47 =>
    letk (IntKind.i64.wrap (n6 + t47)) fun t48 =>
    some t48

noncomputable def Ref4.power.j0 (s0 : ByteArray) (i1 : Int) : Option Int :=
  letk (IntKind.i64.wrap (i1 + (1 : Int))) fun t28 =>
  Option.bind (Ref4.at_ s0 t28) fun t29 =>
  letk (t29 == (43 : Int)) fun t31 =>
  bif t31 then
    letk (IntKind.i64.wrap ((1 : Int) + (1 : Int))) fun t37_1 =>
    Ref4.power.j1 s0 i1 t37_1
  else
    letk (t29 == (45 : Int)) fun t34 =>
    bif t34 then
      letk (IntKind.i64.wrap ((1 : Int) + (1 : Int))) fun t37 =>
      Ref4.power.j1 s0 i1 t37
    else
      Ref4.power.j1 s0 i1 1

noncomputable def Ref4.power (s0 : ByteArray) (i1 : Int) : Option Int :=
  Option.bind (Ref4.at_ s0 i1) fun t11 =>
  letk (t11 != (101 : Int)) fun t13 =>
  bif t13 then
    letk (t11 != (69 : Int)) fun t16 =>
    bif t16 then
      letk (t11 != (100 : Int)) fun t20 =>
      bif t20 then
        letk (t11 != (68 : Int)) fun t24 =>
        bif t24 then
          some 0
        else
          Ref4.power.j0 s0 i1
      else
        Ref4.power.j0 s0 i1
    else
      Ref4.power.j0 s0 i1
  else
    Ref4.power.j0 s0 i1

theorem Ref4.power_ok {s0 : ByteArray} {i1 : Int} {r : Int} (h0 : Ref4.power s0 i1 = some r) : Gives Tryz.prog 83 [.lit (.string s0), .lit (.int .i64 i1)] (.lit (.int .i64 r)) := by
  unfold Ref4.power at h0
  refine ACalls.of_swp Tryz.func83 rfl (by decide) rfl (st0 := ⟨49, [(0, .lit (.string s0)), (1, .lit (.int .i64 i1))], []⟩) rfl (bwp_ok (C := [(0, 4), (0, 8)]) ?_)
  conv => whnf
  refine CutN.of (fun s => Ref4.power.j0 s0 i1 = some r ∧ s = (⟨49, [(0, .lit (.string s0)), (1, .lit (.int .i64 i1))], []⟩ : St)) ?_ ?_
  · obtain ⟨t11, et11, h1⟩ := bind_elim h0; clear h0
    conv => whnf
    refine Gate.go ?_
    conv => whnf
    refine CallN.by (v := .lit (.int .u8 t11)) (Ref4.at__ok et11) rfl rfl ?_
    obtain ⟨t13, et13, h2⟩ := letk_elim h1; clear h1
    conv => whnf
    refine Nm.mk ⟨t13, et13, ?_⟩
    rcases t13 with _ | _
    · have h3 := bif_f h2
      clear h2
      exact BackS.of (Sees.of (Weak.objs (keep := []) (frz := []) (m := 0) (ts := [(0, .lit (.string s0)), (1, .lit (.int .i64 i1))]) (hs := []) rfl (by decide) rfl rfl ⟨rfl, fun _ h => by cases h⟩ ⟨(.same (.lit (.string s0)) rfl), (.same (.lit (.int .i64 i1)) rfl), trivial⟩)) ⟨h3, rfl⟩
    · have h3 := bif_t h2
      clear h2
      obtain ⟨t16, et16, h4⟩ := letk_elim h3; clear h3
      conv => whnf
      refine Nm.mk ⟨t16, et16, ?_⟩
      rcases t16 with _ | _
      · have h5 := bif_f h4
        clear h4
        exact BackS.of (Sees.of (Weak.objs (keep := []) (frz := []) (m := 0) (ts := [(0, .lit (.string s0)), (1, .lit (.int .i64 i1))]) (hs := []) rfl (by decide) rfl rfl ⟨rfl, fun _ h => by cases h⟩ ⟨(.same (.lit (.string s0)) rfl), (.same (.lit (.int .i64 i1)) rfl), trivial⟩)) ⟨h5, rfl⟩
      · have h5 := bif_t h4
        clear h4
        obtain ⟨t20, et20, h6⟩ := letk_elim h5; clear h5
        conv => whnf
        refine Nm.mk ⟨t20, et20, ?_⟩
        rcases t20 with _ | _
        · have h7 := bif_f h6
          clear h6
          exact BackS.of (Sees.of (Weak.objs (keep := []) (frz := []) (m := 0) (ts := [(0, .lit (.string s0)), (1, .lit (.int .i64 i1))]) (hs := []) rfl (by decide) rfl rfl ⟨rfl, fun _ h => by cases h⟩ ⟨(.same (.lit (.string s0)) rfl), (.same (.lit (.int .i64 i1)) rfl), trivial⟩)) ⟨h7, rfl⟩
        · have h7 := bif_t h6
          clear h6
          obtain ⟨t24, et24, h8⟩ := letk_elim h7; clear h7
          conv => whnf
          refine Nm.mk ⟨t24, et24, ?_⟩
          rcases t24 with _ | _
          · have h9 := bif_f h8
            clear h8
            exact BackS.of (Sees.of (Weak.objs (keep := []) (frz := []) (m := 0) (ts := [(0, .lit (.string s0)), (1, .lit (.int .i64 i1))]) (hs := []) rfl (by decide) rfl rfl ⟨rfl, fun _ h => by cases h⟩ ⟨(.same (.lit (.string s0)) rfl), (.same (.lit (.int .i64 i1)) rfl), trivial⟩)) ⟨h9, rfl⟩
          · have h9 := bif_t h8
            clear h8
            have eh9_0 := Option.some.inj h9
            subst eh9_0
            conv => whnf
            exact Returns.pure (r := .lit (.int .i64 0)) rfl rfl rfl rfl ⟨rfl, rfl⟩
  · clear h0
    rintro s ⟨hj0, rfl⟩
    unfold Ref4.power.j0 at hj0
    conv => whnf
    refine CutN.of (fun s => ∃ (n6 : Int), Ref4.power.j1 s0 i1 n6 = some r ∧ s = (⟨49, [(0, .lit (.string s0)), (1, .lit (.int .i64 i1)), (6, .lit (.int .i64 n6))], []⟩ : St)) ?_ ?_
    · obtain ⟨t28, et28, hj1⟩ := letk_elim hj0; clear hj0
      conv => whnf
      refine Nm.mk ⟨t28, et28, ?_⟩
      obtain ⟨t29, et29, hj2⟩ := bind_elim hj1; clear hj1
      conv => whnf
      refine Gate.go ?_
      conv => whnf
      refine CallN.by (v := .lit (.int .u8 t29)) (Ref4.at__ok et29) rfl rfl ?_
      obtain ⟨t31, et31, hj3⟩ := letk_elim hj2; clear hj2
      conv => whnf
      refine Nm.mk ⟨t31, et31, ?_⟩
      rcases t31 with _ | _
      · have hj4 := bif_f hj3
        clear hj3
        obtain ⟨t34, et34, hj5⟩ := letk_elim hj4; clear hj4
        conv => whnf
        refine Nm.mk ⟨t34, et34, ?_⟩
        rcases t34 with _ | _
        · have hj6 := bif_f hj5
          clear hj5
          exact BackS.of (Sees.of (Weak.objs (keep := []) (frz := []) (m := 0) (ts := [(0, .lit (.string s0)), (1, .lit (.int .i64 i1)), (6, .lit (.int .i64 1))]) (hs := []) rfl (by decide) rfl rfl ⟨rfl, fun _ h => by cases h⟩ ⟨(.same (.lit (.string s0)) rfl), (.same (.lit (.int .i64 i1)) rfl), (.same (.lit (.int .i64 1)) rfl), trivial⟩)) ⟨_, hj6, rfl⟩
        · have hj6 := bif_t hj5
          clear hj5
          obtain ⟨t37, et37, hj7⟩ := letk_elim hj6; clear hj6
          conv => whnf
          refine Nm.mk ⟨t37, et37, ?_⟩
          exact BackS.of (Sees.of (Weak.objs (keep := []) (frz := []) (m := 0) (ts := [(0, .lit (.string s0)), (1, .lit (.int .i64 i1)), (6, .lit (.int .i64 t37))]) (hs := []) rfl (by decide) rfl rfl ⟨rfl, fun _ h => by cases h⟩ ⟨(.same (.lit (.string s0)) rfl), (.same (.lit (.int .i64 i1)) rfl), (.same (.lit (.int .i64 t37)) rfl), trivial⟩)) ⟨_, hj7, rfl⟩
      · have hj4 := bif_t hj3
        clear hj3
        obtain ⟨t37_1, et37_1, hj5⟩ := letk_elim hj4; clear hj4
        conv => whnf
        refine Nm.mk ⟨t37_1, et37_1, ?_⟩
        exact BackS.of (Sees.of (Weak.objs (keep := []) (frz := []) (m := 0) (ts := [(0, .lit (.string s0)), (1, .lit (.int .i64 i1)), (6, .lit (.int .i64 t37_1))]) (hs := []) rfl (by decide) rfl rfl ⟨rfl, fun _ h => by cases h⟩ ⟨(.same (.lit (.string s0)) rfl), (.same (.lit (.int .i64 i1)) rfl), (.same (.lit (.int .i64 t37_1)) rfl), trivial⟩)) ⟨_, hj5, rfl⟩
    · clear hj0
      rintro s ⟨n6, hj0, rfl⟩
      unfold Ref4.power.j1 at hj0
      obtain ⟨t41, et41, hj1⟩ := letk_elim hj0; clear hj0
      conv => whnf
      refine Nm.mk ⟨t41, et41, ?_⟩
      obtain ⟨t42, et42, hj2⟩ := bind_elim hj1; clear hj1
      conv => whnf
      refine Gate.go ?_
      conv => whnf
      refine CallN.by (v := .lit (.int .i64 t42)) (Ref4.digits_ok et42) rfl rfl ?_
      obtain ⟨t44, et44, hj3⟩ := letk_elim hj2; clear hj2
      conv => whnf
      refine Nm.mk ⟨t44, et44, ?_⟩
      rcases t44 with _ | _
      · have hj4 := bif_f hj3
        clear hj3
        obtain ⟨t47, et47, hj5⟩ := letk_elim hj4; clear hj4
        conv => whnf
        refine Nm.mk ⟨t47, et47, ?_⟩
        obtain ⟨t48, et48, hj6⟩ := letk_elim hj5; clear hj5
        conv => whnf
        refine Nm.mk ⟨t48, et48, ?_⟩
        have ehj6_0 := Option.some.inj hj6
        subst ehj6_0
        conv => whnf
        exact Returns.pure (r := .lit (.int .i64 t48)) rfl rfl rfl rfl ⟨rfl, rfl⟩
      · have hj4 := bif_t hj3
        clear hj3
        have ehj4_0 := Option.some.inj hj4
        subst ehj4_0
        conv => whnf
        exact Returns.pure (r := .lit (.int .i64 0)) rfl rfl rfl rfl ⟨rfl, rfl⟩

noncomputable def Ref4.number.j2 (s0 : ByteArray) (i1 : Int) (n7_1 : Int) (kind9_1 : ByteArray) (t4_0_2 : ByteArray) (t4_1_2 : ByteArray) : Option (api.Token × Int × Bool) :=
  letk (IntKind.i64.wrap (i1 + n7_1)) fun t92 =>
  chk (0 ≤ i1 ∧ i1 ≤ t92 ∧ t92 ≤ (s0.size : Int)) <|
  letk (s0.extract i1.toNat t92.toNat) fun t93 =>
  Option.bind (Ref4.Lower t93) fun t94 =>
  some ((⟨kind9_1, t94⟩ : api.Token), n7_1, true)

noncomputable def Ref4.number.j3 (s0 : ByteArray) (i1 : Int) (n7_1 : Int) (kind9_1 : ByteArray) (t4_0_3 : ByteArray) (t4_1_3 : ByteArray) (t85 : Bool) : Option (api.Token × Int × Bool) :=
  bif t85 then
    some ((⟨⟨#[]⟩, ⟨#[]⟩⟩ : api.Token), 0, false)
  else
    Ref4.number.j2 s0 i1 n7_1 kind9_1 t4_0_3 t4_1_3

noncomputable def Ref4.number.j1 (s0 : ByteArray) (i1 : Int) (many8 : Int) (t4_0_1 : ByteArray) (t4_1_1 : ByteArray) (n7_1 : Int) (kind9_1 : ByteArray) : Option (api.Token × Int × Bool) :=
  letk (IntKind.i64.wrap (i1 + n7_1)) fun t67 =>
  Option.bind (Ref4.at_ s0 t67) fun t68 =>
  Option.bind (Ref4.isInner t68) fun t69 =>
  bif t69 then
    Ref4.number.j3 s0 i1 n7_1 kind9_1 t4_0_1 t4_1_1 true
  else
    letk (kind9_1.toList == (⟨#[105, 110, 116]⟩ : ByteArray).toList) fun t72 =>
    bif t72 then
      letk (decide (many8 > (10 : Int))) fun t75 =>
      bif t75 then
        Ref4.number.j3 s0 i1 n7_1 kind9_1 t4_0_1 t4_1_1 true
      else
        letk (kind9_1.toList == (⟨#[114, 101, 97, 108]⟩ : ByteArray).toList) fun t80_1 =>
        bif t80_1 then
          letk (decide (many8 > (60 : Int))) fun t83_1 =>
          Ref4.number.j3 s0 i1 n7_1 kind9_1 t4_0_1 t4_1_1 t83_1
        else
          Ref4.number.j3 s0 i1 n7_1 kind9_1 t4_0_1 t4_1_1 false
    else
      letk (kind9_1.toList == (⟨#[114, 101, 97, 108]⟩ : ByteArray).toList) fun t80 =>
      bif t80 then
        letk (decide (many8 > (60 : Int))) fun t83 =>
        Ref4.number.j3 s0 i1 n7_1 kind9_1 t4_0_1 t4_1_1 t83
      else
        Ref4.number.j3 s0 i1 n7_1 kind9_1 t4_0_1 t4_1_1 false

noncomputable def Ref4.number.j0 (s0 : ByteArray) (i1 : Int) (t4_0 : ByteArray) (t4_1 : ByteArray) (n7 : Int) (many8 : Int) (kind9 : ByteArray) : Option (api.Token × Int × Bool) :=
  letk (IntKind.i64.wrap (i1 + n7)) fun t57 =>
  Option.bind (Ref4.power s0 t57) fun t58 =>
  letk (decide (t58 > (0 : Int))) fun t60 =>
  bif t60 then
    letk (IntKind.i64.wrap (n7 + t58)) fun t63 =>
    Ref4.number.j1 s0 i1 many8 t4_0 t4_1 t63 (⟨#[114, 101, 97, 108]⟩)
  else
    Ref4.number.j1 s0 i1 many8 t4_0 t4_1 n7 kind9

noncomputable def Ref4.number.j4 (s0 : ByteArray) (i1 : Int) (t14 : Int) (t4_0_4 : ByteArray) (t4_1_4 : ByteArray) (t40 : Bool) : Option (api.Token × Int × Bool) :=
  bif t40 then
    letk (IntKind.i64.wrap (i1 + t14)) fun t44 =>
    letk (IntKind.i64.wrap (t44 + (1 : Int))) fun t45 =>
    Option.bind (Ref4.digits s0 t45) fun t46 =>
    letk (IntKind.i64.wrap (t14 + t46)) fun t49 =>
    letk (IntKind.i64.wrap ((1 : Int) + t46)) fun t52 =>
    letk (IntKind.i64.wrap (t14 + t52)) fun t53 =>
    Ref4.number.j0 s0 i1 t4_0_4 t4_1_4 t53 t49 (⟨#[114, 101, 97, 108]⟩)
  else
    Ref4.number.j0 s0 i1 t4_0_4 t4_1_4 t14 t14 (⟨#[105, 110, 116]⟩)

noncomputable def Ref4.number (s0 : ByteArray) (i1 : Int) : Option (api.Token × Int × Bool) :=
  Option.bind (Ref4.digits s0 i1) fun t14 =>
  letk (IntKind.i64.wrap (i1 + t14)) fun t19 =>
  Option.bind (Ref4.at_ s0 t19) fun t20 =>
  letk (t20 == (46 : Int)) fun t21 =>
  bif t21 then
    Option.bind (Ref4.words) fun t23 =>
    letk (IntKind.i64.wrap (i1 + t14)) fun t27 =>
    chk (0 ≤ t27 ∧ t27 ≤ (s0.size : Int)) <|
    letk (s0.extract t27.toNat s0.size) fun t28 =>
    Option.bind (Ref4.starts t23 t28) fun t29 =>
    letk (t29.toList == (⟨#[]⟩ : ByteArray).toList) fun t30 =>
    bif t30 then
      letk (IntKind.i64.wrap (i1 + t14)) fun t36 =>
      Option.bind (Ref4.stray s0 t36 t14) fun t38 =>
      letk (!t38) fun t39 =>
      Ref4.number.j4 s0 i1 t14 (⟨#[]⟩) (⟨#[]⟩) t39
    else
      Ref4.number.j4 s0 i1 t14 (⟨#[]⟩) (⟨#[]⟩) false
  else
    Ref4.number.j4 s0 i1 t14 (⟨#[]⟩) (⟨#[]⟩) false

theorem Ref4.number_ok {s0 : ByteArray} {i1 : Int} {r : api.Token × Int × Bool} (h0 : Ref4.number s0 i1 = some r) : Gives Tryz.prog 63 [.lit (.string s0), .lit (.int .i64 i1)] (.tup [api.Token.enc r.1, .lit (.int .i64 r.2.1), .lit (.bool r.2.2)]) := by
  unfold Ref4.number at h0
  refine ACalls.of_swp Tryz.func63 rfl (by decide) rfl (st0 := ⟨97, [(0, .lit (.string s0)), (1, .lit (.int .i64 i1))], []⟩) rfl (bwp_ok (C := [(0, 9), (0, 13), (0, 15), (95, 29), (50, 11)]) ?_)
  conv => whnf
  refine Nm.mk ⟨[.lit (.string (⟨#[]⟩)), .lit (.string (⟨#[]⟩))], rfl, ?_⟩
  obtain ⟨t14, et14, h1⟩ := bind_elim h0; clear h0
  conv => whnf
  refine Gate.go ?_
  conv => whnf
  refine CallN.by (v := .lit (.int .i64 t14)) (Ref4.digits_ok et14) rfl rfl ?_
  conv => whnf
  refine CutN.of (fun s => ∃ (t4_0 : ByteArray) (t4_1 : ByteArray) (n7 : Int) (many8 : Int) (kind9 : ByteArray), Ref4.number.j0 s0 i1 t4_0 t4_1 n7 many8 kind9 = some r ∧ s = (⟨97, [(0, .lit (.string s0)), (1, .lit (.int .i64 i1)), (4, .ptr 0 0), (7, .lit (.int .i64 n7)), (8, .lit (.int .i64 many8)), (9, .lit (.string kind9))], [.box [.lit (.string t4_0), .lit (.string t4_1)]]⟩ : St)) ?_ ?_
  · conv => whnf
    refine CutN.of (fun s => ∃ (t4_0_4 : ByteArray) (t4_1_4 : ByteArray) (t40 : Bool), Ref4.number.j4 s0 i1 t14 t4_0_4 t4_1_4 t40 = some r ∧ s = (⟨97, [(0, .lit (.string s0)), (1, .lit (.int .i64 i1)), (4, .ptr 0 0), (7, .lit (.int .i64 t14)), (8, .lit (.int .i64 t14)), (9, .lit (.string (⟨#[105, 110, 116]⟩))), (40, .lit (.bool t40))], [.box [.lit (.string t4_0_4), .lit (.string t4_1_4)]]⟩ : St)) ?_ ?_
    · conv => whnf
      refine DrawB.of Tryz_mixed rfl ?_
      conv => whnf
      refine DNodeB.of (.lit (.string s0)) ?_ ?_
      · conv => whnf
        rfl
      · conv => whnf
        refine DNodeB.of (.lit (.int .i64 i1)) ?_ ?_
        · conv => whnf
          rfl
        · conv => whnf
          refine DNodeB.of (.lit (.int .i64 t14)) ?_ ?_
          · conv => whnf
            rfl
          · obtain ⟨t19, et19, h2⟩ := letk_elim h1; clear h1
            conv => whnf
            refine DNodeB.of (.lit (.int .i64 t19)) ?_ ?_
            · conv => whnf
              refine Nm.mk ⟨t19, et19, ?_⟩
              conv => whnf
              rfl
            · obtain ⟨t20, et20, h3⟩ := bind_elim h2; clear h2
              conv => whnf
              refine DNodeB.of (.lit (.int .u8 t20)) ?_ ?_
              · conv => whnf
                refine CallN.by (v := .lit (.int .u8 t20)) (Ref4.at__ok et20) rfl rfl ?_
                conv => whnf
                rfl
              · obtain ⟨t21, et21, h4⟩ := letk_elim h3; clear h3
                conv => whnf
                refine DNodeB.of (.lit (.bool t21)) ?_ ?_
                · conv => whnf
                  refine Nm.mk ⟨t21, et21, ?_⟩
                  conv => whnf
                  rfl
                · conv => whnf
                  refine DNodeB.of (.lit (.bool t21)) ?_ ?_
                  · conv => whnf
                    rfl
                  · rcases t21 with _ | _
                    · have h5 := bif_f h4
                      clear h4
                      conv => whnf
                      refine DNodeB.of (.lit (.bool false)) ?_ ?_
                      · conv => whnf
                        rfl
                      · conv => whnf
                        refine DNodeB.of (.lit (.bool false)) ?_ ?_
                        · conv => whnf
                          rfl
                        · conv => whnf
                          refine DNodeB.of (.lit (.bool false)) ?_ ?_
                          · conv => whnf
                            rfl
                          · exact BackS.of (Sees.of (Weak.objs (keep := [0]) (frz := []) (m := 0) (ts := [(0, .lit (.string s0)), (1, .lit (.int .i64 i1)), (4, .ptr 0 0), (7, .lit (.int .i64 t14)), (8, .lit (.int .i64 t14)), (9, .lit (.string (⟨#[105, 110, 116]⟩))), (40, .lit (.bool false))]) (hs := [.box [.lit (.string ((⟨#[]⟩))), .lit (.string ((⟨#[]⟩)))]]) rfl (by decide) rfl rfl ⟨⟨_, rfl, WO.boxs ⟨(.same (.lit (.string (⟨#[]⟩))) rfl), (.same (.lit (.string (⟨#[]⟩))) rfl), trivial⟩⟩, ⟨rfl, fun _ h => by cases h⟩⟩ ⟨(.same (.lit (.string s0)) rfl), (.same (.lit (.int .i64 i1)) rfl), (.ptr _ _ 0 rfl), (.same (.lit (.int .i64 t14)) rfl), (.same (.lit (.int .i64 t14)) rfl), (.same (.lit (.string (⟨#[105, 110, 116]⟩))) rfl), (.same (.lit (.bool false)) rfl), trivial⟩)) ⟨_, _, _, h5, rfl⟩
                    · have h5 := bif_t h4
                      clear h4
                      obtain ⟨t23, et23, h6⟩ := bind_elim h5; clear h5
                      conv => whnf
                      refine DNodeB.of (.vs 1 (t23.map (eS))) ?_ ?_
                      · conv => whnf
                        refine CallN.by (v := .vs 1 (t23.map (eS))) (Ref4.words_ok et23) rfl rfl ?_
                        conv => whnf
                        rfl
                      · conv => whnf
                        refine DNodeB.of (.lit (.string s0)) ?_ ?_
                        · conv => whnf
                          rfl
                        · conv => whnf
                          refine DNodeB.of (.lit (.int .i64 i1)) ?_ ?_
                          · conv => whnf
                            rfl
                          · conv => whnf
                            refine DNodeB.of (.lit (.int .i64 t14)) ?_ ?_
                            · conv => whnf
                              rfl
                            · obtain ⟨t27, et27, h7⟩ := letk_elim h6; clear h6
                              conv => whnf
                              refine DNodeB.of (.lit (.int .i64 t27)) ?_ ?_
                              · conv => whnf
                                refine Nm.mk ⟨t27, et27, ?_⟩
                                conv => whnf
                                rfl
                              · obtain ⟨ch8, h8⟩ := chk_elim h7; clear h7
                                obtain ⟨t28, et28, h9⟩ := letk_elim h8; clear h8
                                conv => whnf
                                refine DNodeB.of (.lit (.string t28)) ?_ ?_
                                · conv => whnf
                                  refine Side.mk ch8 ?_
                                  conv => whnf
                                  refine Nm.mk ⟨t28, et28, ?_⟩
                                  conv => whnf
                                  rfl
                                · obtain ⟨t29, et29, h10⟩ := bind_elim h9; clear h9
                                  conv => whnf
                                  refine DNodeB.of (.lit (.string t29)) ?_ ?_
                                  · conv => whnf
                                    refine CallN.by (v := .lit (.string t29)) (Ref4.starts_ok et29) rfl rfl ?_
                                    conv => whnf
                                    rfl
                                  · obtain ⟨t30, et30, h11⟩ := letk_elim h10; clear h10
                                    conv => whnf
                                    refine DNodeB.of (.lit (.bool t30)) ?_ ?_
                                    · conv => whnf
                                      refine Nm.mk ⟨t30, et30, ?_⟩
                                      conv => whnf
                                      rfl
                                    · conv => whnf
                                      refine DNodeB.of (.lit (.bool t30)) ?_ ?_
                                      · conv => whnf
                                        rfl
                                      · conv => whnf
                                        refine DNodeB.of (.lit (.bool t30)) ?_ ?_
                                        · conv => whnf
                                          rfl
                                        · rcases t30 with _ | _
                                          · have h12 := bif_f h11
                                            clear h11
                                            conv => whnf
                                            refine DNodeB.of (.lit (.bool false)) ?_ ?_
                                            · conv => whnf
                                              rfl
                                            · exact BackS.of (Sees.of (Weak.objs (keep := [0]) (frz := []) (m := 0) (ts := [(0, .lit (.string s0)), (1, .lit (.int .i64 i1)), (4, .ptr 0 0), (7, .lit (.int .i64 t14)), (8, .lit (.int .i64 t14)), (9, .lit (.string (⟨#[105, 110, 116]⟩))), (40, .lit (.bool false))]) (hs := [.box [.lit (.string ((⟨#[]⟩))), .lit (.string ((⟨#[]⟩)))]]) rfl (by decide) rfl rfl ⟨⟨_, rfl, WO.boxs ⟨(.same (.lit (.string (⟨#[]⟩))) rfl), (.same (.lit (.string (⟨#[]⟩))) rfl), trivial⟩⟩, ⟨rfl, fun _ h => by cases h⟩⟩ ⟨(.same (.lit (.string s0)) rfl), (.same (.lit (.int .i64 i1)) rfl), (.ptr _ _ 0 rfl), (.same (.lit (.int .i64 t14)) rfl), (.same (.lit (.int .i64 t14)) rfl), (.same (.lit (.string (⟨#[105, 110, 116]⟩))) rfl), (.same (.lit (.bool false)) rfl), trivial⟩)) ⟨_, _, _, h12, rfl⟩
                                          · have h12 := bif_t h11
                                            clear h11
                                            conv => whnf
                                            refine DNodeB.of (.lit (.string s0)) ?_ ?_
                                            · conv => whnf
                                              rfl
                                            · conv => whnf
                                              refine DNodeB.of (.lit (.int .i64 i1)) ?_ ?_
                                              · conv => whnf
                                                rfl
                                              · conv => whnf
                                                refine DNodeB.of (.lit (.int .i64 t14)) ?_ ?_
                                                · conv => whnf
                                                  rfl
                                                · obtain ⟨t36, et36, h13⟩ := letk_elim h12; clear h12
                                                  conv => whnf
                                                  refine DNodeB.of (.lit (.int .i64 t36)) ?_ ?_
                                                  · conv => whnf
                                                    refine Nm.mk ⟨t36, et36, ?_⟩
                                                    conv => whnf
                                                    rfl
                                                  · conv => whnf
                                                    refine DNodeB.of (.lit (.int .i64 t14)) ?_ ?_
                                                    · conv => whnf
                                                      rfl
                                                    · obtain ⟨t38, et38, h14⟩ := bind_elim h13; clear h13
                                                      conv => whnf
                                                      refine DNodeB.of (.lit (.bool t38)) ?_ ?_
                                                      · conv => whnf
                                                        refine CallN.by (v := .lit (.bool t38)) (Ref4.stray_ok et38) rfl rfl ?_
                                                        conv => whnf
                                                        rfl
                                                      · obtain ⟨t39, et39, h15⟩ := letk_elim h14; clear h14
                                                        conv => whnf
                                                        refine DNodeB.of (.lit (.bool t39)) ?_ ?_
                                                        · conv => whnf
                                                          refine Nm.mk ⟨t39, et39, ?_⟩
                                                          conv => whnf
                                                          rfl
                                                        · conv => whnf
                                                          refine DNodeB.of (.lit (.bool t39)) ?_ ?_
                                                          · conv => whnf
                                                            rfl
                                                          · exact BackS.of (Sees.of (Weak.objs (keep := [0]) (frz := []) (m := 0) (ts := [(0, .lit (.string s0)), (1, .lit (.int .i64 i1)), (4, .ptr 0 0), (7, .lit (.int .i64 t14)), (8, .lit (.int .i64 t14)), (9, .lit (.string (⟨#[105, 110, 116]⟩))), (40, .lit (.bool t39))]) (hs := [.box [.lit (.string ((⟨#[]⟩))), .lit (.string ((⟨#[]⟩)))]]) rfl (by decide) rfl rfl ⟨⟨_, rfl, WO.boxs ⟨(.same (.lit (.string (⟨#[]⟩))) rfl), (.same (.lit (.string (⟨#[]⟩))) rfl), trivial⟩⟩, ⟨rfl, fun _ h => by cases h⟩⟩ ⟨(.same (.lit (.string s0)) rfl), (.same (.lit (.int .i64 i1)) rfl), (.ptr _ _ 0 rfl), (.same (.lit (.int .i64 t14)) rfl), (.same (.lit (.int .i64 t14)) rfl), (.same (.lit (.string (⟨#[105, 110, 116]⟩))) rfl), (.same (.lit (.bool t39)) rfl), trivial⟩)) ⟨_, _, _, h15, rfl⟩
    · clear h1
      rintro s ⟨t4_0_4, t4_1_4, t40, hj0, rfl⟩
      unfold Ref4.number.j4 at hj0
      rcases t40 with _ | _
      · have hj1 := bif_f hj0
        clear hj0
        exact BackS.of (Sees.of (Weak.objs (keep := [0]) (frz := []) (m := 0) (ts := [(0, .lit (.string s0)), (1, .lit (.int .i64 i1)), (4, .ptr 0 0), (7, .lit (.int .i64 t14)), (8, .lit (.int .i64 t14)), (9, .lit (.string ((⟨#[105, 110, 116]⟩))))]) (hs := [.box [.lit (.string t4_0_4), .lit (.string t4_1_4)]]) rfl (by decide) rfl rfl ⟨⟨_, rfl, WO.boxs ⟨(.same (.lit (.string t4_0_4)) rfl), (.same (.lit (.string t4_1_4)) rfl), trivial⟩⟩, ⟨rfl, fun _ h => by cases h⟩⟩ ⟨(.same (.lit (.string s0)) rfl), (.same (.lit (.int .i64 i1)) rfl), (.ptr _ _ 0 rfl), (.same (.lit (.int .i64 t14)) rfl), (.same (.lit (.int .i64 t14)) rfl), (.same (.lit (.string (⟨#[105, 110, 116]⟩))) rfl), trivial⟩)) ⟨_, _, _, _, _, hj1, rfl⟩
      · have hj1 := bif_t hj0
        clear hj0
        obtain ⟨t44, et44, hj2⟩ := letk_elim hj1; clear hj1
        conv => whnf
        refine Nm.mk ⟨t44, et44, ?_⟩
        obtain ⟨t45, et45, hj3⟩ := letk_elim hj2; clear hj2
        conv => whnf
        refine Nm.mk ⟨t45, et45, ?_⟩
        obtain ⟨t46, et46, hj4⟩ := bind_elim hj3; clear hj3
        conv => whnf
        refine Gate.go ?_
        conv => whnf
        refine CallN.by (v := .lit (.int .i64 t46)) (Ref4.digits_ok et46) rfl rfl ?_
        obtain ⟨t49, et49, hj5⟩ := letk_elim hj4; clear hj4
        conv => whnf
        refine Nm.mk ⟨t49, et49, ?_⟩
        obtain ⟨t52, et52, hj6⟩ := letk_elim hj5; clear hj5
        conv => whnf
        refine Nm.mk ⟨t52, et52, ?_⟩
        obtain ⟨t53, et53, hj7⟩ := letk_elim hj6; clear hj6
        conv => whnf
        refine Nm.mk ⟨t53, et53, ?_⟩
        exact BackS.of (Sees.of (Weak.objs (keep := [0]) (frz := []) (m := 0) (ts := [(0, .lit (.string s0)), (1, .lit (.int .i64 i1)), (4, .ptr 0 0), (7, .lit (.int .i64 t53)), (8, .lit (.int .i64 t49)), (9, .lit (.string ((⟨#[114, 101, 97, 108]⟩))))]) (hs := [.box [.lit (.string t4_0_4), .lit (.string t4_1_4)]]) rfl (by decide) rfl rfl ⟨⟨_, rfl, WO.boxs ⟨(.same (.lit (.string t4_0_4)) rfl), (.same (.lit (.string t4_1_4)) rfl), trivial⟩⟩, ⟨rfl, fun _ h => by cases h⟩⟩ ⟨(.same (.lit (.string s0)) rfl), (.same (.lit (.int .i64 i1)) rfl), (.ptr _ _ 0 rfl), (.same (.lit (.int .i64 t53)) rfl), (.same (.lit (.int .i64 t49)) rfl), (.same (.lit (.string (⟨#[114, 101, 97, 108]⟩))) rfl), trivial⟩)) ⟨_, _, _, _, _, hj7, rfl⟩
  · clear h1
    rintro s ⟨t4_0, t4_1, n7, many8, kind9, hj0, rfl⟩
    unfold Ref4.number.j0 at hj0
    conv => whnf
    refine CutN.of (fun s => ∃ (t4_0_1 : ByteArray) (t4_1_1 : ByteArray) (n7_1 : Int) (kind9_1 : ByteArray), Ref4.number.j1 s0 i1 many8 t4_0_1 t4_1_1 n7_1 kind9_1 = some r ∧ s = (⟨97, [(0, .lit (.string s0)), (1, .lit (.int .i64 i1)), (4, .ptr 0 0), (7, .lit (.int .i64 n7_1)), (8, .lit (.int .i64 many8)), (9, .lit (.string kind9_1))], [.box [.lit (.string t4_0_1), .lit (.string t4_1_1)]]⟩ : St)) ?_ ?_
    · obtain ⟨t57, et57, hj1⟩ := letk_elim hj0; clear hj0
      conv => whnf
      refine Nm.mk ⟨t57, et57, ?_⟩
      obtain ⟨t58, et58, hj2⟩ := bind_elim hj1; clear hj1
      conv => whnf
      refine Gate.go ?_
      conv => whnf
      refine CallN.by (v := .lit (.int .i64 t58)) (Ref4.power_ok et58) rfl rfl ?_
      obtain ⟨t60, et60, hj3⟩ := letk_elim hj2; clear hj2
      conv => whnf
      refine Nm.mk ⟨t60, et60, ?_⟩
      rcases t60 with _ | _
      · have hj4 := bif_f hj3
        clear hj3
        exact BackS.of (Sees.of (Weak.objs (keep := [0]) (frz := []) (m := 0) (ts := [(0, .lit (.string s0)), (1, .lit (.int .i64 i1)), (4, .ptr 0 0), (7, .lit (.int .i64 n7)), (8, .lit (.int .i64 many8)), (9, .lit (.string kind9))]) (hs := [.box [.lit (.string t4_0), .lit (.string t4_1)]]) rfl (by decide) rfl rfl ⟨⟨_, rfl, WO.boxs ⟨(.same (.lit (.string t4_0)) rfl), (.same (.lit (.string t4_1)) rfl), trivial⟩⟩, ⟨rfl, fun _ h => by cases h⟩⟩ ⟨(.same (.lit (.string s0)) rfl), (.same (.lit (.int .i64 i1)) rfl), (.ptr _ _ 0 rfl), (.same (.lit (.int .i64 n7)) rfl), (.same (.lit (.int .i64 many8)) rfl), (.same (.lit (.string kind9)) rfl), trivial⟩)) ⟨_, _, _, _, hj4, rfl⟩
      · have hj4 := bif_t hj3
        clear hj3
        obtain ⟨t63, et63, hj5⟩ := letk_elim hj4; clear hj4
        conv => whnf
        refine Nm.mk ⟨t63, et63, ?_⟩
        exact BackS.of (Sees.of (Weak.objs (keep := [0]) (frz := []) (m := 0) (ts := [(0, .lit (.string s0)), (1, .lit (.int .i64 i1)), (4, .ptr 0 0), (7, .lit (.int .i64 t63)), (8, .lit (.int .i64 many8)), (9, .lit (.string ((⟨#[114, 101, 97, 108]⟩))))]) (hs := [.box [.lit (.string t4_0), .lit (.string t4_1)]]) rfl (by decide) rfl rfl ⟨⟨_, rfl, WO.boxs ⟨(.same (.lit (.string t4_0)) rfl), (.same (.lit (.string t4_1)) rfl), trivial⟩⟩, ⟨rfl, fun _ h => by cases h⟩⟩ ⟨(.same (.lit (.string s0)) rfl), (.same (.lit (.int .i64 i1)) rfl), (.ptr _ _ 0 rfl), (.same (.lit (.int .i64 t63)) rfl), (.same (.lit (.int .i64 many8)) rfl), (.same (.lit (.string (⟨#[114, 101, 97, 108]⟩))) rfl), trivial⟩)) ⟨_, _, _, _, hj5, rfl⟩
    · clear hj0
      rintro s ⟨t4_0_1, t4_1_1, n7_1, kind9_1, hj0, rfl⟩
      unfold Ref4.number.j1 at hj0
      conv => whnf
      refine CutN.of (fun s => ∃ (t4_0_2 : ByteArray) (t4_1_2 : ByteArray), Ref4.number.j2 s0 i1 n7_1 kind9_1 t4_0_2 t4_1_2 = some r ∧ s = (⟨97, [(0, .lit (.string s0)), (1, .lit (.int .i64 i1)), (4, .ptr 0 0), (7, .lit (.int .i64 n7_1)), (9, .lit (.string kind9_1))], [.box [.lit (.string t4_0_2), .lit (.string t4_1_2)]]⟩ : St)) ?_ ?_
      · conv => whnf
        refine CutN.of (fun s => ∃ (t4_0_3 : ByteArray) (t4_1_3 : ByteArray) (t85 : Bool), Ref4.number.j3 s0 i1 n7_1 kind9_1 t4_0_3 t4_1_3 t85 = some r ∧ s = (⟨97, [(0, .lit (.string s0)), (1, .lit (.int .i64 i1)), (4, .ptr 0 0), (7, .lit (.int .i64 n7_1)), (9, .lit (.string kind9_1)), (85, .lit (.bool t85))], [.box [.lit (.string t4_0_3), .lit (.string t4_1_3)]]⟩ : St)) ?_ ?_
        · obtain ⟨t67, et67, hj1⟩ := letk_elim hj0; clear hj0
          conv => whnf
          refine Nm.mk ⟨t67, et67, ?_⟩
          obtain ⟨t68, et68, hj2⟩ := bind_elim hj1; clear hj1
          conv => whnf
          refine Gate.go ?_
          conv => whnf
          refine CallN.by (v := .lit (.int .u8 t68)) (Ref4.at__ok et68) rfl rfl ?_
          obtain ⟨t69, et69, hj3⟩ := bind_elim hj2; clear hj2
          conv => whnf
          refine Gate.go ?_
          conv => whnf
          refine CallN.by (v := .lit (.bool t69)) (Ref4.isInner_ok et69) rfl rfl ?_
          rcases t69 with _ | _
          · have hj4 := bif_f hj3
            clear hj3
            obtain ⟨t72, et72, hj5⟩ := letk_elim hj4; clear hj4
            conv => whnf
            refine Nm.mk ⟨t72, et72, ?_⟩
            rcases t72 with _ | _
            · have hj6 := bif_f hj5
              clear hj5
              obtain ⟨t80, et80, hj7⟩ := letk_elim hj6; clear hj6
              conv => whnf
              refine Nm.mk ⟨t80, et80, ?_⟩
              rcases t80 with _ | _
              · have hj8 := bif_f hj7
                clear hj7
                exact BackS.of (Sees.of (Weak.objs (keep := [0]) (frz := []) (m := 0) (ts := [(0, .lit (.string s0)), (1, .lit (.int .i64 i1)), (4, .ptr 0 0), (7, .lit (.int .i64 n7_1)), (9, .lit (.string kind9_1)), (85, .lit (.bool false))]) (hs := [.box [.lit (.string t4_0_1), .lit (.string t4_1_1)]]) rfl (by decide) rfl rfl ⟨⟨_, rfl, WO.boxs ⟨(.same (.lit (.string t4_0_1)) rfl), (.same (.lit (.string t4_1_1)) rfl), trivial⟩⟩, ⟨rfl, fun _ h => by cases h⟩⟩ ⟨(.same (.lit (.string s0)) rfl), (.same (.lit (.int .i64 i1)) rfl), (.ptr _ _ 0 rfl), (.same (.lit (.int .i64 n7_1)) rfl), (.same (.lit (.string kind9_1)) rfl), (.same (.lit (.bool false)) rfl), trivial⟩)) ⟨_, _, _, hj8, rfl⟩
              · have hj8 := bif_t hj7
                clear hj7
                obtain ⟨t83, et83, hj9⟩ := letk_elim hj8; clear hj8
                conv => whnf
                refine Nm.mk ⟨t83, et83, ?_⟩
                exact BackS.of (Sees.of (Weak.objs (keep := [0]) (frz := []) (m := 0) (ts := [(0, .lit (.string s0)), (1, .lit (.int .i64 i1)), (4, .ptr 0 0), (7, .lit (.int .i64 n7_1)), (9, .lit (.string kind9_1)), (85, .lit (.bool t83))]) (hs := [.box [.lit (.string t4_0_1), .lit (.string t4_1_1)]]) rfl (by decide) rfl rfl ⟨⟨_, rfl, WO.boxs ⟨(.same (.lit (.string t4_0_1)) rfl), (.same (.lit (.string t4_1_1)) rfl), trivial⟩⟩, ⟨rfl, fun _ h => by cases h⟩⟩ ⟨(.same (.lit (.string s0)) rfl), (.same (.lit (.int .i64 i1)) rfl), (.ptr _ _ 0 rfl), (.same (.lit (.int .i64 n7_1)) rfl), (.same (.lit (.string kind9_1)) rfl), (.same (.lit (.bool t83)) rfl), trivial⟩)) ⟨_, _, _, hj9, rfl⟩
            · have hj6 := bif_t hj5
              clear hj5
              obtain ⟨t75, et75, hj7⟩ := letk_elim hj6; clear hj6
              conv => whnf
              refine Nm.mk ⟨t75, et75, ?_⟩
              rcases t75 with _ | _
              · have hj8 := bif_f hj7
                clear hj7
                obtain ⟨t80_1, et80_1, hj9⟩ := letk_elim hj8; clear hj8
                conv => whnf
                refine Nm.mk ⟨t80_1, et80_1, ?_⟩
                rcases t80_1 with _ | _
                · have hj10 := bif_f hj9
                  clear hj9
                  exact BackS.of (Sees.of (Weak.objs (keep := [0]) (frz := []) (m := 0) (ts := [(0, .lit (.string s0)), (1, .lit (.int .i64 i1)), (4, .ptr 0 0), (7, .lit (.int .i64 n7_1)), (9, .lit (.string kind9_1)), (85, .lit (.bool false))]) (hs := [.box [.lit (.string t4_0_1), .lit (.string t4_1_1)]]) rfl (by decide) rfl rfl ⟨⟨_, rfl, WO.boxs ⟨(.same (.lit (.string t4_0_1)) rfl), (.same (.lit (.string t4_1_1)) rfl), trivial⟩⟩, ⟨rfl, fun _ h => by cases h⟩⟩ ⟨(.same (.lit (.string s0)) rfl), (.same (.lit (.int .i64 i1)) rfl), (.ptr _ _ 0 rfl), (.same (.lit (.int .i64 n7_1)) rfl), (.same (.lit (.string kind9_1)) rfl), (.same (.lit (.bool false)) rfl), trivial⟩)) ⟨_, _, _, hj10, rfl⟩
                · have hj10 := bif_t hj9
                  clear hj9
                  obtain ⟨t83_1, et83_1, hj11⟩ := letk_elim hj10; clear hj10
                  conv => whnf
                  refine Nm.mk ⟨t83_1, et83_1, ?_⟩
                  exact BackS.of (Sees.of (Weak.objs (keep := [0]) (frz := []) (m := 0) (ts := [(0, .lit (.string s0)), (1, .lit (.int .i64 i1)), (4, .ptr 0 0), (7, .lit (.int .i64 n7_1)), (9, .lit (.string kind9_1)), (85, .lit (.bool t83_1))]) (hs := [.box [.lit (.string t4_0_1), .lit (.string t4_1_1)]]) rfl (by decide) rfl rfl ⟨⟨_, rfl, WO.boxs ⟨(.same (.lit (.string t4_0_1)) rfl), (.same (.lit (.string t4_1_1)) rfl), trivial⟩⟩, ⟨rfl, fun _ h => by cases h⟩⟩ ⟨(.same (.lit (.string s0)) rfl), (.same (.lit (.int .i64 i1)) rfl), (.ptr _ _ 0 rfl), (.same (.lit (.int .i64 n7_1)) rfl), (.same (.lit (.string kind9_1)) rfl), (.same (.lit (.bool t83_1)) rfl), trivial⟩)) ⟨_, _, _, hj11, rfl⟩
              · have hj8 := bif_t hj7
                clear hj7
                exact BackS.of (Sees.of (Weak.objs (keep := [0]) (frz := []) (m := 0) (ts := [(0, .lit (.string s0)), (1, .lit (.int .i64 i1)), (4, .ptr 0 0), (7, .lit (.int .i64 n7_1)), (9, .lit (.string kind9_1)), (85, .lit (.bool true))]) (hs := [.box [.lit (.string t4_0_1), .lit (.string t4_1_1)]]) rfl (by decide) rfl rfl ⟨⟨_, rfl, WO.boxs ⟨(.same (.lit (.string t4_0_1)) rfl), (.same (.lit (.string t4_1_1)) rfl), trivial⟩⟩, ⟨rfl, fun _ h => by cases h⟩⟩ ⟨(.same (.lit (.string s0)) rfl), (.same (.lit (.int .i64 i1)) rfl), (.ptr _ _ 0 rfl), (.same (.lit (.int .i64 n7_1)) rfl), (.same (.lit (.string kind9_1)) rfl), (.same (.lit (.bool true)) rfl), trivial⟩)) ⟨_, _, _, hj8, rfl⟩
          · have hj4 := bif_t hj3
            clear hj3
            exact BackS.of (Sees.of (Weak.objs (keep := [0]) (frz := []) (m := 0) (ts := [(0, .lit (.string s0)), (1, .lit (.int .i64 i1)), (4, .ptr 0 0), (7, .lit (.int .i64 n7_1)), (9, .lit (.string kind9_1)), (85, .lit (.bool true))]) (hs := [.box [.lit (.string t4_0_1), .lit (.string t4_1_1)]]) rfl (by decide) rfl rfl ⟨⟨_, rfl, WO.boxs ⟨(.same (.lit (.string t4_0_1)) rfl), (.same (.lit (.string t4_1_1)) rfl), trivial⟩⟩, ⟨rfl, fun _ h => by cases h⟩⟩ ⟨(.same (.lit (.string s0)) rfl), (.same (.lit (.int .i64 i1)) rfl), (.ptr _ _ 0 rfl), (.same (.lit (.int .i64 n7_1)) rfl), (.same (.lit (.string kind9_1)) rfl), (.same (.lit (.bool true)) rfl), trivial⟩)) ⟨_, _, _, hj4, rfl⟩
        · clear hj0
          rintro s ⟨t4_0_3, t4_1_3, t85, hj0, rfl⟩
          unfold Ref4.number.j3 at hj0
          rcases t85 with _ | _
          · have hj1 := bif_f hj0
            clear hj0
            exact BackS.of (Sees.of (Weak.objs (keep := [0]) (frz := []) (m := 0) (ts := [(0, .lit (.string s0)), (1, .lit (.int .i64 i1)), (4, .ptr 0 0), (7, .lit (.int .i64 n7_1)), (9, .lit (.string kind9_1))]) (hs := [.box [.lit (.string t4_0_3), .lit (.string t4_1_3)]]) rfl (by decide) rfl rfl ⟨⟨_, rfl, WO.boxs ⟨(.same (.lit (.string t4_0_3)) rfl), (.same (.lit (.string t4_1_3)) rfl), trivial⟩⟩, ⟨rfl, fun _ h => by cases h⟩⟩ ⟨(.same (.lit (.string s0)) rfl), (.same (.lit (.int .i64 i1)) rfl), (.ptr _ _ 0 rfl), (.same (.lit (.int .i64 n7_1)) rfl), (.same (.lit (.string kind9_1)) rfl), trivial⟩)) ⟨_, _, hj1, rfl⟩
          · have hj1 := bif_t hj0
            clear hj0
            conv => whnf
            refine Gate.go ?_
            conv => whnf
            refine Nm.mk ⟨[.lit (.string (⟨#[]⟩)), .lit (.string (⟨#[]⟩))], rfl, ?_⟩
            conv => whnf
            refine Nm.mk ⟨[.lit (.string (⟨#[]⟩)), .lit (.string (⟨#[]⟩))], rfl, ?_⟩
            have ehj1_0 := Option.some.inj hj1
            subst ehj1_0
            conv => whnf
            exact Returns.pure (r := .tup [api.Token.enc ((⟨⟨#[]⟩, ⟨#[]⟩⟩ : api.Token)), .lit (.int .i64 0), .lit (.bool false)]) rfl rfl rfl rfl ⟨rfl, rfl⟩
      · clear hj0
        rintro s ⟨t4_0_2, t4_1_2, hj0, rfl⟩
        unfold Ref4.number.j2 at hj0
        obtain ⟨t92, et92, hj1⟩ := letk_elim hj0; clear hj0
        conv => whnf
        refine Nm.mk ⟨t92, et92, ?_⟩
        obtain ⟨chj2, hj2⟩ := chk_elim hj1; clear hj1
        obtain ⟨t93, et93, hj3⟩ := letk_elim hj2; clear hj2
        conv => whnf
        refine Side.mk chj2 ?_
        conv => whnf
        refine Nm.mk ⟨t93, et93, ?_⟩
        obtain ⟨t94, et94, hj4⟩ := bind_elim hj3; clear hj3
        conv => whnf
        refine Gate.go ?_
        conv => whnf
        refine CallN.by (v := .lit (.string t94)) (Ref4.Lower_ok et94) rfl rfl ?_
        conv => whnf
        refine Gate.go ?_
        conv => whnf
        refine Nm.mk ⟨[.lit (.string kind9_1), .lit (.string t94)], rfl, ?_⟩
        conv => whnf
        refine Nm.mk ⟨[.lit (.string kind9_1), .lit (.string t94)], rfl, ?_⟩
        have ehj4_0 := Option.some.inj hj4
        subst ehj4_0
        conv => whnf
        exact Returns.pure (r := .tup [api.Token.enc ((⟨kind9_1, t94⟩ : api.Token)), .lit (.int .i64 n7_1), .lit (.bool true)]) rfl rfl rfl rfl ⟨rfl, rfl⟩

noncomputable def Ref4.quoted.s0 (s0 : ByteArray) (i1 : Int) (out7 : ByteArray) (k8 : Int) : Option ((ByteArray × Int) ⊕ (ByteArray × Int × Bool)) :=
  letk ((s0.size : Int)) fun t13 =>
  letk (decide (k8 < t13)) fun t14 =>
  bif t14 then
    chk (0 ≤ k8 ∧ k8 < (s0.size : Int)) <|
    letk (bt s0 k8) fun t19 =>
    chk (0 ≤ i1 ∧ i1 < (s0.size : Int)) <|
    letk (bt s0 i1) fun t22 =>
    letk (t19 != t22) fun t23 =>
    bif t23 then
      letk (IntKind.i64.wrap (k8 + (1 : Int))) fun t28 =>
      chk (0 ≤ k8 ∧ k8 ≤ t28 ∧ t28 ≤ (s0.size : Int)) <|
      letk (s0.extract k8.toNat t28.toNat) fun t29 =>
      chk (((out7.size + t29.size : Nat) : Int) ≤ 9223372036854775807) <|
      letk (out7 ++ t29) fun t30 =>
      letk (IntKind.i64.wrap (k8 + (1 : Int))) fun t16_1 =>
      some (.inl (t30, t16_1))
    else
      letk (IntKind.i64.wrap (k8 + (1 : Int))) fun t33 =>
      Option.bind (Ref4.at_ s0 t33) fun t34 =>
      chk (0 ≤ i1 ∧ i1 < (s0.size : Int)) <|
      letk (bt s0 i1) fun t37 =>
      letk (t34 != t37) fun t38 =>
      bif t38 then
        letk (IntKind.i64.wrap (k8 + (1 : Int))) fun t41 =>
        letk (IntKind.i64.wrap (t41 - i1)) fun t43 =>
        some (.inr (out7, t43, true))
      else
        letk (IntKind.i64.wrap (k8 + (1 : Int))) fun t48 =>
        chk (0 ≤ k8 ∧ k8 ≤ t48 ∧ t48 ≤ (s0.size : Int)) <|
        letk (s0.extract k8.toNat t48.toNat) fun t49 =>
        chk (((out7.size + t49.size : Nat) : Int) ≤ 9223372036854775807) <|
        letk (out7 ++ t49) fun t50 =>
        letk (IntKind.i64.wrap (k8 + (1 : Int))) fun t52 =>
        letk (IntKind.i64.wrap (t52 + (1 : Int))) fun t16 =>
        some (.inl (t50, t16))
  else
    some (.inr (⟨#[]⟩, 0, false))

noncomputable def Ref4.quoted.l0 (s0 : ByteArray) (i1 : Int) (out7 : ByteArray) (k8 : Int) : Option (ByteArray × Int × Bool) := loopO (fun v : ByteArray × Int => Ref4.quoted.s0 s0 i1 v.1 v.2) (out7, k8)
theorem Ref4.quoted.l0_eq (s0 : ByteArray) (i1 : Int) (out7 : ByteArray) (k8 : Int) : Ref4.quoted.l0 s0 i1 out7 k8 = (Ref4.quoted.s0 s0 i1 out7 k8).bind (Sum.elim (fun v => Ref4.quoted.l0 s0 i1 v.1 v.2) some) := loopO_eq _ _

noncomputable def Ref4.quoted (s0 : ByteArray) (i1 : Int) : Option (ByteArray × Int × Bool) :=
  letk (IntKind.i64.wrap (i1 + (1 : Int))) fun t10 =>
  Ref4.quoted.l0 s0 i1 (⟨#[]⟩) t10

theorem Ref4.quoted_ok {s0 : ByteArray} {i1 : Int} {r : ByteArray × Int × Bool} (h0 : Ref4.quoted s0 i1 = some r) : Gives Tryz.prog 64 [.lit (.string s0), .lit (.int .i64 i1)] (.tup [.lit (.string r.1), .lit (.int .i64 r.2.1), .lit (.bool r.2.2)]) := by
  unfold Ref4.quoted at h0
  refine ACalls.of_swp Tryz.func64 rfl (by decide) rfl (st0 := ⟨53, [(0, .lit (.string s0)), (1, .lit (.int .i64 i1))], []⟩) rfl (bwp_ok (C := []) ?_)
  obtain ⟨t10, et10, h1⟩ := letk_elim h0; clear h0
  conv => whnf
  refine Nm.mk ⟨t10, et10, ?_⟩
  conv => whnf
  unfold Ref4.quoted.l0 at h1
  refine LoopB.of (σ := ByteArray × Int) (ρ := ByteArray × Int × Bool) (fun v : ByteArray × Int => Ref4.quoted.s0 s0 i1 v.1 v.2) (fun v => (⟨53, [(0, .lit (.string s0)), (1, .lit (.int .i64 i1)), (7, .lit (.string v.1)), (8, .lit (.int .i64 v.2))], []⟩ : St)) (⟨#[]⟩, t10) h1 (BackS.of (Sees.of (Weak.objs (keep := []) (frz := []) (m := 0) (ts := [(0, .lit (.string s0)), (1, .lit (.int .i64 i1)), (7, .lit (.string ((⟨#[]⟩)))), (8, .lit (.int .i64 t10))]) (hs := []) rfl (by decide) rfl rfl ⟨rfl, fun _ h => by cases h⟩ ⟨(.same (.lit (.string s0)) rfl), (.same (.lit (.int .i64 i1)) rfl), (.same (.lit (.string (⟨#[]⟩))) rfl), (.same (.lit (.int .i64 t10)) rfl), trivial⟩)) rfl) ?_
  clear h1
  rintro K1 ⟨out7, k8⟩ x1 hs0_0 hl1 hr1
  replace hs0_0 : Ref4.quoted.s0 s0 i1 out7 k8 = some x1 := hs0_0
  unfold Ref4.quoted.s0 at hs0_0
  change bwp _ _ _ _ _ (⟨53, [(0, .lit (.string s0)), (1, .lit (.int .i64 i1)), (7, .lit (.string out7)), (8, .lit (.int .i64 k8))], []⟩ : St)
  obtain ⟨t13, et13, hs0_1⟩ := letk_elim hs0_0; clear hs0_0
  conv => whnf
  refine Nm.mk ⟨t13, et13, ?_⟩
  obtain ⟨t14, et14, hs0_2⟩ := letk_elim hs0_1; clear hs0_1
  conv => whnf
  refine Nm.mk ⟨t14, et14, ?_⟩
  rcases t14 with _ | _
  · have hs0_3 := bif_f hs0_2
    clear hs0_2
    have ehs0_3u_0 := hr1 _ (Option.some.inj hs0_3).symm
    have hs0_3u := congrArg some ehs0_3u_0
    have ehs0_3u_0 := Option.some.inj hs0_3u
    subst ehs0_3u_0
    conv => whnf
    exact Returns.pure (r := .tup [.lit (.string (⟨#[]⟩)), .lit (.int .i64 0), .lit (.bool false)]) rfl rfl rfl rfl ⟨rfl, rfl⟩
  · have hs0_3 := bif_t hs0_2
    clear hs0_2
    conv => whnf
    refine DrawB.of Tryz_mixed rfl ?_
    conv => whnf
    refine DNodeB.of (.lit (.string s0)) ?_ ?_
    · conv => whnf
      rfl
    · conv => whnf
      refine DNodeB.of (.lit (.int .i64 k8)) ?_ ?_
      · conv => whnf
        rfl
      · obtain ⟨chs0_4, hs0_4⟩ := chk_elim hs0_3; clear hs0_3
        obtain ⟨t19, et19, hs0_5⟩ := letk_elim hs0_4; clear hs0_4
        conv => whnf
        refine DNodeB.of (.lit (.int .u8 t19)) ?_ ?_
        · conv => whnf
          refine Side.mk chs0_4 ?_
          conv => whnf
          refine Nm.mk ⟨t19, et19, ?_⟩
          conv => whnf
          rfl
        · conv => whnf
          refine DNodeB.of (.lit (.string s0)) ?_ ?_
          · conv => whnf
            rfl
          · conv => whnf
            refine DNodeB.of (.lit (.int .i64 i1)) ?_ ?_
            · conv => whnf
              rfl
            · obtain ⟨chs0_6, hs0_6⟩ := chk_elim hs0_5; clear hs0_5
              obtain ⟨t22, et22, hs0_7⟩ := letk_elim hs0_6; clear hs0_6
              conv => whnf
              refine DNodeB.of (.lit (.int .u8 t22)) ?_ ?_
              · conv => whnf
                refine Side.mk chs0_6 ?_
                conv => whnf
                refine Nm.mk ⟨t22, et22, ?_⟩
                conv => whnf
                rfl
              · obtain ⟨t23, et23, hs0_8⟩ := letk_elim hs0_7; clear hs0_7
                conv => whnf
                refine DNodeB.of (.lit (.bool t23)) ?_ ?_
                · conv => whnf
                  refine Nm.mk ⟨t23, et23, ?_⟩
                  conv => whnf
                  rfl
                · rcases t23 with _ | _
                  · have hs0_9 := bif_f hs0_8
                    clear hs0_8
                    conv => whnf
                    refine DrawB.of Tryz_mixed rfl ?_
                    conv => whnf
                    refine DNodeB.of (.lit (.string s0)) ?_ ?_
                    · conv => whnf
                      rfl
                    · conv => whnf
                      refine DNodeB.of (.lit (.int .i64 k8)) ?_ ?_
                      · conv => whnf
                        rfl
                      · obtain ⟨t33, et33, hs0_10⟩ := letk_elim hs0_9; clear hs0_9
                        conv => whnf
                        refine DNodeB.of (.lit (.int .i64 t33)) ?_ ?_
                        · conv => whnf
                          refine Nm.mk ⟨t33, et33, ?_⟩
                          conv => whnf
                          rfl
                        · obtain ⟨t34, et34, hs0_11⟩ := bind_elim hs0_10; clear hs0_10
                          conv => whnf
                          refine DNodeB.of (.lit (.int .u8 t34)) ?_ ?_
                          · conv => whnf
                            refine CallN.by (v := .lit (.int .u8 t34)) (Ref4.at__ok et34) rfl rfl ?_
                            conv => whnf
                            rfl
                          · conv => whnf
                            refine DNodeB.of (.lit (.string s0)) ?_ ?_
                            · conv => whnf
                              rfl
                            · conv => whnf
                              refine DNodeB.of (.lit (.int .i64 i1)) ?_ ?_
                              · conv => whnf
                                rfl
                              · obtain ⟨chs0_12, hs0_12⟩ := chk_elim hs0_11; clear hs0_11
                                obtain ⟨t37, et37, hs0_13⟩ := letk_elim hs0_12; clear hs0_12
                                conv => whnf
                                refine DNodeB.of (.lit (.int .u8 t37)) ?_ ?_
                                · conv => whnf
                                  refine Side.mk chs0_12 ?_
                                  conv => whnf
                                  refine Nm.mk ⟨t37, et37, ?_⟩
                                  conv => whnf
                                  rfl
                                · obtain ⟨t38, et38, hs0_14⟩ := letk_elim hs0_13; clear hs0_13
                                  conv => whnf
                                  refine DNodeB.of (.lit (.bool t38)) ?_ ?_
                                  · conv => whnf
                                    refine Nm.mk ⟨t38, et38, ?_⟩
                                    conv => whnf
                                    rfl
                                  · rcases t38 with _ | _
                                    · have hs0_15 := bif_f hs0_14
                                      clear hs0_14
                                      obtain ⟨t48, et48, hs0_16⟩ := letk_elim hs0_15; clear hs0_15
                                      conv => whnf
                                      refine Nm.mk ⟨t48, et48, ?_⟩
                                      obtain ⟨chs0_17, hs0_17⟩ := chk_elim hs0_16; clear hs0_16
                                      obtain ⟨t49, et49, hs0_18⟩ := letk_elim hs0_17; clear hs0_17
                                      conv => whnf
                                      refine Side.mk chs0_17 ?_
                                      conv => whnf
                                      refine Nm.mk ⟨t49, et49, ?_⟩
                                      obtain ⟨chs0_19, hs0_19⟩ := chk_elim hs0_18; clear hs0_18
                                      obtain ⟨t50, et50, hs0_20⟩ := letk_elim hs0_19; clear hs0_19
                                      conv => whnf
                                      refine Side.mk chs0_19 ?_
                                      conv => whnf
                                      refine Nm.mk ⟨t50, et50, ?_⟩
                                      obtain ⟨t52, et52, hs0_21⟩ := letk_elim hs0_20; clear hs0_20
                                      conv => whnf
                                      refine Nm.mk ⟨t52, et52, ?_⟩
                                      obtain ⟨t16, et16, hs0_22⟩ := letk_elim hs0_21; clear hs0_21
                                      conv => whnf
                                      refine Nm.mk ⟨t16, et16, ?_⟩
                                      exact BackS.of (Sees.of (Weak.objs (keep := []) (frz := []) (m := 0) (ts := [(0, .lit (.string s0)), (1, .lit (.int .i64 i1)), (7, .lit (.string t50)), (8, .lit (.int .i64 t16))]) (hs := []) rfl (by decide) rfl rfl ⟨rfl, fun _ h => by cases h⟩ ⟨(.same (.lit (.string s0)) rfl), (.same (.lit (.int .i64 i1)) rfl), (.same (.lit (.string t50)) rfl), (.same (.lit (.int .i64 t16)) rfl), trivial⟩)) ⟨_, hl1 _ (Option.some.inj hs0_22).symm, rfl⟩
                                    · have hs0_15 := bif_t hs0_14
                                      clear hs0_14
                                      obtain ⟨t41, et41, hs0_16⟩ := letk_elim hs0_15; clear hs0_15
                                      conv => whnf
                                      refine Nm.mk ⟨t41, et41, ?_⟩
                                      obtain ⟨t43, et43, hs0_17⟩ := letk_elim hs0_16; clear hs0_16
                                      conv => whnf
                                      refine Nm.mk ⟨t43, et43, ?_⟩
                                      have ehs0_17_0 := hr1 _ (Option.some.inj hs0_17).symm
                                      subst ehs0_17_0
                                      conv => whnf
                                      exact Returns.pure (r := .tup [.lit (.string out7), .lit (.int .i64 t43), .lit (.bool true)]) rfl rfl rfl rfl ⟨rfl, rfl⟩
                  · have hs0_9 := bif_t hs0_8
                    clear hs0_8
                    obtain ⟨t28, et28, hs0_10⟩ := letk_elim hs0_9; clear hs0_9
                    conv => whnf
                    refine Nm.mk ⟨t28, et28, ?_⟩
                    obtain ⟨chs0_11, hs0_11⟩ := chk_elim hs0_10; clear hs0_10
                    obtain ⟨t29, et29, hs0_12⟩ := letk_elim hs0_11; clear hs0_11
                    conv => whnf
                    refine Side.mk chs0_11 ?_
                    conv => whnf
                    refine Nm.mk ⟨t29, et29, ?_⟩
                    obtain ⟨chs0_13, hs0_13⟩ := chk_elim hs0_12; clear hs0_12
                    obtain ⟨t30, et30, hs0_14⟩ := letk_elim hs0_13; clear hs0_13
                    conv => whnf
                    refine Side.mk chs0_13 ?_
                    conv => whnf
                    refine Nm.mk ⟨t30, et30, ?_⟩
                    obtain ⟨t16_1, et16_1, hs0_15⟩ := letk_elim hs0_14; clear hs0_14
                    conv => whnf
                    refine Nm.mk ⟨t16_1, et16_1, ?_⟩
                    exact BackS.of (Sees.of (Weak.objs (keep := []) (frz := []) (m := 0) (ts := [(0, .lit (.string s0)), (1, .lit (.int .i64 i1)), (7, .lit (.string t30)), (8, .lit (.int .i64 t16_1))]) (hs := []) rfl (by decide) rfl rfl ⟨rfl, fun _ h => by cases h⟩ ⟨(.same (.lit (.string s0)) rfl), (.same (.lit (.int .i64 i1)) rfl), (.same (.lit (.string t30)) rfl), (.same (.lit (.int .i64 t16_1)) rfl), trivial⟩)) ⟨_, hl1 _ (Option.some.inj hs0_15).symm, rfl⟩

noncomputable def Ref4.next_.j0 (s0 : ByteArray) (i1 : Int) (t4_0 : ByteArray) (t4_1 : ByteArray) : Option (api.Token × Int × Bool) :=
  Option.bind (Ref4.ops) fun t99 =>
  chk (0 ≤ i1 ∧ i1 ≤ (s0.size : Int)) <|
  letk (s0.extract i1.toNat s0.size) fun t102 =>
  Option.bind (Ref4.starts t99 t102) fun t103 =>
  letk ((t103.size : Int)) fun t107 =>
  letk (!(t103.toList == (⟨#[]⟩ : ByteArray).toList)) fun t109 =>
  some ((⟨⟨#[111, 112]⟩, t103⟩ : api.Token), t107, t109)

noncomputable def Ref4.next_.j3 (t4_0_1 : ByteArray) (t4_1_1 : ByteArray) (t85 : ByteArray) (kind13 : ByteArray) : Option (api.Token × Int × Bool) :=
  letk ((t85.size : Int)) fun t96 =>
  letk (!(t85.toList == (⟨#[]⟩ : ByteArray).toList)) fun t98 =>
  some ((⟨kind13, t85⟩ : api.Token), t96, t98)

noncomputable def Ref4.next_.j2 (s0 : ByteArray) (i1 : Int) (t17 : Int) (t4_0_1 : ByteArray) (t4_1_1 : ByteArray) (t60 : Bool) : Option (api.Token × Int × Bool) :=
  bif t60 then
    Option.bind (Ref4.quoted s0 i1) fun (t70_0, t70_1, t70_2) =>
    some ((⟨⟨#[116, 101, 120, 116]⟩, t70_0⟩ : api.Token), t70_1, t70_2)
  else
    letk (t17 == (46 : Int)) fun t80 =>
    bif t80 then
      Option.bind (Ref4.words) fun t81 =>
      chk (0 ≤ i1 ∧ i1 ≤ (s0.size : Int)) <|
      letk (s0.extract i1.toNat s0.size) fun t84 =>
      Option.bind (Ref4.starts t81 t84) fun t85 =>
      letk (t85.toList == (⟨#[46, 116, 114, 117, 101, 46]⟩ : ByteArray).toList) fun t87 =>
      bif t87 then
        Ref4.next_.j3 t4_0_1 t4_1_1 t85 (⟨#[108, 111, 103, 105, 99, 97, 108]⟩)
      else
        letk (t85.toList == (⟨#[46, 102, 97, 108, 115, 101, 46]⟩ : ByteArray).toList) fun t90 =>
        bif t90 then
          Ref4.next_.j3 t4_0_1 t4_1_1 t85 (⟨#[108, 111, 103, 105, 99, 97, 108]⟩)
        else
          Ref4.next_.j3 t4_0_1 t4_1_1 t85 (⟨#[111, 112]⟩)
    else
      Ref4.next_.j0 s0 i1 t4_0_1 t4_1_1

noncomputable def Ref4.next_.j1 (s0 : ByteArray) (i1 : Int) (t17 : Int) (t4_0_1 : ByteArray) (t4_1_1 : ByteArray) (t40 : Bool) : Option (api.Token × Int × Bool) :=
  bif t40 then
    Option.bind (Ref4.number s0 i1) fun (t56_0, t56_1, t56_2) =>
    some ((⟨t56_0.Kind, t56_0.Text⟩ : api.Token), t56_1, t56_2)
  else
    letk (t17 == (39 : Int)) fun t62 =>
    bif t62 then
      Ref4.next_.j2 s0 i1 t17 t4_0_1 t4_1_1 true
    else
      letk (t17 == (34 : Int)) fun t65 =>
      Ref4.next_.j2 s0 i1 t17 t4_0_1 t4_1_1 t65

noncomputable def Ref4.next_.s0 (s0 : ByteArray) (i1 : Int) (t4_0_2 : ByteArray) (t4_1_2 : ByteArray) (n8 : Int) : Option ((ByteArray × ByteArray × Int) ⊕ (api.Token × Int × Bool)) :=
  letk (IntKind.i64.wrap (i1 + n8)) fun t24 =>
  Option.bind (Ref4.at_ s0 t24) fun t25 =>
  Option.bind (Ref4.isInner t25) fun t26 =>
  bif t26 then
    letk (IntKind.i64.wrap (n8 + (1 : Int))) fun t28 =>
    some (.inl (t4_0_2, t4_1_2, t28))
  else
    ((
    letk (IntKind.i64.wrap (i1 + n8)) fun t33 =>
    chk (0 ≤ i1 ∧ i1 ≤ t33 ∧ t33 ≤ (s0.size : Int)) <|
    letk (s0.extract i1.toNat t33.toNat) fun t34 =>
    Option.bind (Ref4.Lower t34) fun t35 =>
    letk (decide (n8 ≤ (12 : Int))) fun t39 =>
    some ((⟨⟨#[110, 97, 109, 101]⟩, t35⟩ : api.Token), n8, t39))).map .inr

noncomputable def Ref4.next_.l0 (s0 : ByteArray) (i1 : Int) (t4_0_2 : ByteArray) (t4_1_2 : ByteArray) (n8 : Int) : Option (api.Token × Int × Bool) := loopO (fun v : ByteArray × ByteArray × Int => Ref4.next_.s0 s0 i1 v.1 v.2.1 v.2.2) (t4_0_2, t4_1_2, n8)
theorem Ref4.next_.l0_eq (s0 : ByteArray) (i1 : Int) (t4_0_2 : ByteArray) (t4_1_2 : ByteArray) (n8 : Int) : Ref4.next_.l0 s0 i1 t4_0_2 t4_1_2 n8 = (Ref4.next_.s0 s0 i1 t4_0_2 t4_1_2 n8).bind (Sum.elim (fun v => Ref4.next_.l0 s0 i1 v.1 v.2.1 v.2.2) some) := loopO_eq _ _

noncomputable def Ref4.next_ (s0 : ByteArray) (i1 : Int) : Option (api.Token × Int × Bool) :=
  chk (0 ≤ i1 ∧ i1 < (s0.size : Int)) <|
  letk (bt s0 i1) fun t17 =>
  Option.bind (Ref4.isLetter t17) fun t20 =>
  bif t20 then
    Ref4.next_.l0 s0 i1 (⟨#[]⟩) (⟨#[]⟩) 0
  else
    Option.bind (Ref4.isDigit t17) fun t42 =>
    bif t42 then
      Ref4.next_.j1 s0 i1 t17 (⟨#[]⟩) (⟨#[]⟩) true
    else
      letk (t17 == (46 : Int)) fun t45 =>
      bif t45 then
        letk (IntKind.i64.wrap (i1 + (1 : Int))) fun t49 =>
        Option.bind (Ref4.at_ s0 t49) fun t50 =>
        Option.bind (Ref4.isDigit t50) fun t51 =>
        Ref4.next_.j1 s0 i1 t17 (⟨#[]⟩) (⟨#[]⟩) t51
      else
        Ref4.next_.j1 s0 i1 t17 (⟨#[]⟩) (⟨#[]⟩) false

theorem Ref4.next__ok {s0 : ByteArray} {i1 : Int} {r : api.Token × Int × Bool} (h0 : Ref4.next_ s0 i1 = some r) : Gives Tryz.prog 41 [.lit (.string s0), .lit (.int .i64 i1)] (.tup [api.Token.enc r.1, .lit (.int .i64 r.2.1), .lit (.bool r.2.2)]) := by
  unfold Ref4.next_ at h0
  refine ACalls.of_swp Tryz.func41 rfl (by decide) rfl (st0 := ⟨110, [(0, .lit (.string s0)), (1, .lit (.int .i64 i1))], []⟩) rfl (bwp_ok (C := [(0, 18), (50, 17), (70, 21), (0, 17)]) ?_)
  conv => whnf
  refine Nm.mk ⟨[.lit (.string (⟨#[]⟩)), .lit (.string (⟨#[]⟩))], rfl, ?_⟩
  obtain ⟨ch1, h1⟩ := chk_elim h0; clear h0
  obtain ⟨t17, et17, h2⟩ := letk_elim h1; clear h1
  conv => whnf
  refine Side.mk ch1 ?_
  conv => whnf
  refine Nm.mk ⟨t17, et17, ?_⟩
  conv => whnf
  refine CutN.of (fun s => ∃ (t4_0 : ByteArray) (t4_1 : ByteArray), Ref4.next_.j0 s0 i1 t4_0 t4_1 = some r ∧ s = (⟨110, [(0, .lit (.string s0)), (1, .lit (.int .i64 i1)), (4, .ptr 0 0)], [.box [.lit (.string t4_0), .lit (.string t4_1)]]⟩ : St)) ?_ ?_
  · obtain ⟨t20, et20, h3⟩ := bind_elim h2; clear h2
    conv => whnf
    refine Gate.go ?_
    conv => whnf
    refine CallN.by (v := .lit (.bool t20)) (Ref4.isLetter_ok et20) rfl rfl ?_
    rcases t20 with _ | _
    · have h4 := bif_f h3
      clear h3
      conv => whnf
      refine CutN.of (fun s => ∃ (t4_0_1 : ByteArray) (t4_1_1 : ByteArray) (t40 : Bool), Ref4.next_.j1 s0 i1 t17 t4_0_1 t4_1_1 t40 = some r ∧ s = (⟨110, [(0, .lit (.string s0)), (1, .lit (.int .i64 i1)), (4, .ptr 0 0), (7, .lit (.int .u8 t17)), (40, .lit (.bool t40))], [.box [.lit (.string t4_0_1), .lit (.string t4_1_1)]]⟩ : St)) ?_ ?_
      · obtain ⟨t42, et42, h5⟩ := bind_elim h4; clear h4
        conv => whnf
        refine Gate.go ?_
        conv => whnf
        refine CallN.by (v := .lit (.bool t42)) (Ref4.isDigit_ok et42) rfl rfl ?_
        rcases t42 with _ | _
        · have h6 := bif_f h5
          clear h5
          obtain ⟨t45, et45, h7⟩ := letk_elim h6; clear h6
          conv => whnf
          refine Nm.mk ⟨t45, et45, ?_⟩
          rcases t45 with _ | _
          · have h8 := bif_f h7
            clear h7
            exact BackS.of (Sees.of (Weak.objs (keep := [0]) (frz := []) (m := 0) (ts := [(0, .lit (.string s0)), (1, .lit (.int .i64 i1)), (4, .ptr 0 0), (7, .lit (.int .u8 t17)), (40, .lit (.bool false))]) (hs := [.box [.lit (.string ((⟨#[]⟩))), .lit (.string ((⟨#[]⟩)))]]) rfl (by decide) rfl rfl ⟨⟨_, rfl, WO.boxs ⟨(.same (.lit (.string (⟨#[]⟩))) rfl), (.same (.lit (.string (⟨#[]⟩))) rfl), trivial⟩⟩, ⟨rfl, fun _ h => by cases h⟩⟩ ⟨(.same (.lit (.string s0)) rfl), (.same (.lit (.int .i64 i1)) rfl), (.ptr _ _ 0 rfl), (.same (.lit (.int .u8 t17)) rfl), (.same (.lit (.bool false)) rfl), trivial⟩)) ⟨_, _, _, h8, rfl⟩
          · have h8 := bif_t h7
            clear h7
            obtain ⟨t49, et49, h9⟩ := letk_elim h8; clear h8
            conv => whnf
            refine Nm.mk ⟨t49, et49, ?_⟩
            obtain ⟨t50, et50, h10⟩ := bind_elim h9; clear h9
            conv => whnf
            refine Gate.go ?_
            conv => whnf
            refine CallN.by (v := .lit (.int .u8 t50)) (Ref4.at__ok et50) rfl rfl ?_
            obtain ⟨t51, et51, h11⟩ := bind_elim h10; clear h10
            conv => whnf
            refine Gate.go ?_
            conv => whnf
            refine CallN.by (v := .lit (.bool t51)) (Ref4.isDigit_ok et51) rfl rfl ?_
            exact BackS.of (Sees.of (Weak.objs (keep := [0]) (frz := []) (m := 0) (ts := [(0, .lit (.string s0)), (1, .lit (.int .i64 i1)), (4, .ptr 0 0), (7, .lit (.int .u8 t17)), (40, .lit (.bool t51))]) (hs := [.box [.lit (.string ((⟨#[]⟩))), .lit (.string ((⟨#[]⟩)))]]) rfl (by decide) rfl rfl ⟨⟨_, rfl, WO.boxs ⟨(.same (.lit (.string (⟨#[]⟩))) rfl), (.same (.lit (.string (⟨#[]⟩))) rfl), trivial⟩⟩, ⟨rfl, fun _ h => by cases h⟩⟩ ⟨(.same (.lit (.string s0)) rfl), (.same (.lit (.int .i64 i1)) rfl), (.ptr _ _ 0 rfl), (.same (.lit (.int .u8 t17)) rfl), (.same (.lit (.bool t51)) rfl), trivial⟩)) ⟨_, _, _, h11, rfl⟩
        · have h6 := bif_t h5
          clear h5
          exact BackS.of (Sees.of (Weak.objs (keep := [0]) (frz := []) (m := 0) (ts := [(0, .lit (.string s0)), (1, .lit (.int .i64 i1)), (4, .ptr 0 0), (7, .lit (.int .u8 t17)), (40, .lit (.bool true))]) (hs := [.box [.lit (.string ((⟨#[]⟩))), .lit (.string ((⟨#[]⟩)))]]) rfl (by decide) rfl rfl ⟨⟨_, rfl, WO.boxs ⟨(.same (.lit (.string (⟨#[]⟩))) rfl), (.same (.lit (.string (⟨#[]⟩))) rfl), trivial⟩⟩, ⟨rfl, fun _ h => by cases h⟩⟩ ⟨(.same (.lit (.string s0)) rfl), (.same (.lit (.int .i64 i1)) rfl), (.ptr _ _ 0 rfl), (.same (.lit (.int .u8 t17)) rfl), (.same (.lit (.bool true)) rfl), trivial⟩)) ⟨_, _, _, h6, rfl⟩
      · clear h4
        rintro s ⟨t4_0_1, t4_1_1, t40, hj0, rfl⟩
        unfold Ref4.next_.j1 at hj0
        rcases t40 with _ | _
        · have hj1 := bif_f hj0
          clear hj0
          conv => whnf
          refine CutN.of (fun s => ∃ (t60 : Bool), Ref4.next_.j2 s0 i1 t17 t4_0_1 t4_1_1 t60 = some r ∧ s = (⟨110, [(0, .lit (.string s0)), (1, .lit (.int .i64 i1)), (4, .ptr 0 0), (7, .lit (.int .u8 t17)), (60, .lit (.bool t60))], [.box [.lit (.string t4_0_1), .lit (.string t4_1_1)]]⟩ : St)) ?_ ?_
          · obtain ⟨t62, et62, hj2⟩ := letk_elim hj1; clear hj1
            conv => whnf
            refine Nm.mk ⟨t62, et62, ?_⟩
            rcases t62 with _ | _
            · have hj3 := bif_f hj2
              clear hj2
              obtain ⟨t65, et65, hj4⟩ := letk_elim hj3; clear hj3
              conv => whnf
              refine Nm.mk ⟨t65, et65, ?_⟩
              exact BackS.of (Sees.of (Weak.objs (keep := [0]) (frz := []) (m := 0) (ts := [(0, .lit (.string s0)), (1, .lit (.int .i64 i1)), (4, .ptr 0 0), (7, .lit (.int .u8 t17)), (60, .lit (.bool t65))]) (hs := [.box [.lit (.string t4_0_1), .lit (.string t4_1_1)]]) rfl (by decide) rfl rfl ⟨⟨_, rfl, WO.boxs ⟨(.same (.lit (.string t4_0_1)) rfl), (.same (.lit (.string t4_1_1)) rfl), trivial⟩⟩, ⟨rfl, fun _ h => by cases h⟩⟩ ⟨(.same (.lit (.string s0)) rfl), (.same (.lit (.int .i64 i1)) rfl), (.ptr _ _ 0 rfl), (.same (.lit (.int .u8 t17)) rfl), (.same (.lit (.bool t65)) rfl), trivial⟩)) ⟨_, hj4, rfl⟩
            · have hj3 := bif_t hj2
              clear hj2
              exact BackS.of (Sees.of (Weak.objs (keep := [0]) (frz := []) (m := 0) (ts := [(0, .lit (.string s0)), (1, .lit (.int .i64 i1)), (4, .ptr 0 0), (7, .lit (.int .u8 t17)), (60, .lit (.bool true))]) (hs := [.box [.lit (.string t4_0_1), .lit (.string t4_1_1)]]) rfl (by decide) rfl rfl ⟨⟨_, rfl, WO.boxs ⟨(.same (.lit (.string t4_0_1)) rfl), (.same (.lit (.string t4_1_1)) rfl), trivial⟩⟩, ⟨rfl, fun _ h => by cases h⟩⟩ ⟨(.same (.lit (.string s0)) rfl), (.same (.lit (.int .i64 i1)) rfl), (.ptr _ _ 0 rfl), (.same (.lit (.int .u8 t17)) rfl), (.same (.lit (.bool true)) rfl), trivial⟩)) ⟨_, hj3, rfl⟩
          · clear hj1
            rintro s ⟨t60, hj0, rfl⟩
            unfold Ref4.next_.j2 at hj0
            rcases t60 with _ | _
            · have hj1 := bif_f hj0
              clear hj0
              obtain ⟨t80, et80, hj2⟩ := letk_elim hj1; clear hj1
              conv => whnf
              refine Nm.mk ⟨t80, et80, ?_⟩
              rcases t80 with _ | _
              · have hj3 := bif_f hj2
                clear hj2
                exact BackS.of (Sees.of (Weak.objs (keep := [0]) (frz := []) (m := 0) (ts := [(0, .lit (.string s0)), (1, .lit (.int .i64 i1)), (4, .ptr 0 0)]) (hs := [.box [.lit (.string t4_0_1), .lit (.string t4_1_1)]]) rfl (by decide) rfl rfl ⟨⟨_, rfl, WO.boxs ⟨(.same (.lit (.string t4_0_1)) rfl), (.same (.lit (.string t4_1_1)) rfl), trivial⟩⟩, ⟨rfl, fun _ h => by cases h⟩⟩ ⟨(.same (.lit (.string s0)) rfl), (.same (.lit (.int .i64 i1)) rfl), (.ptr _ _ 0 rfl), trivial⟩)) ⟨_, _, hj3, rfl⟩
              · have hj3 := bif_t hj2
                clear hj2
                conv => whnf
                refine DrawB.of Tryz_mixed rfl ?_
                obtain ⟨t81, et81, hj4⟩ := bind_elim hj3; clear hj3
                conv => whnf
                refine DNodeB.of (.vs 1 (t81.map (eS))) ?_ ?_
                · conv => whnf
                  refine CallN.by (v := .vs 1 (t81.map (eS))) (Ref4.words_ok et81) rfl rfl ?_
                  conv => whnf
                  rfl
                · conv => whnf
                  refine DNodeB.of (.lit (.string s0)) ?_ ?_
                  · conv => whnf
                    rfl
                  · conv => whnf
                    refine DNodeB.of (.lit (.int .i64 i1)) ?_ ?_
                    · conv => whnf
                      rfl
                    · obtain ⟨chj5, hj5⟩ := chk_elim hj4; clear hj4
                      obtain ⟨t84, et84, hj6⟩ := letk_elim hj5; clear hj5
                      conv => whnf
                      refine DNodeB.of (.lit (.string t84)) ?_ ?_
                      · conv => whnf
                        refine Side.mk chj5 ?_
                        conv => whnf
                        refine Nm.mk ⟨t84, et84, ?_⟩
                        conv => whnf
                        rfl
                      · obtain ⟨t85, et85, hj7⟩ := bind_elim hj6; clear hj6
                        conv => whnf
                        refine DNodeB.of (.lit (.string t85)) ?_ ?_
                        · conv => whnf
                          refine CallN.by (v := .lit (.string t85)) (Ref4.starts_ok et85) rfl rfl ?_
                          conv => whnf
                          rfl
                        · conv => whnf
                          refine DNodeB.of (.lit (.string t85)) ?_ ?_
                          · conv => whnf
                            rfl
                          · conv => whnf
                            refine CutN.of (fun s => ∃ (kind13 : ByteArray), Ref4.next_.j3 t4_0_1 t4_1_1 t85 kind13 = some r ∧ s = (⟨110, [(4, .ptr 0 0), (12, .lit (.string t85)), (13, .lit (.string kind13))], [.box [.lit (.string t4_0_1), .lit (.string t4_1_1)]]⟩ : St)) ?_ ?_
                            · obtain ⟨t87, et87, hj8⟩ := letk_elim hj7; clear hj7
                              conv => whnf
                              refine Nm.mk ⟨t87, et87, ?_⟩
                              rcases t87 with _ | _
                              · have hj9 := bif_f hj8
                                clear hj8
                                obtain ⟨t90, et90, hj10⟩ := letk_elim hj9; clear hj9
                                conv => whnf
                                refine Nm.mk ⟨t90, et90, ?_⟩
                                rcases t90 with _ | _
                                · have hj11 := bif_f hj10
                                  clear hj10
                                  exact BackS.of (Sees.of (Weak.objs (keep := [0]) (frz := []) (m := 0) (ts := [(4, .ptr 0 0), (12, .lit (.string t85)), (13, .lit (.string ((⟨#[111, 112]⟩))))]) (hs := [.box [.lit (.string t4_0_1), .lit (.string t4_1_1)]]) rfl (by decide) rfl rfl ⟨⟨_, rfl, WO.boxs ⟨(.same (.lit (.string t4_0_1)) rfl), (.same (.lit (.string t4_1_1)) rfl), trivial⟩⟩, ⟨rfl, fun _ h => by cases h⟩⟩ ⟨(.ptr _ _ 0 rfl), (.same (.lit (.string t85)) rfl), (.same (.lit (.string (⟨#[111, 112]⟩))) rfl), trivial⟩)) ⟨_, hj11, rfl⟩
                                · have hj11 := bif_t hj10
                                  clear hj10
                                  exact BackS.of (Sees.of (Weak.objs (keep := [0]) (frz := []) (m := 0) (ts := [(4, .ptr 0 0), (12, .lit (.string t85)), (13, .lit (.string ((⟨#[108, 111, 103, 105, 99, 97, 108]⟩))))]) (hs := [.box [.lit (.string t4_0_1), .lit (.string t4_1_1)]]) rfl (by decide) rfl rfl ⟨⟨_, rfl, WO.boxs ⟨(.same (.lit (.string t4_0_1)) rfl), (.same (.lit (.string t4_1_1)) rfl), trivial⟩⟩, ⟨rfl, fun _ h => by cases h⟩⟩ ⟨(.ptr _ _ 0 rfl), (.same (.lit (.string t85)) rfl), (.same (.lit (.string (⟨#[108, 111, 103, 105, 99, 97, 108]⟩))) rfl), trivial⟩)) ⟨_, hj11, rfl⟩
                              · have hj9 := bif_t hj8
                                clear hj8
                                exact BackS.of (Sees.of (Weak.objs (keep := [0]) (frz := []) (m := 0) (ts := [(4, .ptr 0 0), (12, .lit (.string t85)), (13, .lit (.string ((⟨#[108, 111, 103, 105, 99, 97, 108]⟩))))]) (hs := [.box [.lit (.string t4_0_1), .lit (.string t4_1_1)]]) rfl (by decide) rfl rfl ⟨⟨_, rfl, WO.boxs ⟨(.same (.lit (.string t4_0_1)) rfl), (.same (.lit (.string t4_1_1)) rfl), trivial⟩⟩, ⟨rfl, fun _ h => by cases h⟩⟩ ⟨(.ptr _ _ 0 rfl), (.same (.lit (.string t85)) rfl), (.same (.lit (.string (⟨#[108, 111, 103, 105, 99, 97, 108]⟩))) rfl), trivial⟩)) ⟨_, hj9, rfl⟩
                            · clear hj7
                              rintro s ⟨kind13, hj0, rfl⟩
                              unfold Ref4.next_.j3 at hj0
                              conv => whnf
                              refine Gate.go ?_
                              conv => whnf
                              refine Nm.mk ⟨[.lit (.string kind13), .lit (.string t85)], rfl, ?_⟩
                              obtain ⟨t96, et96, hj1⟩ := letk_elim hj0; clear hj0
                              conv => whnf
                              refine Nm.mk ⟨t96, et96, ?_⟩
                              obtain ⟨t98, et98, hj2⟩ := letk_elim hj1; clear hj1
                              conv => whnf
                              refine Nm.mk ⟨t98, et98, ?_⟩
                              conv => whnf
                              refine Nm.mk ⟨[.lit (.string kind13), .lit (.string t85)], rfl, ?_⟩
                              have ehj2_0 := Option.some.inj hj2
                              subst ehj2_0
                              conv => whnf
                              exact Returns.pure (r := .tup [api.Token.enc ((⟨kind13, t85⟩ : api.Token)), .lit (.int .i64 t96), .lit (.bool t98)]) rfl rfl rfl rfl ⟨rfl, rfl⟩
            · have hj1 := bif_t hj0
              clear hj0
              obtain ⟨⟨t70_0, t70_1, t70_2⟩, et70, hj2⟩ := bind_elim hj1; clear hj1
              conv => whnf
              refine Gate.go ?_
              conv => whnf
              refine CallN.by (v := .tup [.lit (.string t70_0), .lit (.int .i64 t70_1), .lit (.bool t70_2)]) (Ref4.quoted_ok et70) rfl rfl ?_
              conv => whnf
              refine Gate.go ?_
              conv => whnf
              refine Nm.mk ⟨[.lit (.string (⟨#[116, 101, 120, 116]⟩)), .lit (.string t70_0)], rfl, ?_⟩
              conv => whnf
              refine Nm.mk ⟨[.lit (.string (⟨#[116, 101, 120, 116]⟩)), .lit (.string t70_0)], rfl, ?_⟩
              have ehj2_0 := Option.some.inj hj2
              subst ehj2_0
              conv => whnf
              exact Returns.pure (r := .tup [api.Token.enc ((⟨⟨#[116, 101, 120, 116]⟩, t70_0⟩ : api.Token)), .lit (.int .i64 t70_1), .lit (.bool t70_2)]) rfl rfl rfl rfl ⟨rfl, rfl⟩
        · have hj1 := bif_t hj0
          clear hj0
          obtain ⟨⟨t56_0, t56_1, t56_2⟩, et56, hj2⟩ := bind_elim hj1; clear hj1
          conv => whnf
          refine Gate.go ?_
          conv => whnf
          refine CallN.by (v := .tup [api.Token.enc t56_0, .lit (.int .i64 t56_1), .lit (.bool t56_2)]) (Ref4.number_ok et56) rfl rfl ?_
          conv => whnf
          refine Nm.mk ⟨[.lit (.string t56_0.Kind), .lit (.string t56_0.Text)], rfl, ?_⟩
          have ehj2_0 := Option.some.inj hj2
          subst ehj2_0
          conv => whnf
          exact Returns.pure (r := .tup [api.Token.enc ((⟨t56_0.Kind, t56_0.Text⟩ : api.Token)), .lit (.int .i64 t56_1), .lit (.bool t56_2)]) rfl rfl rfl rfl ⟨rfl, rfl⟩
    · have h4 := bif_t h3
      clear h3
      conv => whnf
      unfold Ref4.next_.l0 at h4
      refine LoopB.of (σ := ByteArray × ByteArray × Int) (ρ := api.Token × Int × Bool) (fun v : ByteArray × ByteArray × Int => Ref4.next_.s0 s0 i1 v.1 v.2.1 v.2.2) (fun v => (⟨110, [(0, .lit (.string s0)), (1, .lit (.int .i64 i1)), (4, .ptr 0 0), (8, .lit (.int .i64 v.2.2))], [.box [.lit (.string v.1), .lit (.string v.2.1)]]⟩ : St)) (⟨#[]⟩, ⟨#[]⟩, 0) h4 (BackS.of (Sees.of (Weak.objs (keep := [0]) (frz := []) (m := 0) (ts := [(0, .lit (.string s0)), (1, .lit (.int .i64 i1)), (4, .ptr 0 0), (8, .lit (.int .i64 0))]) (hs := [.box [.lit (.string ((⟨#[]⟩))), .lit (.string ((⟨#[]⟩)))]]) rfl (by decide) rfl rfl ⟨⟨_, rfl, WO.boxs ⟨(.same (.lit (.string (⟨#[]⟩))) rfl), (.same (.lit (.string (⟨#[]⟩))) rfl), trivial⟩⟩, ⟨rfl, fun _ h => by cases h⟩⟩ ⟨(.same (.lit (.string s0)) rfl), (.same (.lit (.int .i64 i1)) rfl), (.ptr _ _ 0 rfl), (.same (.lit (.int .i64 0)) rfl), trivial⟩)) rfl) ?_
      clear h4
      rintro K1 ⟨t4_0_2, t4_1_2, n8⟩ x1 hs0_0 hl1 hr1
      replace hs0_0 : Ref4.next_.s0 s0 i1 t4_0_2 t4_1_2 n8 = some x1 := hs0_0
      unfold Ref4.next_.s0 at hs0_0
      change bwp _ _ _ _ _ (⟨110, [(0, .lit (.string s0)), (1, .lit (.int .i64 i1)), (4, .ptr 0 0), (8, .lit (.int .i64 n8))], [.box [.lit (.string t4_0_2), .lit (.string t4_1_2)]]⟩ : St)
      obtain ⟨t24, et24, hs0_1⟩ := letk_elim hs0_0; clear hs0_0
      conv => whnf
      refine Nm.mk ⟨t24, et24, ?_⟩
      obtain ⟨t25, et25, hs0_2⟩ := bind_elim hs0_1; clear hs0_1
      conv => whnf
      refine Gate.go ?_
      conv => whnf
      refine CallN.by (v := .lit (.int .u8 t25)) (Ref4.at__ok et25) rfl rfl ?_
      obtain ⟨t26, et26, hs0_3⟩ := bind_elim hs0_2; clear hs0_2
      conv => whnf
      refine Gate.go ?_
      conv => whnf
      refine CallN.by (v := .lit (.bool t26)) (Ref4.isInner_ok et26) rfl rfl ?_
      rcases t26 with _ | _
      · have hs0_4 := bif_f hs0_3
        clear hs0_3
        obtain ⟨yhs0_4_0, hs0_4u, ehs0_4_0⟩ := map_elim hs0_4
        have ehs0_4_0 := hr1 _ ehs0_4_0.symm
        subst ehs0_4_0
        obtain ⟨t33, et33, hs0_4u0⟩ := letk_elim hs0_4u; clear hs0_4u
        conv => whnf
        refine Nm.mk ⟨t33, et33, ?_⟩
        obtain ⟨chs0_4u1, hs0_4u1⟩ := chk_elim hs0_4u0; clear hs0_4u0
        obtain ⟨t34, et34, hs0_4u2⟩ := letk_elim hs0_4u1; clear hs0_4u1
        conv => whnf
        refine Side.mk chs0_4u1 ?_
        conv => whnf
        refine Nm.mk ⟨t34, et34, ?_⟩
        obtain ⟨t35, et35, hs0_4u3⟩ := bind_elim hs0_4u2; clear hs0_4u2
        conv => whnf
        refine Gate.go ?_
        conv => whnf
        refine CallN.by (v := .lit (.string t35)) (Ref4.Lower_ok et35) rfl rfl ?_
        conv => whnf
        refine Gate.go ?_
        conv => whnf
        refine Nm.mk ⟨[.lit (.string (⟨#[110, 97, 109, 101]⟩)), .lit (.string t35)], rfl, ?_⟩
        obtain ⟨t39, et39, hs0_4u4⟩ := letk_elim hs0_4u3; clear hs0_4u3
        conv => whnf
        refine Nm.mk ⟨t39, et39, ?_⟩
        conv => whnf
        refine Nm.mk ⟨[.lit (.string (⟨#[110, 97, 109, 101]⟩)), .lit (.string t35)], rfl, ?_⟩
        have ehs0_4u4_0 := Option.some.inj hs0_4u4
        subst ehs0_4u4_0
        conv => whnf
        exact Returns.pure (r := .tup [api.Token.enc ((⟨⟨#[110, 97, 109, 101]⟩, t35⟩ : api.Token)), .lit (.int .i64 n8), .lit (.bool t39)]) rfl rfl rfl rfl ⟨rfl, rfl⟩
      · have hs0_4 := bif_t hs0_3
        clear hs0_3
        obtain ⟨t28, et28, hs0_5⟩ := letk_elim hs0_4; clear hs0_4
        conv => whnf
        refine Nm.mk ⟨t28, et28, ?_⟩
        exact BackS.of (Sees.of (Weak.objs (keep := [0]) (frz := []) (m := 0) (ts := [(0, .lit (.string s0)), (1, .lit (.int .i64 i1)), (4, .ptr 0 0), (8, .lit (.int .i64 t28))]) (hs := [.box [.lit (.string t4_0_2), .lit (.string t4_1_2)]]) rfl (by decide) rfl rfl ⟨⟨_, rfl, WO.boxs ⟨(.same (.lit (.string t4_0_2)) rfl), (.same (.lit (.string t4_1_2)) rfl), trivial⟩⟩, ⟨rfl, fun _ h => by cases h⟩⟩ ⟨(.same (.lit (.string s0)) rfl), (.same (.lit (.int .i64 i1)) rfl), (.ptr _ _ 0 rfl), (.same (.lit (.int .i64 t28)) rfl), trivial⟩)) ⟨_, hl1 _ (Option.some.inj hs0_5).symm, rfl⟩
  · clear h2
    rintro s ⟨t4_0, t4_1, hj0, rfl⟩
    unfold Ref4.next_.j0 at hj0
    conv => whnf
    refine DrawB.of Tryz_mixed rfl ?_
    obtain ⟨t99, et99, hj1⟩ := bind_elim hj0; clear hj0
    conv => whnf
    refine DNodeB.of (.vs 1 (t99.map (eS))) ?_ ?_
    · conv => whnf
      refine CallN.by (v := .vs 1 (t99.map (eS))) (Ref4.ops_ok et99) rfl rfl ?_
      conv => whnf
      rfl
    · conv => whnf
      refine DNodeB.of (.lit (.string s0)) ?_ ?_
      · conv => whnf
        rfl
      · conv => whnf
        refine DNodeB.of (.lit (.int .i64 i1)) ?_ ?_
        · conv => whnf
          rfl
        · obtain ⟨chj2, hj2⟩ := chk_elim hj1; clear hj1
          obtain ⟨t102, et102, hj3⟩ := letk_elim hj2; clear hj2
          conv => whnf
          refine DNodeB.of (.lit (.string t102)) ?_ ?_
          · conv => whnf
            refine Side.mk chj2 ?_
            conv => whnf
            refine Nm.mk ⟨t102, et102, ?_⟩
            conv => whnf
            rfl
          · obtain ⟨t103, et103, hj4⟩ := bind_elim hj3; clear hj3
            conv => whnf
            refine DNodeB.of (.lit (.string t103)) ?_ ?_
            · conv => whnf
              refine CallN.by (v := .lit (.string t103)) (Ref4.starts_ok et103) rfl rfl ?_
              conv => whnf
              rfl
            · conv => whnf
              refine DNodeB.of (.lit (.string t103)) ?_ ?_
              · conv => whnf
                rfl
              · conv => whnf
                refine Gate.go ?_
                conv => whnf
                refine Nm.mk ⟨[.lit (.string (⟨#[111, 112]⟩)), .lit (.string t103)], rfl, ?_⟩
                obtain ⟨t107, et107, hj5⟩ := letk_elim hj4; clear hj4
                conv => whnf
                refine Nm.mk ⟨t107, et107, ?_⟩
                obtain ⟨t109, et109, hj6⟩ := letk_elim hj5; clear hj5
                conv => whnf
                refine Nm.mk ⟨t109, et109, ?_⟩
                conv => whnf
                refine Nm.mk ⟨[.lit (.string (⟨#[111, 112]⟩)), .lit (.string t103)], rfl, ?_⟩
                have ehj6_0 := Option.some.inj hj6
                subst ehj6_0
                conv => whnf
                exact Returns.pure (r := .tup [api.Token.enc ((⟨⟨#[111, 112]⟩, t103⟩ : api.Token)), .lit (.int .i64 t107), .lit (.bool t109)]) rfl rfl rfl rfl ⟨rfl, rfl⟩

noncomputable def Ref4.Scan.s1 (s0 : ByteArray) (out6 : List api.Token) (i7 : Int) : Option (((List api.Token) × Int) ⊕ ((List api.Token) × Int × Int)) :=
  letk ((s0.size : Int)) fun t30 =>
  letk (decide (i7 < t30)) fun t31 =>
  bif t31 then
    chk (0 ≤ i7 ∧ i7 < (s0.size : Int)) <|
    letk (bt s0 i7) fun t34 =>
    letk (t34 == (32 : Int)) fun t35 =>
    bif t35 then
      letk (IntKind.i64.wrap (i7 + (1 : Int))) fun t37 =>
      some (.inl (out6, t37))
    else
      Option.bind (Ref4.next_ s0 i7) fun (t41_0, t41_1, t41_2) =>
      letk (!t41_2) fun t46 =>
      bif t46 then
        some (.inr ([], i7, 3))
      else
        chk ((out6.length + ([(⟨t41_0.Kind, t41_0.Text⟩ : api.Token)]).length) * 32 ≤ 140737488355328) <|
        letk (out6 ++ ([(⟨t41_0.Kind, t41_0.Text⟩ : api.Token)])) fun t51 =>
        letk (IntKind.i64.wrap (i7 + t41_1)) fun t54 =>
        some (.inl (t51, t54))
  else
    some (.inr (out6, 0, 0))

noncomputable def Ref4.Scan.l1 (s0 : ByteArray) (out6 : List api.Token) (i7 : Int) : Option ((List api.Token) × Int × Int) := loopO (fun v : (List api.Token) × Int => Ref4.Scan.s1 s0 v.1 v.2) (out6, i7)
theorem Ref4.Scan.l1_eq (s0 : ByteArray) (out6 : List api.Token) (i7 : Int) : Ref4.Scan.l1 s0 out6 i7 = (Ref4.Scan.s1 s0 out6 i7).bind (Sum.elim (fun v => Ref4.Scan.l1 s0 v.1 v.2) some) := loopO_eq _ _

noncomputable def Ref4.Scan.s0 (s0 : ByteArray) (i5 : Int) : Option (Int ⊕ ((List api.Token) × Int × Int)) :=
  letk ((s0.size : Int)) fun t13 =>
  letk (decide (i5 < t13)) fun t14 =>
  bif t14 then
    chk (0 ≤ i5 ∧ i5 < (s0.size : Int)) <|
    letk (bt s0 i5) fun t19 =>
    letk (decide (t19 < (32 : Int))) fun t20 =>
    bif t20 then
      some (.inr ([], i5, 3))
    else
      chk (0 ≤ i5 ∧ i5 < (s0.size : Int)) <|
      letk (bt s0 i5) fun t24 =>
      letk (decide (t24 > (126 : Int))) fun t25 =>
      bif t25 then
        some (.inr ([], i5, 3))
      else
        letk (IntKind.i64.wrap (i5 + (1 : Int))) fun t16 =>
        some (.inl t16)
  else
    (Ref4.Scan.l1 s0 ([]) 0).map .inr

noncomputable def Ref4.Scan.l0 (s0 : ByteArray) (i5 : Int) : Option ((List api.Token) × Int × Int) := loopO (fun v : Int => Ref4.Scan.s0 s0 v) i5
theorem Ref4.Scan.l0_eq (s0 : ByteArray) (i5 : Int) : Ref4.Scan.l0 s0 i5 = (Ref4.Scan.s0 s0 i5).bind (Sum.elim (fun v => Ref4.Scan.l0 s0 v) some) := loopO_eq _ _

noncomputable def Ref4.Scan (s0 : ByteArray) : Option ((List api.Token) × Int × Int) :=
  Ref4.Scan.l0 s0 0

theorem Ref4.Scan_ok {s0 : ByteArray} {r : (List api.Token) × Int × Int} (h0 : Ref4.Scan s0 = some r) : Gives Tryz.prog 25 [.lit (.string s0)] (.tup [.vs 2 (r.1.map (api.Token.enc)), .lit (.int .i64 r.2.1), .lit (.int .i64 r.2.2)]) := by
  unfold Ref4.Scan at h0
  refine ACalls.of_swp Tryz.func25 rfl (by decide) rfl (st0 := ⟨56, [(0, .lit (.string s0))], []⟩) rfl (bwp_ok (C := []) ?_)
  conv => whnf
  unfold Ref4.Scan.l0 at h0
  refine LoopB.of (σ := Int) (ρ := (List api.Token) × Int × Int) (fun v : Int => Ref4.Scan.s0 s0 v) (fun v => (⟨56, [(0, .lit (.string s0)), (5, .lit (.int .i64 v))], []⟩ : St)) 0 h0 (BackS.of (Sees.of (Weak.objs (keep := []) (frz := []) (m := 0) (ts := [(0, .lit (.string s0)), (5, .lit (.int .i64 0))]) (hs := []) rfl (by decide) rfl rfl ⟨rfl, fun _ h => by cases h⟩ ⟨(.same (.lit (.string s0)) rfl), (.same (.lit (.int .i64 0)) rfl), trivial⟩)) rfl) ?_
  clear h0
  rintro K1 i5 x1 hs0_0 hl1 hr1
  replace hs0_0 : Ref4.Scan.s0 s0 i5 = some x1 := hs0_0
  unfold Ref4.Scan.s0 at hs0_0
  change bwp _ _ _ _ _ (⟨56, [(0, .lit (.string s0)), (5, .lit (.int .i64 i5))], []⟩ : St)
  obtain ⟨t13, et13, hs0_1⟩ := letk_elim hs0_0; clear hs0_0
  conv => whnf
  refine Nm.mk ⟨t13, et13, ?_⟩
  obtain ⟨t14, et14, hs0_2⟩ := letk_elim hs0_1; clear hs0_1
  conv => whnf
  refine Nm.mk ⟨t14, et14, ?_⟩
  rcases t14 with _ | _
  · have hs0_3 := bif_f hs0_2
    clear hs0_2
    obtain ⟨yhs0_3_0, hs0_3u, ehs0_3_0⟩ := map_elim hs0_3
    have ehs0_3_0 := hr1 _ ehs0_3_0.symm
    subst ehs0_3_0
    conv => whnf
    unfold Ref4.Scan.l1 at hs0_3u
    refine LoopB.of (σ := (List api.Token) × Int) (ρ := (List api.Token) × Int × Int) (fun v : (List api.Token) × Int => Ref4.Scan.s1 s0 v.1 v.2) (fun v => (⟨56, [(0, .lit (.string s0)), (6, .ref 0 0 ((v.1.map (api.Token.enc)).length)), (7, .lit (.int .i64 v.2))], [.arr 2 (v.1.map (api.Token.enc))]⟩ : St)) ([], 0) hs0_3u (BackS.of (Sees.of (Weak.objs (keep := []) (frz := []) (m := 1) (ts := [(0, .lit (.string s0)), (6, .ref 0 0 ((([]).map (api.Token.enc)).length)), (7, .lit (.int .i64 0))]) (hs := [.arr 2 ((([])).map (api.Token.enc))]) rfl (by decide) rfl rfl ⟨rfl, fun ob ho => by simp only [List.mem_cons, List.not_mem_nil, or_false] at ho; exact ⟨_, ho⟩⟩ ⟨(.same (.lit (.string s0)) rfl), (.nilsRef 0 (by decide) (by decide)), (.same (.lit (.int .i64 0)) rfl), trivial⟩)) rfl) ?_
    clear hs0_3u
    rintro K1 ⟨out6, i7⟩ x1 hs1_0 hl1 hr1
    replace hs1_0 : Ref4.Scan.s1 s0 out6 i7 = some x1 := hs1_0
    unfold Ref4.Scan.s1 at hs1_0
    change bwp _ _ _ _ _ (⟨56, [(0, .lit (.string s0)), (6, .ref 0 0 ((out6.map (api.Token.enc)).length)), (7, .lit (.int .i64 i7))], [.arr 2 (out6.map (api.Token.enc))]⟩ : St)
    obtain ⟨t30, et30, hs1_1⟩ := letk_elim hs1_0; clear hs1_0
    conv => whnf
    refine Nm.mk ⟨t30, et30, ?_⟩
    obtain ⟨t31, et31, hs1_2⟩ := letk_elim hs1_1; clear hs1_1
    conv => whnf
    refine Nm.mk ⟨t31, et31, ?_⟩
    rcases t31 with _ | _
    · have hs1_3 := bif_f hs1_2
      clear hs1_2
      have ehs1_3u_0 := hr1 _ (Option.some.inj hs1_3).symm
      have hs1_3u := congrArg some ehs1_3u_0
      have ehs1_3u_0 := Option.some.inj hs1_3u
      subst ehs1_3u_0
      conv => whnf
      exact Returns.frozen (r := .tup [.vs 2 (out6.map (api.Token.enc)), .lit (.int .i64 0), .lit (.int .i64 0)]) [0] rfl rfl (WV.tups ⟨(WV.all (k := 0) (by decide) rfl), (.same (.lit (.int .i64 0)) rfl), (.same (.lit (.int .i64 0)) rfl), trivial⟩) ⟨rfl, rfl⟩
    · have hs1_3 := bif_t hs1_2
      clear hs1_2
      obtain ⟨chs1_4, hs1_4⟩ := chk_elim hs1_3; clear hs1_3
      obtain ⟨t34, et34, hs1_5⟩ := letk_elim hs1_4; clear hs1_4
      conv => whnf
      refine Side.mk chs1_4 ?_
      conv => whnf
      refine Nm.mk ⟨t34, et34, ?_⟩
      obtain ⟨t35, et35, hs1_6⟩ := letk_elim hs1_5; clear hs1_5
      conv => whnf
      refine Nm.mk ⟨t35, et35, ?_⟩
      rcases t35 with _ | _
      · have hs1_7 := bif_f hs1_6
        clear hs1_6
        obtain ⟨⟨t41_0, t41_1, t41_2⟩, et41, hs1_8⟩ := bind_elim hs1_7; clear hs1_7
        conv => whnf
        refine Gate.go ?_
        conv => whnf
        refine CallN.by (v := .tup [api.Token.enc t41_0, .lit (.int .i64 t41_1), .lit (.bool t41_2)]) (Ref4.next__ok et41) rfl rfl ?_
        conv => whnf
        refine Nm.mk ⟨[.lit (.string (⟨#[]⟩)), .lit (.string (⟨#[]⟩))], rfl, ?_⟩
        conv => whnf
        refine Nm.mk ⟨[.lit (.string t41_0.Kind), .lit (.string t41_0.Text)], rfl, ?_⟩
        obtain ⟨t46, et46, hs1_9⟩ := letk_elim hs1_8; clear hs1_8
        conv => whnf
        refine Nm.mk ⟨t46, et46, ?_⟩
        rcases t46 with _ | _
        · have hs1_10 := bif_f hs1_9
          clear hs1_9
          conv => whnf
          refine Gate.go ?_
          conv => whnf
          refine Nm.mk ⟨([(⟨t41_0.Kind, t41_0.Text⟩ : api.Token)]).map (api.Token.enc), rfl, ?_⟩
          obtain ⟨chs1_11, hs1_11⟩ := chk_elim hs1_10; clear hs1_10
          obtain ⟨t51, et51, hs1_12⟩ := letk_elim hs1_11; clear hs1_11
          conv => whnf
          refine Gate.go ?_
          conv => whnf
          refine Side.mk (full_le _) ?_
          conv => whnf
          refine Side.mk ⟨full_le _, one_map (fun _ _ hc => by simp only [api.Token.enc, AV.cells, List.mem_cons, List.not_mem_nil, or_false] at hc; rcases hc with rfl | rfl <;> rfl)⟩ ?_
          conv => whnf
          refine Side.mk (side_rr (by decide) chs1_11) ?_
          conv => whnf
          refine Nm.mk ⟨t51.map (api.Token.enc), by rw [et51]; exact app_rr (m := [(⟨t41_0.Kind, t41_0.Text⟩ : api.Token)]), ?_⟩
          obtain ⟨t54, et54, hs1_13⟩ := letk_elim hs1_12; clear hs1_12
          conv => whnf
          refine Nm.mk ⟨t54, et54, ?_⟩
          exact BackS.of (Sees.of (Weak.objs (keep := [3]) (frz := []) (m := 0) (ts := [(0, .lit (.string s0)), (6, .ref 0 0 ((t51.map (api.Token.enc)).length)), (7, .lit (.int .i64 t54))]) (hs := [.arr 2 (t51.map (api.Token.enc))]) rfl (by decide) rfl rfl ⟨⟨_, rfl, .arr _ _⟩, ⟨rfl, fun _ h => by cases h⟩⟩ ⟨(.same (.lit (.string s0)) rfl), (.ref _ _ _ 0 rfl), (.same (.lit (.int .i64 t54)) rfl), trivial⟩)) ⟨_, hl1 _ (Option.some.inj hs1_13).symm, rfl⟩
        · have hs1_10 := bif_t hs1_9
          clear hs1_9
          have ehs1_10_0 := hr1 _ (Option.some.inj hs1_10).symm
          subst ehs1_10_0
          conv => whnf
          exact Returns.frozen (r := .tup [.vs 2 (([]).map (api.Token.enc)), .lit (.int .i64 i7), .lit (.int .i64 3)]) [] rfl rfl (WV.tups ⟨(.nilsVs _), (.same (.lit (.int .i64 i7)) rfl), (.same (.lit (.int .i64 3)) rfl), trivial⟩) ⟨rfl, rfl⟩
      · have hs1_7 := bif_t hs1_6
        clear hs1_6
        obtain ⟨t37, et37, hs1_8⟩ := letk_elim hs1_7; clear hs1_7
        conv => whnf
        refine Nm.mk ⟨t37, et37, ?_⟩
        exact BackS.of (Sees.of (Weak.objs (keep := [0]) (frz := []) (m := 0) (ts := [(0, .lit (.string s0)), (6, .ref 0 0 ((out6.map (api.Token.enc)).length)), (7, .lit (.int .i64 t37))]) (hs := [.arr 2 (out6.map (api.Token.enc))]) rfl (by decide) rfl rfl ⟨⟨_, rfl, .arr _ _⟩, ⟨rfl, fun _ h => by cases h⟩⟩ ⟨(.same (.lit (.string s0)) rfl), (.ref _ _ _ 0 rfl), (.same (.lit (.int .i64 t37)) rfl), trivial⟩)) ⟨_, hl1 _ (Option.some.inj hs1_8).symm, rfl⟩
  · have hs0_3 := bif_t hs0_2
    clear hs0_2
    obtain ⟨chs0_4, hs0_4⟩ := chk_elim hs0_3; clear hs0_3
    obtain ⟨t19, et19, hs0_5⟩ := letk_elim hs0_4; clear hs0_4
    conv => whnf
    refine Side.mk chs0_4 ?_
    conv => whnf
    refine Nm.mk ⟨t19, et19, ?_⟩
    obtain ⟨t20, et20, hs0_6⟩ := letk_elim hs0_5; clear hs0_5
    conv => whnf
    refine Nm.mk ⟨t20, et20, ?_⟩
    rcases t20 with _ | _
    · have hs0_7 := bif_f hs0_6
      clear hs0_6
      obtain ⟨chs0_8, hs0_8⟩ := chk_elim hs0_7; clear hs0_7
      obtain ⟨t24, et24, hs0_9⟩ := letk_elim hs0_8; clear hs0_8
      conv => whnf
      refine Side.mk chs0_8 ?_
      conv => whnf
      refine Nm.mk ⟨t24, et24, ?_⟩
      obtain ⟨t25, et25, hs0_10⟩ := letk_elim hs0_9; clear hs0_9
      conv => whnf
      refine Nm.mk ⟨t25, et25, ?_⟩
      rcases t25 with _ | _
      · have hs0_11 := bif_f hs0_10
        clear hs0_10
        obtain ⟨t16, et16, hs0_12⟩ := letk_elim hs0_11; clear hs0_11
        conv => whnf
        refine Nm.mk ⟨t16, et16, ?_⟩
        exact BackS.of (Sees.of (Weak.objs (keep := []) (frz := []) (m := 0) (ts := [(0, .lit (.string s0)), (5, .lit (.int .i64 t16))]) (hs := []) rfl (by decide) rfl rfl ⟨rfl, fun _ h => by cases h⟩ ⟨(.same (.lit (.string s0)) rfl), (.same (.lit (.int .i64 t16)) rfl), trivial⟩)) ⟨_, hl1 _ (Option.some.inj hs0_12).symm, rfl⟩
      · have hs0_11 := bif_t hs0_10
        clear hs0_10
        have ehs0_11_0 := hr1 _ (Option.some.inj hs0_11).symm
        subst ehs0_11_0
        conv => whnf
        exact Returns.frozen (r := .tup [.vs 2 (([]).map (api.Token.enc)), .lit (.int .i64 i5), .lit (.int .i64 3)]) [] rfl rfl (WV.tups ⟨(.nilsVs _), (.same (.lit (.int .i64 i5)) rfl), (.same (.lit (.int .i64 3)) rfl), trivial⟩) ⟨rfl, rfl⟩
    · have hs0_7 := bif_t hs0_6
      clear hs0_6
      have ehs0_7_0 := hr1 _ (Option.some.inj hs0_7).symm
      subst ehs0_7_0
      conv => whnf
      exact Returns.frozen (r := .tup [.vs 2 (([]).map (api.Token.enc)), .lit (.int .i64 i5), .lit (.int .i64 3)]) [] rfl rfl (WV.tups ⟨(.nilsVs _), (.same (.lit (.int .i64 i5)) rfl), (.same (.lit (.int .i64 3)) rfl), trivial⟩) ⟨rfl, rfl⟩

noncomputable def Ref4.Same.s0 (a0 : List api.Token) (b1 : List api.Token) (i5 : Int) : Option (Int ⊕ Bool) :=
  letk ((a0.length : Int)) fun t13 =>
  letk (decide (i5 < t13)) fun t14 =>
  bif t14 then
    chk (0 ≤ i5) <|
    Option.bind (a0[i5.toNat]?) fun t19 =>
    chk (0 ≤ i5) <|
    Option.bind (b1[i5.toNat]?) fun t23 =>
    letk (!((t19.Kind.toList == t23.Kind.toList) && ((t19.Text.toList == t23.Text.toList) && true))) fun t25 =>
    bif t25 then
      some (.inr false)
    else
      letk (IntKind.i64.wrap (i5 + (1 : Int))) fun t16 =>
      some (.inl t16)
  else
    some (.inr true)

noncomputable def Ref4.Same.l0 (a0 : List api.Token) (b1 : List api.Token) (i5 : Int) : Option Bool := loopO (fun v : Int => Ref4.Same.s0 a0 b1 v) i5
theorem Ref4.Same.l0_eq (a0 : List api.Token) (b1 : List api.Token) (i5 : Int) : Ref4.Same.l0 a0 b1 i5 = (Ref4.Same.s0 a0 b1 i5).bind (Sum.elim (fun v => Ref4.Same.l0 a0 b1 v) some) := loopO_eq _ _

noncomputable def Ref4.Same (a0 : List api.Token) (b1 : List api.Token) : Option Bool :=
  letk ((a0.length : Int)) fun t7 =>
  letk ((b1.length : Int)) fun t9 =>
  letk (t7 != t9) fun t10 =>
  bif t10 then
    some false
  else
    Ref4.Same.l0 a0 b1 0

theorem Ref4.Same_ok {a0 : List api.Token} {b1 : List api.Token} {r : Bool} (h0 : Ref4.Same a0 b1 = some r) : Gives Tryz.prog 16 [.vs 2 (a0.map (api.Token.enc)), .vs 2 (b1.map (api.Token.enc))] (.lit (.bool r)) := by
  unfold Ref4.Same at h0
  refine ACalls.of_swp Tryz.func16 rfl (by decide) rfl (st0 := ⟨26, [(0, .vs 2 (a0.map (api.Token.enc))), (1, .vs 2 (b1.map (api.Token.enc)))], []⟩) rfl (bwp_ok (C := []) ?_)
  obtain ⟨t7, et7, h1⟩ := letk_elim h0; clear h0
  conv => whnf
  refine Nm.mk ⟨t7, by rw [et7, List.length_map], ?_⟩
  obtain ⟨t9, et9, h2⟩ := letk_elim h1; clear h1
  conv => whnf
  refine Nm.mk ⟨t9, by rw [et9, List.length_map], ?_⟩
  obtain ⟨t10, et10, h3⟩ := letk_elim h2; clear h2
  conv => whnf
  refine Nm.mk ⟨t10, et10, ?_⟩
  rcases t10 with _ | _
  · have h4 := bif_f h3
    clear h3
    conv => whnf
    unfold Ref4.Same.l0 at h4
    refine LoopB.of (σ := Int) (ρ := Bool) (fun v : Int => Ref4.Same.s0 a0 b1 v) (fun v => (⟨26, [(0, .vs 2 (a0.map (api.Token.enc))), (1, .vs 2 (b1.map (api.Token.enc))), (5, .lit (.int .i64 v))], []⟩ : St)) 0 h4 (BackS.of (Sees.of (Weak.objs (keep := []) (frz := []) (m := 0) (ts := [(0, .vs 2 (a0.map (api.Token.enc))), (1, .vs 2 (b1.map (api.Token.enc))), (5, .lit (.int .i64 0))]) (hs := []) rfl (by decide) rfl rfl ⟨rfl, fun _ h => by cases h⟩ ⟨(.same (.vs 2 (a0.map (api.Token.enc))) rfl), (.same (.vs 2 (b1.map (api.Token.enc))) rfl), (.same (.lit (.int .i64 0)) rfl), trivial⟩)) rfl) ?_
    clear h4
    rintro K1 i5 x1 hs0_0 hl1 hr1
    replace hs0_0 : Ref4.Same.s0 a0 b1 i5 = some x1 := hs0_0
    unfold Ref4.Same.s0 at hs0_0
    change bwp _ _ _ _ _ (⟨26, [(0, .vs 2 (a0.map (api.Token.enc))), (1, .vs 2 (b1.map (api.Token.enc))), (5, .lit (.int .i64 i5))], []⟩ : St)
    obtain ⟨t13, et13, hs0_1⟩ := letk_elim hs0_0; clear hs0_0
    conv => whnf
    refine Nm.mk ⟨t13, by rw [et13, List.length_map], ?_⟩
    obtain ⟨t14, et14, hs0_2⟩ := letk_elim hs0_1; clear hs0_1
    conv => whnf
    refine Nm.mk ⟨t14, et14, ?_⟩
    rcases t14 with _ | _
    · have hs0_3 := bif_f hs0_2
      clear hs0_2
      have ehs0_3u_0 := hr1 _ (Option.some.inj hs0_3).symm
      have hs0_3u := congrArg some ehs0_3u_0
      have ehs0_3u_0 := Option.some.inj hs0_3u
      subst ehs0_3u_0
      conv => whnf
      exact Returns.pure (r := .lit (.bool true)) rfl rfl rfl rfl ⟨rfl, rfl⟩
    · have hs0_3 := bif_t hs0_2
      clear hs0_2
      conv => whnf
      refine DrawB.of Tryz_mixed rfl ?_
      conv => whnf
      refine DNodeB.of (.vs 2 (a0.map (api.Token.enc))) ?_ ?_
      · conv => whnf
        rfl
      · conv => whnf
        refine DNodeB.of (.lit (.int .i64 i5)) ?_ ?_
        · conv => whnf
          rfl
        · obtain ⟨chs0_4, hs0_4⟩ := chk_elim hs0_3; clear hs0_3
          obtain ⟨t19, et19, hs0_5⟩ := bind_elim hs0_4; clear hs0_4
          conv => whnf
          refine DNodeB.of (.iptr (api.Token.enc t19)) ?_ ?_
          · conv => whnf
            refine Side.mk chs0_4 ?_
            conv => whnf
            refine At.by et19 ?_
            conv => whnf
            rfl
          · conv => whnf
            refine DNodeB.of (api.Token.enc t19) ?_ ?_
            · conv => whnf
              rfl
            · conv => whnf
              refine DNodeB.of (.vs 2 (b1.map (api.Token.enc))) ?_ ?_
              · conv => whnf
                rfl
              · conv => whnf
                refine DNodeB.of (.lit (.int .i64 i5)) ?_ ?_
                · conv => whnf
                  rfl
                · obtain ⟨chs0_6, hs0_6⟩ := chk_elim hs0_5; clear hs0_5
                  obtain ⟨t23, et23, hs0_7⟩ := bind_elim hs0_6; clear hs0_6
                  conv => whnf
                  refine DNodeB.of (.iptr (api.Token.enc t23)) ?_ ?_
                  · conv => whnf
                    refine Side.mk chs0_6 ?_
                    conv => whnf
                    refine At.by et23 ?_
                    conv => whnf
                    rfl
                  · conv => whnf
                    refine DNodeB.of (api.Token.enc t23) ?_ ?_
                    · conv => whnf
                      rfl
                    · obtain ⟨t25, et25, hs0_8⟩ := letk_elim hs0_7; clear hs0_7
                      conv => whnf
                      refine DNodeB.of (.lit (.bool t25)) ?_ ?_
                      · conv => whnf
                        refine EqS.mk ⟨[.s, .s], by kernel_rfl, ?_⟩
                        conv => whnf
                        refine Nm.mk ⟨t25, et25, ?_⟩
                        conv => whnf
                        rfl
                      · rcases t25 with _ | _
                        · have hs0_9 := bif_f hs0_8
                          clear hs0_8
                          obtain ⟨t16, et16, hs0_10⟩ := letk_elim hs0_9; clear hs0_9
                          conv => whnf
                          refine Nm.mk ⟨t16, et16, ?_⟩
                          exact BackS.of (Sees.of (Weak.objs (keep := []) (frz := []) (m := 0) (ts := [(0, .vs 2 (a0.map (api.Token.enc))), (1, .vs 2 (b1.map (api.Token.enc))), (5, .lit (.int .i64 t16))]) (hs := []) rfl (by decide) rfl rfl ⟨rfl, fun _ h => by cases h⟩ ⟨(.same (.vs 2 (a0.map (api.Token.enc))) rfl), (.same (.vs 2 (b1.map (api.Token.enc))) rfl), (.same (.lit (.int .i64 t16)) rfl), trivial⟩)) ⟨_, hl1 _ (Option.some.inj hs0_10).symm, rfl⟩
                        · have hs0_9 := bif_t hs0_8
                          clear hs0_8
                          have ehs0_9_0 := hr1 _ (Option.some.inj hs0_9).symm
                          subst ehs0_9_0
                          conv => whnf
                          exact Returns.pure (r := .lit (.bool false)) rfl rfl rfl rfl ⟨rfl, rfl⟩
  · have h4 := bif_t h3
    clear h3
    have eh4_0 := Option.some.inj h4
    subst eh4_0
    conv => whnf
    exact Returns.pure (r := .lit (.bool false)) rfl rfl rfl rfl ⟨rfl, rfl⟩

noncomputable def Ref4.Valid.s0 (t1_0 : ByteArray) (t1_1 : ByteArray) (i3 : Int) : Option ((ByteArray × ByteArray × Int) ⊕ Bool) :=
  letk ((t1_1.size : Int)) fun t13 =>
  letk (decide (i3 < t13)) fun t14 =>
  bif t14 then
    chk (0 ≤ i3 ∧ i3 < (t1_1.size : Int)) <|
    letk (bt t1_1 i3) fun t20 =>
    letk (decide (t20 < (32 : Int))) fun t21 =>
    bif t21 then
      some (.inr false)
    else
      chk (0 ≤ i3 ∧ i3 < (t1_1.size : Int)) <|
      letk (bt t1_1 i3) fun t26 =>
      letk (decide (t26 > (126 : Int))) fun t27 =>
      bif t27 then
        some (.inr false)
      else
        letk (IntKind.i64.wrap (i3 + (1 : Int))) fun t16 =>
        some (.inl (t1_0, t1_1, t16))
  else
    some (.inr true)

noncomputable def Ref4.Valid.l0 (t1_0 : ByteArray) (t1_1 : ByteArray) (i3 : Int) : Option Bool := loopO (fun v : ByteArray × ByteArray × Int => Ref4.Valid.s0 v.1 v.2.1 v.2.2) (t1_0, t1_1, i3)
theorem Ref4.Valid.l0_eq (t1_0 : ByteArray) (t1_1 : ByteArray) (i3 : Int) : Ref4.Valid.l0 t1_0 t1_1 i3 = (Ref4.Valid.s0 t1_0 t1_1 i3).bind (Sum.elim (fun v => Ref4.Valid.l0 v.1 v.2.1 v.2.2) some) := loopO_eq _ _

noncomputable def Ref4.Valid (t0 : api.Token) : Option Bool :=
  letk (t0.Kind.toList == (⟨#[116, 101, 120, 116]⟩ : ByteArray).toList) fun t9 =>
  bif t9 then
    Ref4.Valid.l0 t0.Kind t0.Text 0
  else
    Option.bind (Ref4.Scan t0.Text) fun (t32_0, t32_1, t32_2) =>
    letk (t32_2 == (0 : Int)) fun t37 =>
    bif t37 then
      letk ((t32_0.length : Int)) fun t40 =>
      letk (t40 == (1 : Int)) fun t41 =>
      bif t41 then
        chk (0 ≤ (0 : Int)) <|
        Option.bind (t32_0[(0 : Int).toNat]?) fun t45 =>
        letk (((t45.Kind.toList == t0.Kind.toList) && ((t45.Text.toList == t0.Text.toList) && true))) fun t48 =>
        some t48
      else
        some false
    else
      some false

theorem Ref4.Valid_ok {t0 : api.Token} {r : Bool} (h0 : Ref4.Valid t0 = some r) : Gives Tryz.prog 7 [api.Token.enc t0] (.lit (.bool r)) := by
  unfold Ref4.Valid at h0
  refine ACalls.of_swp Tryz.func7 rfl (by decide) rfl (st0 := ⟨50, [(0, api.Token.enc t0)], []⟩) rfl (bwp_ok (C := []) ?_)
  conv => whnf
  refine Nm.mk ⟨[.lit (.string t0.Kind), .lit (.string t0.Text)], rfl, ?_⟩
  obtain ⟨t9, et9, h1⟩ := letk_elim h0; clear h0
  conv => whnf
  refine Nm.mk ⟨t9, et9, ?_⟩
  rcases t9 with _ | _
  · have h2 := bif_f h1
    clear h1
    obtain ⟨⟨t32_0, t32_1, t32_2⟩, et32, h3⟩ := bind_elim h2; clear h2
    conv => whnf
    refine Gate.go ?_
    conv => whnf
    refine CallN.by (v := .tup [.vs 2 (t32_0.map (api.Token.enc)), .lit (.int .i64 t32_1), .lit (.int .i64 t32_2)]) (Ref4.Scan_ok et32) rfl rfl ?_
    conv => whnf
    refine DrawB.of Tryz_mixed rfl ?_
    conv => whnf
    refine DNodeB.of (.lit (.int .i64 t32_2)) ?_ ?_
    · conv => whnf
      rfl
    · obtain ⟨t37, et37, h4⟩ := letk_elim h3; clear h3
      conv => whnf
      refine DNodeB.of (.lit (.bool t37)) ?_ ?_
      · conv => whnf
        refine Nm.mk ⟨t37, et37, ?_⟩
        conv => whnf
        rfl
      · conv => whnf
        refine DNodeB.of (.lit (.bool t37)) ?_ ?_
        · conv => whnf
          rfl
        · rcases t37 with _ | _
          · have h5 := bif_f h4
            clear h4
            conv => whnf
            refine DNodeB.of (.lit (.bool false)) ?_ ?_
            · conv => whnf
              rfl
            · conv => whnf
              refine DNodeB.of (.lit (.bool false)) ?_ ?_
              · conv => whnf
                rfl
              · conv => whnf
                refine DNodeB.of (.lit (.bool false)) ?_ ?_
                · conv => whnf
                  rfl
                · conv => whnf
                  refine DNodeB.of (.lit (.bool false)) ?_ ?_
                  · conv => whnf
                    rfl
                  · have eh5_0 := Option.some.inj h5
                    subst eh5_0
                    conv => whnf
                    exact Returns.pure (r := .lit (.bool false)) rfl rfl rfl rfl ⟨rfl, rfl⟩
          · have h5 := bif_t h4
            clear h4
            conv => whnf
            refine DNodeB.of (.vs 2 (t32_0.map (api.Token.enc))) ?_ ?_
            · conv => whnf
              rfl
            · obtain ⟨t40, et40, h6⟩ := letk_elim h5; clear h5
              conv => whnf
              refine DNodeB.of (.lit (.int .i64 t40)) ?_ ?_
              · conv => whnf
                refine Nm.mk ⟨t40, by rw [et40, List.length_map], ?_⟩
                conv => whnf
                rfl
              · obtain ⟨t41, et41, h7⟩ := letk_elim h6; clear h6
                conv => whnf
                refine DNodeB.of (.lit (.bool t41)) ?_ ?_
                · conv => whnf
                  refine Nm.mk ⟨t41, et41, ?_⟩
                  conv => whnf
                  rfl
                · conv => whnf
                  refine DNodeB.of (.lit (.bool t41)) ?_ ?_
                  · conv => whnf
                    rfl
                  · conv => whnf
                    refine DNodeB.of (.lit (.bool t41)) ?_ ?_
                    · conv => whnf
                      rfl
                    · rcases t41 with _ | _
                      · have h8 := bif_f h7
                        clear h7
                        conv => whnf
                        refine DNodeB.of (.lit (.bool false)) ?_ ?_
                        · conv => whnf
                          rfl
                        · conv => whnf
                          refine DNodeB.of (.lit (.bool false)) ?_ ?_
                          · conv => whnf
                            rfl
                          · have eh8_0 := Option.some.inj h8
                            subst eh8_0
                            conv => whnf
                            exact Returns.pure (r := .lit (.bool false)) rfl rfl rfl rfl ⟨rfl, rfl⟩
                      · have h8 := bif_t h7
                        clear h7
                        conv => whnf
                        refine DNodeB.of (.vs 2 (t32_0.map (api.Token.enc))) ?_ ?_
                        · conv => whnf
                          rfl
                        · obtain ⟨ch9, h9⟩ := chk_elim h8; clear h8
                          obtain ⟨t45, et45, h10⟩ := bind_elim h9; clear h9
                          conv => whnf
                          refine DNodeB.of (.iptr (api.Token.enc t45)) ?_ ?_
                          · conv => whnf
                            refine Side.mk ch9 ?_
                            conv => whnf
                            refine At.by et45 ?_
                            conv => whnf
                            rfl
                          · conv => whnf
                            refine DNodeB.of (api.Token.enc t45) ?_ ?_
                            · conv => whnf
                              rfl
                            · conv => whnf
                              refine DNodeB.of (.agg [.lit (.string t0.Kind), .lit (.string t0.Text)]) ?_ ?_
                              · conv => whnf
                                rfl
                              · obtain ⟨t48, et48, h11⟩ := letk_elim h10; clear h10
                                conv => whnf
                                refine DNodeB.of (.lit (.bool t48)) ?_ ?_
                                · conv => whnf
                                  refine EqS.mk ⟨[.s, .s], by kernel_rfl, ?_⟩
                                  conv => whnf
                                  refine Nm.mk ⟨t48, et48, ?_⟩
                                  conv => whnf
                                  rfl
                                · conv => whnf
                                  refine DNodeB.of (.lit (.bool t48)) ?_ ?_
                                  · conv => whnf
                                    rfl
                                  · conv => whnf
                                    refine DNodeB.of (.lit (.bool t48)) ?_ ?_
                                    · conv => whnf
                                      rfl
                                    · have eh11_0 := Option.some.inj h11
                                      subst eh11_0
                                      conv => whnf
                                      exact Returns.pure (r := .lit (.bool t48)) rfl rfl rfl rfl ⟨rfl, rfl⟩
  · have h2 := bif_t h1
    clear h1
    conv => whnf
    unfold Ref4.Valid.l0 at h2
    refine LoopB.of (σ := ByteArray × ByteArray × Int) (ρ := Bool) (fun v : ByteArray × ByteArray × Int => Ref4.Valid.s0 v.1 v.2.1 v.2.2) (fun v => (⟨50, [(1, .ptr 0 0), (3, .lit (.int .i64 v.2.2))], [.box [.lit (.string v.1), .lit (.string v.2.1)]]⟩ : St)) (t0.Kind, t0.Text, 0) h2 (BackS.of (Sees.of (Weak.objs (keep := [0]) (frz := []) (m := 0) (ts := [(1, .ptr 0 0), (3, .lit (.int .i64 0))]) (hs := [.box [.lit (.string t0.Kind), .lit (.string t0.Text)]]) rfl (by decide) rfl rfl ⟨⟨_, rfl, WO.boxs ⟨(.same (.lit (.string t0.Kind)) rfl), (.same (.lit (.string t0.Text)) rfl), trivial⟩⟩, ⟨rfl, fun _ h => by cases h⟩⟩ ⟨(.ptr _ _ 0 rfl), (.same (.lit (.int .i64 0)) rfl), trivial⟩)) rfl) ?_
    clear h2
    rintro K1 ⟨t1_0, t1_1, i3⟩ x1 hs0_0 hl1 hr1
    replace hs0_0 : Ref4.Valid.s0 t1_0 t1_1 i3 = some x1 := hs0_0
    unfold Ref4.Valid.s0 at hs0_0
    change bwp _ _ _ _ _ (⟨50, [(1, .ptr 0 0), (3, .lit (.int .i64 i3))], [.box [.lit (.string t1_0), .lit (.string t1_1)]]⟩ : St)
    obtain ⟨t13, et13, hs0_1⟩ := letk_elim hs0_0; clear hs0_0
    conv => whnf
    refine Nm.mk ⟨t13, et13, ?_⟩
    obtain ⟨t14, et14, hs0_2⟩ := letk_elim hs0_1; clear hs0_1
    conv => whnf
    refine Nm.mk ⟨t14, et14, ?_⟩
    rcases t14 with _ | _
    · have hs0_3 := bif_f hs0_2
      clear hs0_2
      have ehs0_3u_0 := hr1 _ (Option.some.inj hs0_3).symm
      have hs0_3u := congrArg some ehs0_3u_0
      have ehs0_3u_0 := Option.some.inj hs0_3u
      subst ehs0_3u_0
      conv => whnf
      exact Returns.pure (r := .lit (.bool true)) rfl rfl rfl rfl ⟨rfl, rfl⟩
    · have hs0_3 := bif_t hs0_2
      clear hs0_2
      obtain ⟨chs0_4, hs0_4⟩ := chk_elim hs0_3; clear hs0_3
      obtain ⟨t20, et20, hs0_5⟩ := letk_elim hs0_4; clear hs0_4
      conv => whnf
      refine Side.mk chs0_4 ?_
      conv => whnf
      refine Nm.mk ⟨t20, et20, ?_⟩
      obtain ⟨t21, et21, hs0_6⟩ := letk_elim hs0_5; clear hs0_5
      conv => whnf
      refine Nm.mk ⟨t21, et21, ?_⟩
      rcases t21 with _ | _
      · have hs0_7 := bif_f hs0_6
        clear hs0_6
        obtain ⟨chs0_8, hs0_8⟩ := chk_elim hs0_7; clear hs0_7
        obtain ⟨t26, et26, hs0_9⟩ := letk_elim hs0_8; clear hs0_8
        conv => whnf
        refine Side.mk chs0_8 ?_
        conv => whnf
        refine Nm.mk ⟨t26, et26, ?_⟩
        obtain ⟨t27, et27, hs0_10⟩ := letk_elim hs0_9; clear hs0_9
        conv => whnf
        refine Nm.mk ⟨t27, et27, ?_⟩
        rcases t27 with _ | _
        · have hs0_11 := bif_f hs0_10
          clear hs0_10
          obtain ⟨t16, et16, hs0_12⟩ := letk_elim hs0_11; clear hs0_11
          conv => whnf
          refine Nm.mk ⟨t16, et16, ?_⟩
          exact BackS.of (Sees.of (Weak.objs (keep := [0]) (frz := []) (m := 0) (ts := [(1, .ptr 0 0), (3, .lit (.int .i64 t16))]) (hs := [.box [.lit (.string t1_0), .lit (.string t1_1)]]) rfl (by decide) rfl rfl ⟨⟨_, rfl, WO.boxs ⟨(.same (.lit (.string t1_0)) rfl), (.same (.lit (.string t1_1)) rfl), trivial⟩⟩, ⟨rfl, fun _ h => by cases h⟩⟩ ⟨(.ptr _ _ 0 rfl), (.same (.lit (.int .i64 t16)) rfl), trivial⟩)) ⟨_, hl1 _ (Option.some.inj hs0_12).symm, rfl⟩
        · have hs0_11 := bif_t hs0_10
          clear hs0_10
          have ehs0_11_0 := hr1 _ (Option.some.inj hs0_11).symm
          subst ehs0_11_0
          conv => whnf
          exact Returns.pure (r := .lit (.bool false)) rfl rfl rfl rfl ⟨rfl, rfl⟩
      · have hs0_7 := bif_t hs0_6
        clear hs0_6
        have ehs0_7_0 := hr1 _ (Option.some.inj hs0_7).symm
        subst ehs0_7_0
        conv => whnf
        exact Returns.pure (r := .lit (.bool false)) rfl rfl rfl rfl ⟨rfl, rfl⟩

noncomputable def Ref4.IsName.s0 (s0 : ByteArray) (i3 : Int) : Option (Int ⊕ Bool) :=
  letk ((s0.size : Int)) fun t23 =>
  letk (decide (i3 < t23)) fun t24 =>
  bif t24 then
    chk (0 ≤ i3 ∧ i3 < (s0.size : Int)) <|
    letk (bt s0 i3) fun t29 =>
    Option.bind (Ref4.isInner t29) fun t30 =>
    letk (!t30) fun t31 =>
    bif t31 then
      some (.inr false)
    else
      chk (0 ≤ i3 ∧ i3 < (s0.size : Int)) <|
      letk (bt s0 i3) fun t35 =>
      letk (decide (t35 ≥ (65 : Int))) fun t36 =>
      bif t36 then
        chk (0 ≤ i3 ∧ i3 < (s0.size : Int)) <|
        letk (bt s0 i3) fun t40 =>
        letk (decide (t40 ≤ (90 : Int))) fun t41 =>
        bif t41 then
          some (.inr false)
        else
          letk (IntKind.i64.wrap (i3 + (1 : Int))) fun t26_1 =>
          some (.inl t26_1)
      else
        letk (IntKind.i64.wrap (i3 + (1 : Int))) fun t26 =>
        some (.inl t26)
  else
    some (.inr true)

noncomputable def Ref4.IsName.l0 (s0 : ByteArray) (i3 : Int) : Option Bool := loopO (fun v : Int => Ref4.IsName.s0 s0 v) i3
theorem Ref4.IsName.l0_eq (s0 : ByteArray) (i3 : Int) : Ref4.IsName.l0 s0 i3 = (Ref4.IsName.s0 s0 i3).bind (Sum.elim (fun v => Ref4.IsName.l0 s0 v) some) := loopO_eq _ _

noncomputable def Ref4.IsName.j0 (s0 : ByteArray) : Option Bool :=
  Ref4.IsName.l0 s0 0

noncomputable def Ref4.IsName (s0 : ByteArray) : Option Bool :=
  letk (s0.toList == (⟨#[]⟩ : ByteArray).toList) fun t5 =>
  bif t5 then
    some false
  else
    letk ((s0.size : Int)) fun t8 =>
    letk (decide (t8 > (12 : Int))) fun t9 =>
    bif t9 then
      some false
    else
      chk (0 ≤ (0 : Int) ∧ (0 : Int) < (s0.size : Int)) <|
      letk (bt s0 (0 : Int)) fun t13 =>
      letk (decide (t13 < (97 : Int))) fun t14 =>
      bif t14 then
        some false
      else
        chk (0 ≤ (0 : Int) ∧ (0 : Int) < (s0.size : Int)) <|
        letk (bt s0 (0 : Int)) fun t18 =>
        letk (decide (t18 > (122 : Int))) fun t19 =>
        bif t19 then
          some false
        else
          Ref4.IsName.j0 s0

theorem Ref4.IsName_ok {s0 : ByteArray} {r : Bool} (h0 : Ref4.IsName s0 = some r) : Gives Tryz.prog 9 [.lit (.string s0)] (.lit (.bool r)) := by
  unfold Ref4.IsName at h0
  refine ACalls.of_swp Tryz.func9 rfl (by decide) rfl (st0 := ⟨44, [(0, .lit (.string s0))], []⟩) rfl (bwp_ok (C := [(0, 3)]) ?_)
  conv => whnf
  refine CutN.of (fun s => Ref4.IsName.j0 s0 = some r ∧ s = (⟨44, [(0, .lit (.string s0))], []⟩ : St)) ?_ ?_
  · obtain ⟨t5, et5, h1⟩ := letk_elim h0; clear h0
    conv => whnf
    refine Nm.mk ⟨t5, et5, ?_⟩
    rcases t5 with _ | _
    · have h2 := bif_f h1
      clear h1
      obtain ⟨t8, et8, h3⟩ := letk_elim h2; clear h2
      conv => whnf
      refine Nm.mk ⟨t8, et8, ?_⟩
      obtain ⟨t9, et9, h4⟩ := letk_elim h3; clear h3
      conv => whnf
      refine Nm.mk ⟨t9, et9, ?_⟩
      rcases t9 with _ | _
      · have h5 := bif_f h4
        clear h4
        obtain ⟨ch6, h6⟩ := chk_elim h5; clear h5
        obtain ⟨t13, et13, h7⟩ := letk_elim h6; clear h6
        conv => whnf
        refine Side.mk ch6 ?_
        conv => whnf
        refine Nm.mk ⟨t13, et13, ?_⟩
        obtain ⟨t14, et14, h8⟩ := letk_elim h7; clear h7
        conv => whnf
        refine Nm.mk ⟨t14, et14, ?_⟩
        rcases t14 with _ | _
        · have h9 := bif_f h8
          clear h8
          obtain ⟨ch10, h10⟩ := chk_elim h9; clear h9
          obtain ⟨t18, et18, h11⟩ := letk_elim h10; clear h10
          conv => whnf
          refine Side.mk ch10 ?_
          conv => whnf
          refine Nm.mk ⟨t18, et18, ?_⟩
          obtain ⟨t19, et19, h12⟩ := letk_elim h11; clear h11
          conv => whnf
          refine Nm.mk ⟨t19, et19, ?_⟩
          rcases t19 with _ | _
          · have h13 := bif_f h12
            clear h12
            exact BackS.of (Sees.of (Weak.objs (keep := []) (frz := []) (m := 0) (ts := [(0, .lit (.string s0))]) (hs := []) rfl (by decide) rfl rfl ⟨rfl, fun _ h => by cases h⟩ ⟨(.same (.lit (.string s0)) rfl), trivial⟩)) ⟨h13, rfl⟩
          · have h13 := bif_t h12
            clear h12
            have eh13_0 := Option.some.inj h13
            subst eh13_0
            conv => whnf
            exact Returns.pure (r := .lit (.bool false)) rfl rfl rfl rfl ⟨rfl, rfl⟩
        · have h9 := bif_t h8
          clear h8
          have eh9_0 := Option.some.inj h9
          subst eh9_0
          conv => whnf
          exact Returns.pure (r := .lit (.bool false)) rfl rfl rfl rfl ⟨rfl, rfl⟩
      · have h5 := bif_t h4
        clear h4
        have eh5_0 := Option.some.inj h5
        subst eh5_0
        conv => whnf
        exact Returns.pure (r := .lit (.bool false)) rfl rfl rfl rfl ⟨rfl, rfl⟩
    · have h2 := bif_t h1
      clear h1
      have eh2_0 := Option.some.inj h2
      subst eh2_0
      conv => whnf
      exact Returns.pure (r := .lit (.bool false)) rfl rfl rfl rfl ⟨rfl, rfl⟩
  · clear h0
    rintro s ⟨hj0, rfl⟩
    unfold Ref4.IsName.j0 at hj0
    conv => whnf
    unfold Ref4.IsName.l0 at hj0
    refine LoopB.of (σ := Int) (ρ := Bool) (fun v : Int => Ref4.IsName.s0 s0 v) (fun v => (⟨44, [(0, .lit (.string s0)), (3, .lit (.int .i64 v))], []⟩ : St)) 0 hj0 (BackS.of (Sees.of (Weak.objs (keep := []) (frz := []) (m := 0) (ts := [(0, .lit (.string s0)), (3, .lit (.int .i64 0))]) (hs := []) rfl (by decide) rfl rfl ⟨rfl, fun _ h => by cases h⟩ ⟨(.same (.lit (.string s0)) rfl), (.same (.lit (.int .i64 0)) rfl), trivial⟩)) rfl) ?_
    clear hj0
    rintro K1 i3 x1 hs0_0 hl1 hr1
    replace hs0_0 : Ref4.IsName.s0 s0 i3 = some x1 := hs0_0
    unfold Ref4.IsName.s0 at hs0_0
    change bwp _ _ _ _ _ (⟨44, [(0, .lit (.string s0)), (3, .lit (.int .i64 i3))], []⟩ : St)
    obtain ⟨t23, et23, hs0_1⟩ := letk_elim hs0_0; clear hs0_0
    conv => whnf
    refine Nm.mk ⟨t23, et23, ?_⟩
    obtain ⟨t24, et24, hs0_2⟩ := letk_elim hs0_1; clear hs0_1
    conv => whnf
    refine Nm.mk ⟨t24, et24, ?_⟩
    rcases t24 with _ | _
    · have hs0_3 := bif_f hs0_2
      clear hs0_2
      have ehs0_3u_0 := hr1 _ (Option.some.inj hs0_3).symm
      have hs0_3u := congrArg some ehs0_3u_0
      have ehs0_3u_0 := Option.some.inj hs0_3u
      subst ehs0_3u_0
      conv => whnf
      exact Returns.pure (r := .lit (.bool true)) rfl rfl rfl rfl ⟨rfl, rfl⟩
    · have hs0_3 := bif_t hs0_2
      clear hs0_2
      obtain ⟨chs0_4, hs0_4⟩ := chk_elim hs0_3; clear hs0_3
      obtain ⟨t29, et29, hs0_5⟩ := letk_elim hs0_4; clear hs0_4
      conv => whnf
      refine Side.mk chs0_4 ?_
      conv => whnf
      refine Nm.mk ⟨t29, et29, ?_⟩
      obtain ⟨t30, et30, hs0_6⟩ := bind_elim hs0_5; clear hs0_5
      conv => whnf
      refine Gate.go ?_
      conv => whnf
      refine CallN.by (v := .lit (.bool t30)) (Ref4.isInner_ok et30) rfl rfl ?_
      obtain ⟨t31, et31, hs0_7⟩ := letk_elim hs0_6; clear hs0_6
      conv => whnf
      refine Nm.mk ⟨t31, et31, ?_⟩
      rcases t31 with _ | _
      · have hs0_8 := bif_f hs0_7
        clear hs0_7
        obtain ⟨chs0_9, hs0_9⟩ := chk_elim hs0_8; clear hs0_8
        obtain ⟨t35, et35, hs0_10⟩ := letk_elim hs0_9; clear hs0_9
        conv => whnf
        refine Side.mk chs0_9 ?_
        conv => whnf
        refine Nm.mk ⟨t35, et35, ?_⟩
        obtain ⟨t36, et36, hs0_11⟩ := letk_elim hs0_10; clear hs0_10
        conv => whnf
        refine Nm.mk ⟨t36, et36, ?_⟩
        rcases t36 with _ | _
        · have hs0_12 := bif_f hs0_11
          clear hs0_11
          obtain ⟨t26, et26, hs0_13⟩ := letk_elim hs0_12; clear hs0_12
          conv => whnf
          refine Nm.mk ⟨t26, et26, ?_⟩
          exact BackS.of (Sees.of (Weak.objs (keep := []) (frz := []) (m := 0) (ts := [(0, .lit (.string s0)), (3, .lit (.int .i64 t26))]) (hs := []) rfl (by decide) rfl rfl ⟨rfl, fun _ h => by cases h⟩ ⟨(.same (.lit (.string s0)) rfl), (.same (.lit (.int .i64 t26)) rfl), trivial⟩)) ⟨_, hl1 _ (Option.some.inj hs0_13).symm, rfl⟩
        · have hs0_12 := bif_t hs0_11
          clear hs0_11
          obtain ⟨chs0_13, hs0_13⟩ := chk_elim hs0_12; clear hs0_12
          obtain ⟨t40, et40, hs0_14⟩ := letk_elim hs0_13; clear hs0_13
          conv => whnf
          refine Side.mk chs0_13 ?_
          conv => whnf
          refine Nm.mk ⟨t40, et40, ?_⟩
          obtain ⟨t41, et41, hs0_15⟩ := letk_elim hs0_14; clear hs0_14
          conv => whnf
          refine Nm.mk ⟨t41, et41, ?_⟩
          rcases t41 with _ | _
          · have hs0_16 := bif_f hs0_15
            clear hs0_15
            obtain ⟨t26_1, et26_1, hs0_17⟩ := letk_elim hs0_16; clear hs0_16
            conv => whnf
            refine Nm.mk ⟨t26_1, et26_1, ?_⟩
            exact BackS.of (Sees.of (Weak.objs (keep := []) (frz := []) (m := 0) (ts := [(0, .lit (.string s0)), (3, .lit (.int .i64 t26_1))]) (hs := []) rfl (by decide) rfl rfl ⟨rfl, fun _ h => by cases h⟩ ⟨(.same (.lit (.string s0)) rfl), (.same (.lit (.int .i64 t26_1)) rfl), trivial⟩)) ⟨_, hl1 _ (Option.some.inj hs0_17).symm, rfl⟩
          · have hs0_16 := bif_t hs0_15
            clear hs0_15
            have ehs0_16_0 := hr1 _ (Option.some.inj hs0_16).symm
            subst ehs0_16_0
            conv => whnf
            exact Returns.pure (r := .lit (.bool false)) rfl rfl rfl rfl ⟨rfl, rfl⟩
      · have hs0_8 := bif_t hs0_7
        clear hs0_7
        have ehs0_8_0 := hr1 _ (Option.some.inj hs0_8).symm
        subst ehs0_8_0
        conv => whnf
        exact Returns.pure (r := .lit (.bool false)) rfl rfl rfl rfl ⟨rfl, rfl⟩

noncomputable def Ref4.Kind8.s0 (real0 : ByteArray) (i3 : Int) : Option (Int ⊕ Bool) :=
  letk ((real0.size : Int)) fun t6 =>
  letk (decide (i3 < t6)) fun t7 =>
  bif t7 then
    chk (0 ≤ i3 ∧ i3 < (real0.size : Int)) <|
    letk (bt real0 i3) fun t12 =>
    letk (t12 == (100 : Int)) fun t13 =>
    bif t13 then
      some (.inr true)
    else
      chk (0 ≤ i3 ∧ i3 < (real0.size : Int)) <|
      letk (bt real0 i3) fun t17 =>
      letk (t17 == (68 : Int)) fun t18 =>
      bif t18 then
        some (.inr true)
      else
        letk (IntKind.i64.wrap (i3 + (1 : Int))) fun t9 =>
        some (.inl t9)
  else
    some (.inr false)

noncomputable def Ref4.Kind8.l0 (real0 : ByteArray) (i3 : Int) : Option Bool := loopO (fun v : Int => Ref4.Kind8.s0 real0 v) i3
theorem Ref4.Kind8.l0_eq (real0 : ByteArray) (i3 : Int) : Ref4.Kind8.l0 real0 i3 = (Ref4.Kind8.s0 real0 i3).bind (Sum.elim (fun v => Ref4.Kind8.l0 real0 v) some) := loopO_eq _ _

noncomputable def Ref4.Kind8 (real0 : ByteArray) : Option Bool :=
  Ref4.Kind8.l0 real0 0

theorem Ref4.Kind8_ok {real0 : ByteArray} {r : Bool} (h0 : Ref4.Kind8 real0 = some r) : Gives Tryz.prog 11 [.lit (.string real0)] (.lit (.bool r)) := by
  unfold Ref4.Kind8 at h0
  refine ACalls.of_swp Tryz.func11 rfl (by decide) rfl (st0 := ⟨20, [(0, .lit (.string real0))], []⟩) rfl (bwp_ok (C := []) ?_)
  conv => whnf
  unfold Ref4.Kind8.l0 at h0
  refine LoopB.of (σ := Int) (ρ := Bool) (fun v : Int => Ref4.Kind8.s0 real0 v) (fun v => (⟨20, [(0, .lit (.string real0)), (3, .lit (.int .i64 v))], []⟩ : St)) 0 h0 (BackS.of (Sees.of (Weak.objs (keep := []) (frz := []) (m := 0) (ts := [(0, .lit (.string real0)), (3, .lit (.int .i64 0))]) (hs := []) rfl (by decide) rfl rfl ⟨rfl, fun _ h => by cases h⟩ ⟨(.same (.lit (.string real0)) rfl), (.same (.lit (.int .i64 0)) rfl), trivial⟩)) rfl) ?_
  clear h0
  rintro K1 i3 x1 hs0_0 hl1 hr1
  replace hs0_0 : Ref4.Kind8.s0 real0 i3 = some x1 := hs0_0
  unfold Ref4.Kind8.s0 at hs0_0
  change bwp _ _ _ _ _ (⟨20, [(0, .lit (.string real0)), (3, .lit (.int .i64 i3))], []⟩ : St)
  obtain ⟨t6, et6, hs0_1⟩ := letk_elim hs0_0; clear hs0_0
  conv => whnf
  refine Nm.mk ⟨t6, et6, ?_⟩
  obtain ⟨t7, et7, hs0_2⟩ := letk_elim hs0_1; clear hs0_1
  conv => whnf
  refine Nm.mk ⟨t7, et7, ?_⟩
  rcases t7 with _ | _
  · have hs0_3 := bif_f hs0_2
    clear hs0_2
    have ehs0_3u_0 := hr1 _ (Option.some.inj hs0_3).symm
    have hs0_3u := congrArg some ehs0_3u_0
    have ehs0_3u_0 := Option.some.inj hs0_3u
    subst ehs0_3u_0
    conv => whnf
    exact Returns.pure (r := .lit (.bool false)) rfl rfl rfl rfl ⟨rfl, rfl⟩
  · have hs0_3 := bif_t hs0_2
    clear hs0_2
    obtain ⟨chs0_4, hs0_4⟩ := chk_elim hs0_3; clear hs0_3
    obtain ⟨t12, et12, hs0_5⟩ := letk_elim hs0_4; clear hs0_4
    conv => whnf
    refine Side.mk chs0_4 ?_
    conv => whnf
    refine Nm.mk ⟨t12, et12, ?_⟩
    obtain ⟨t13, et13, hs0_6⟩ := letk_elim hs0_5; clear hs0_5
    conv => whnf
    refine Nm.mk ⟨t13, et13, ?_⟩
    rcases t13 with _ | _
    · have hs0_7 := bif_f hs0_6
      clear hs0_6
      obtain ⟨chs0_8, hs0_8⟩ := chk_elim hs0_7; clear hs0_7
      obtain ⟨t17, et17, hs0_9⟩ := letk_elim hs0_8; clear hs0_8
      conv => whnf
      refine Side.mk chs0_8 ?_
      conv => whnf
      refine Nm.mk ⟨t17, et17, ?_⟩
      obtain ⟨t18, et18, hs0_10⟩ := letk_elim hs0_9; clear hs0_9
      conv => whnf
      refine Nm.mk ⟨t18, et18, ?_⟩
      rcases t18 with _ | _
      · have hs0_11 := bif_f hs0_10
        clear hs0_10
        obtain ⟨t9, et9, hs0_12⟩ := letk_elim hs0_11; clear hs0_11
        conv => whnf
        refine Nm.mk ⟨t9, et9, ?_⟩
        exact BackS.of (Sees.of (Weak.objs (keep := []) (frz := []) (m := 0) (ts := [(0, .lit (.string real0)), (3, .lit (.int .i64 t9))]) (hs := []) rfl (by decide) rfl rfl ⟨rfl, fun _ h => by cases h⟩ ⟨(.same (.lit (.string real0)) rfl), (.same (.lit (.int .i64 t9)) rfl), trivial⟩)) ⟨_, hl1 _ (Option.some.inj hs0_12).symm, rfl⟩
      · have hs0_11 := bif_t hs0_10
        clear hs0_10
        have ehs0_11_0 := hr1 _ (Option.some.inj hs0_11).symm
        subst ehs0_11_0
        conv => whnf
        exact Returns.pure (r := .lit (.bool true)) rfl rfl rfl rfl ⟨rfl, rfl⟩
    · have hs0_7 := bif_t hs0_6
      clear hs0_6
      have ehs0_7_0 := hr1 _ (Option.some.inj hs0_7).symm
      subst ehs0_7_0
      conv => whnf
      exact Returns.pure (r := .lit (.bool true)) rfl rfl rfl rfl ⟨rfl, rfl⟩

noncomputable def Ref4.Write.j1 (l0 : List api.Token) (i5 : Int) (k6 : Int) (out4_3 : ByteArray) : Option ((ByteArray × Int) ⊕ ((ByteArray × Int) ⊕ (ByteArray × Int))) :=
  chk (0 ≤ i5) <|
  Option.bind (l0[i5.toNat]?) fun t61 =>
  letk (IntKind.i64.wrap (k6 + (1 : Int))) fun t66 =>
  chk (0 ≤ k6 ∧ k6 ≤ t66 ∧ t66 ≤ (t61.Text.size : Int)) <|
  letk (t61.Text.extract k6.toNat t66.toNat) fun t67 =>
  chk (((out4_3.size + t67.size : Nat) : Int) ≤ 9223372036854775807) <|
  letk (out4_3 ++ t67) fun t68 =>
  letk (IntKind.i64.wrap (k6 + (1 : Int))) fun t47 =>
  some (.inl (t68, t47))

noncomputable def Ref4.Write.s1 (l0 : List api.Token) (i5 : Int) (out4_2 : ByteArray) (k6 : Int) : Option ((ByteArray × Int) ⊕ ((ByteArray × Int) ⊕ (ByteArray × Int))) :=
  chk (0 ≤ i5) <|
  Option.bind (l0[i5.toNat]?) fun t41 =>
  letk ((t41.Text.size : Int)) fun t44 =>
  letk (decide (k6 < t44)) fun t45 =>
  bif t45 then
    chk (0 ≤ i5) <|
    Option.bind (l0[i5.toNat]?) fun t50 =>
    chk (0 ≤ k6 ∧ k6 < (t50.Text.size : Int)) <|
    letk (bt t50.Text k6) fun t54 =>
    letk (t54 == (39 : Int)) fun t55 =>
    bif t55 then
      chk (((out4_2.size + (⟨#[39]⟩ : ByteArray).size : Nat) : Int) ≤ 9223372036854775807) <|
      letk (out4_2 ++ (⟨#[39]⟩ : ByteArray)) fun t57 =>
      Ref4.Write.j1 l0 i5 k6 t57
    else
      Ref4.Write.j1 l0 i5 k6 out4_2
  else
    ((
    chk (((out4_2.size + (⟨#[39]⟩ : ByteArray).size : Nat) : Int) ≤ 9223372036854775807) <|
    letk (out4_2 ++ (⟨#[39]⟩ : ByteArray)) fun t70 =>
    letk (IntKind.i64.wrap (i5 + (1 : Int))) fun t12 =>
    some (.inl (t70, t12)))).map .inr

noncomputable def Ref4.Write.l1 (l0 : List api.Token) (i5 : Int) (out4_2 : ByteArray) (k6 : Int) : Option ((ByteArray × Int) ⊕ (ByteArray × Int)) := loopO (fun v : ByteArray × Int => Ref4.Write.s1 l0 i5 v.1 v.2) (out4_2, k6)
theorem Ref4.Write.l1_eq (l0 : List api.Token) (i5 : Int) (out4_2 : ByteArray) (k6 : Int) : Ref4.Write.l1 l0 i5 out4_2 k6 = (Ref4.Write.s1 l0 i5 out4_2 k6).bind (Sum.elim (fun v => Ref4.Write.l1 l0 i5 v.1 v.2) some) := loopO_eq _ _

noncomputable def Ref4.Write.j0 (l0 : List api.Token) (i5 : Int) (out4_1 : ByteArray) : Option ((ByteArray × Int) ⊕ (ByteArray × Int)) :=
  chk (0 ≤ i5) <|
  Option.bind (l0[i5.toNat]?) fun t25 =>
  letk (!(t25.Kind.toList == (⟨#[116, 101, 120, 116]⟩ : ByteArray).toList)) fun t28 =>
  bif t28 then
    chk (0 ≤ i5) <|
    Option.bind (l0[i5.toNat]?) fun t32 =>
    chk (((out4_1.size + t32.Text.size : Nat) : Int) ≤ 9223372036854775807) <|
    letk (out4_1 ++ t32.Text) fun t35 =>
    letk (IntKind.i64.wrap (i5 + (1 : Int))) fun t12_1 =>
    some (.inl (t35, t12_1))
  else
    chk (((out4_1.size + (⟨#[39]⟩ : ByteArray).size : Nat) : Int) ≤ 9223372036854775807) <|
    letk (out4_1 ++ (⟨#[39]⟩ : ByteArray)) fun t37 =>
    Ref4.Write.l1 l0 i5 t37 0

noncomputable def Ref4.Write.s0 (l0 : List api.Token) (out4 : ByteArray) (i5 : Int) : Option ((ByteArray × Int) ⊕ (ByteArray × Int)) :=
  letk ((l0.length : Int)) fun t9 =>
  letk (decide (i5 < t9)) fun t10 =>
  bif t10 then
    chk (0 ≤ i5) <|
    Option.bind (l0[i5.toNat]?) fun t15 =>
    Option.bind (Ref4.Valid t15) fun t17 =>
    letk (!t17) fun t18 =>
    bif t18 then
      some (.inr (⟨#[]⟩, 2))
    else
      letk (decide (i5 > (0 : Int))) fun t20 =>
      bif t20 then
        chk (((out4.size + (⟨#[32]⟩ : ByteArray).size : Nat) : Int) ≤ 9223372036854775807) <|
        letk (out4 ++ (⟨#[32]⟩ : ByteArray)) fun t22 =>
        Ref4.Write.j0 l0 i5 t22
      else
        Ref4.Write.j0 l0 i5 out4
  else
    some (.inr (out4, 0))

noncomputable def Ref4.Write.l0 (l0 : List api.Token) (out4 : ByteArray) (i5 : Int) : Option (ByteArray × Int) := loopO (fun v : ByteArray × Int => Ref4.Write.s0 l0 v.1 v.2) (out4, i5)
theorem Ref4.Write.l0_eq (l0 : List api.Token) (out4 : ByteArray) (i5 : Int) : Ref4.Write.l0 l0 out4 i5 = (Ref4.Write.s0 l0 out4 i5).bind (Sum.elim (fun v => Ref4.Write.l0 l0 v.1 v.2) some) := loopO_eq _ _

noncomputable def Ref4.Write (l0 : List api.Token) : Option (ByteArray × Int) :=
  Ref4.Write.l0 l0 (⟨#[]⟩) 0

theorem Ref4.Write_ok {l0 : List api.Token} {r : ByteArray × Int} (h0 : Ref4.Write l0 = some r) : Gives Tryz.prog 14 [.vs 2 (l0.map (api.Token.enc))] (.tup [.lit (.string r.1), .lit (.int .i64 r.2)]) := by
  unfold Ref4.Write at h0
  refine ACalls.of_swp Tryz.func14 rfl (by decide) rfl (st0 := ⟨72, [(0, .vs 2 (l0.map (api.Token.enc)))], []⟩) rfl (bwp_ok (C := [(0, 9), (0, 17)]) ?_)
  conv => whnf
  unfold Ref4.Write.l0 at h0
  refine LoopB.of (σ := ByteArray × Int) (ρ := ByteArray × Int) (fun v : ByteArray × Int => Ref4.Write.s0 l0 v.1 v.2) (fun v => (⟨72, [(0, .vs 2 (l0.map (api.Token.enc))), (4, .lit (.string v.1)), (5, .lit (.int .i64 v.2))], []⟩ : St)) (⟨#[]⟩, 0) h0 (BackS.of (Sees.of (Weak.objs (keep := []) (frz := []) (m := 0) (ts := [(0, .vs 2 (l0.map (api.Token.enc))), (4, .lit (.string ((⟨#[]⟩)))), (5, .lit (.int .i64 0))]) (hs := []) rfl (by decide) rfl rfl ⟨rfl, fun _ h => by cases h⟩ ⟨(.same (.vs 2 (l0.map (api.Token.enc))) rfl), (.same (.lit (.string (⟨#[]⟩))) rfl), (.same (.lit (.int .i64 0)) rfl), trivial⟩)) rfl) ?_
  clear h0
  rintro K1 ⟨out4, i5⟩ x1 hs0_0 hl1 hr1
  replace hs0_0 : Ref4.Write.s0 l0 out4 i5 = some x1 := hs0_0
  unfold Ref4.Write.s0 at hs0_0
  change bwp _ _ _ _ _ (⟨72, [(0, .vs 2 (l0.map (api.Token.enc))), (4, .lit (.string out4)), (5, .lit (.int .i64 i5))], []⟩ : St)
  obtain ⟨t9, et9, hs0_1⟩ := letk_elim hs0_0; clear hs0_0
  conv => whnf
  refine Nm.mk ⟨t9, by rw [et9, List.length_map], ?_⟩
  obtain ⟨t10, et10, hs0_2⟩ := letk_elim hs0_1; clear hs0_1
  conv => whnf
  refine Nm.mk ⟨t10, et10, ?_⟩
  rcases t10 with _ | _
  · have hs0_3 := bif_f hs0_2
    clear hs0_2
    have ehs0_3u_0 := hr1 _ (Option.some.inj hs0_3).symm
    have hs0_3u := congrArg some ehs0_3u_0
    have ehs0_3u_0 := Option.some.inj hs0_3u
    subst ehs0_3u_0
    conv => whnf
    exact Returns.pure (r := .tup [.lit (.string out4), .lit (.int .i64 0)]) rfl rfl rfl rfl ⟨rfl, rfl⟩
  · have hs0_3 := bif_t hs0_2
    clear hs0_2
    obtain ⟨chs0_4, hs0_4⟩ := chk_elim hs0_3; clear hs0_3
    obtain ⟨t15, et15, hs0_5⟩ := bind_elim hs0_4; clear hs0_4
    conv => whnf
    refine Side.mk chs0_4 ?_
    conv => whnf
    refine At.by et15 ?_
    obtain ⟨t17, et17, hs0_6⟩ := bind_elim hs0_5; clear hs0_5
    conv => whnf
    refine Gate.go ?_
    conv => whnf
    refine CallN.by (v := .lit (.bool t17)) (Ref4.Valid_ok et17) rfl rfl ?_
    obtain ⟨t18, et18, hs0_7⟩ := letk_elim hs0_6; clear hs0_6
    conv => whnf
    refine Nm.mk ⟨t18, et18, ?_⟩
    rcases t18 with _ | _
    · have hs0_8 := bif_f hs0_7
      clear hs0_7
      conv => whnf
      refine CutN.of (fun s => ∃ (out4_1 : ByteArray), Ref4.Write.j0 l0 i5 out4_1 = some x1 ∧ s = (⟨72, [(0, .vs 2 (l0.map (api.Token.enc))), (4, .lit (.string out4_1)), (5, .lit (.int .i64 i5))], []⟩ : St)) ?_ ?_
      · obtain ⟨t20, et20, hs0_9⟩ := letk_elim hs0_8; clear hs0_8
        conv => whnf
        refine Nm.mk ⟨t20, et20, ?_⟩
        rcases t20 with _ | _
        · have hs0_10 := bif_f hs0_9
          clear hs0_9
          exact BackS.of (Sees.of (Weak.objs (keep := []) (frz := []) (m := 0) (ts := [(0, .vs 2 (l0.map (api.Token.enc))), (4, .lit (.string out4)), (5, .lit (.int .i64 i5))]) (hs := []) rfl (by decide) rfl rfl ⟨rfl, fun _ h => by cases h⟩ ⟨(.same (.vs 2 (l0.map (api.Token.enc))) rfl), (.same (.lit (.string out4)) rfl), (.same (.lit (.int .i64 i5)) rfl), trivial⟩)) ⟨_, hs0_10, rfl⟩
        · have hs0_10 := bif_t hs0_9
          clear hs0_9
          obtain ⟨chs0_11, hs0_11⟩ := chk_elim hs0_10; clear hs0_10
          obtain ⟨t22, et22, hs0_12⟩ := letk_elim hs0_11; clear hs0_11
          conv => whnf
          refine Side.mk chs0_11 ?_
          conv => whnf
          refine Nm.mk ⟨t22, et22, ?_⟩
          exact BackS.of (Sees.of (Weak.objs (keep := []) (frz := []) (m := 0) (ts := [(0, .vs 2 (l0.map (api.Token.enc))), (4, .lit (.string t22)), (5, .lit (.int .i64 i5))]) (hs := []) rfl (by decide) rfl rfl ⟨rfl, fun _ h => by cases h⟩ ⟨(.same (.vs 2 (l0.map (api.Token.enc))) rfl), (.same (.lit (.string t22)) rfl), (.same (.lit (.int .i64 i5)) rfl), trivial⟩)) ⟨_, hs0_12, rfl⟩
      · clear hs0_8
        rintro s ⟨out4_1, hj0, rfl⟩
        unfold Ref4.Write.j0 at hj0
        obtain ⟨chj1, hj1⟩ := chk_elim hj0; clear hj0
        obtain ⟨t25, et25, hj2⟩ := bind_elim hj1; clear hj1
        conv => whnf
        refine Side.mk chj1 ?_
        conv => whnf
        refine At.by et25 ?_
        obtain ⟨t28, et28, hj3⟩ := letk_elim hj2; clear hj2
        conv => whnf
        refine Nm.mk ⟨t28, et28, ?_⟩
        rcases t28 with _ | _
        · have hj4 := bif_f hj3
          clear hj3
          obtain ⟨chj5, hj5⟩ := chk_elim hj4; clear hj4
          obtain ⟨t37, et37, hj6⟩ := letk_elim hj5; clear hj5
          conv => whnf
          refine Side.mk chj5 ?_
          conv => whnf
          refine Nm.mk ⟨t37, et37, ?_⟩
          conv => whnf
          unfold Ref4.Write.l1 at hj6
          refine LoopB.of (σ := ByteArray × Int) (ρ := (ByteArray × Int) ⊕ (ByteArray × Int)) (fun v : ByteArray × Int => Ref4.Write.s1 l0 i5 v.1 v.2) (fun v => (⟨72, [(0, .vs 2 (l0.map (api.Token.enc))), (4, .lit (.string v.1)), (5, .lit (.int .i64 i5)), (6, .lit (.int .i64 v.2))], []⟩ : St)) (t37, 0) hj6 (BackS.of (Sees.of (Weak.objs (keep := []) (frz := []) (m := 0) (ts := [(0, .vs 2 (l0.map (api.Token.enc))), (4, .lit (.string t37)), (5, .lit (.int .i64 i5)), (6, .lit (.int .i64 0))]) (hs := []) rfl (by decide) rfl rfl ⟨rfl, fun _ h => by cases h⟩ ⟨(.same (.vs 2 (l0.map (api.Token.enc))) rfl), (.same (.lit (.string t37)) rfl), (.same (.lit (.int .i64 i5)) rfl), (.same (.lit (.int .i64 0)) rfl), trivial⟩)) rfl) ?_
          clear hj6
          rintro K2 ⟨out4_2, k6⟩ x2 hs1_0 hl2 hr2
          replace hs1_0 : Ref4.Write.s1 l0 i5 out4_2 k6 = some x2 := hs1_0
          unfold Ref4.Write.s1 at hs1_0
          change bwp _ _ _ _ _ (⟨72, [(0, .vs 2 (l0.map (api.Token.enc))), (4, .lit (.string out4_2)), (5, .lit (.int .i64 i5)), (6, .lit (.int .i64 k6))], []⟩ : St)
          obtain ⟨chs1_1, hs1_1⟩ := chk_elim hs1_0; clear hs1_0
          obtain ⟨t41, et41, hs1_2⟩ := bind_elim hs1_1; clear hs1_1
          conv => whnf
          refine Side.mk chs1_1 ?_
          conv => whnf
          refine At.by et41 ?_
          obtain ⟨t44, et44, hs1_3⟩ := letk_elim hs1_2; clear hs1_2
          conv => whnf
          refine Nm.mk ⟨t44, et44, ?_⟩
          obtain ⟨t45, et45, hs1_4⟩ := letk_elim hs1_3; clear hs1_3
          conv => whnf
          refine Nm.mk ⟨t45, et45, ?_⟩
          rcases t45 with _ | _
          · have hs1_5 := bif_f hs1_4
            clear hs1_4
            obtain ⟨yhs1_5_0, hs1_5u, ehs1_5_0⟩ := map_elim hs1_5
            have ehs1_5_0 := hr2 _ ehs1_5_0.symm
            subst ehs1_5_0
            obtain ⟨chs1_5u0, hs1_5u0⟩ := chk_elim hs1_5u; clear hs1_5u
            obtain ⟨t70, et70, hs1_5u1⟩ := letk_elim hs1_5u0; clear hs1_5u0
            conv => whnf
            refine Side.mk chs1_5u0 ?_
            conv => whnf
            refine Nm.mk ⟨t70, et70, ?_⟩
            obtain ⟨t12, et12, hs1_5u2⟩ := letk_elim hs1_5u1; clear hs1_5u1
            conv => whnf
            refine Nm.mk ⟨t12, et12, ?_⟩
            exact BackS.of (Sees.of (Weak.objs (keep := []) (frz := []) (m := 0) (ts := [(0, .vs 2 (l0.map (api.Token.enc))), (4, .lit (.string t70)), (5, .lit (.int .i64 t12))]) (hs := []) rfl (by decide) rfl rfl ⟨rfl, fun _ h => by cases h⟩ ⟨(.same (.vs 2 (l0.map (api.Token.enc))) rfl), (.same (.lit (.string t70)) rfl), (.same (.lit (.int .i64 t12)) rfl), trivial⟩)) ⟨_, hl1 _ (Option.some.inj hs1_5u2).symm, rfl⟩
          · have hs1_5 := bif_t hs1_4
            clear hs1_4
            conv => whnf
            refine CutN.of (fun s => ∃ (out4_3 : ByteArray), Ref4.Write.j1 l0 i5 k6 out4_3 = some x2 ∧ s = (⟨72, [(0, .vs 2 (l0.map (api.Token.enc))), (4, .lit (.string out4_3)), (5, .lit (.int .i64 i5)), (6, .lit (.int .i64 k6))], []⟩ : St)) ?_ ?_
            · obtain ⟨chs1_6, hs1_6⟩ := chk_elim hs1_5; clear hs1_5
              obtain ⟨t50, et50, hs1_7⟩ := bind_elim hs1_6; clear hs1_6
              conv => whnf
              refine Side.mk chs1_6 ?_
              conv => whnf
              refine At.by et50 ?_
              obtain ⟨chs1_8, hs1_8⟩ := chk_elim hs1_7; clear hs1_7
              obtain ⟨t54, et54, hs1_9⟩ := letk_elim hs1_8; clear hs1_8
              conv => whnf
              refine Side.mk chs1_8 ?_
              conv => whnf
              refine Nm.mk ⟨t54, et54, ?_⟩
              obtain ⟨t55, et55, hs1_10⟩ := letk_elim hs1_9; clear hs1_9
              conv => whnf
              refine Nm.mk ⟨t55, et55, ?_⟩
              rcases t55 with _ | _
              · have hs1_11 := bif_f hs1_10
                clear hs1_10
                exact BackS.of (Sees.of (Weak.objs (keep := []) (frz := []) (m := 0) (ts := [(0, .vs 2 (l0.map (api.Token.enc))), (4, .lit (.string out4_2)), (5, .lit (.int .i64 i5)), (6, .lit (.int .i64 k6))]) (hs := []) rfl (by decide) rfl rfl ⟨rfl, fun _ h => by cases h⟩ ⟨(.same (.vs 2 (l0.map (api.Token.enc))) rfl), (.same (.lit (.string out4_2)) rfl), (.same (.lit (.int .i64 i5)) rfl), (.same (.lit (.int .i64 k6)) rfl), trivial⟩)) ⟨_, hs1_11, rfl⟩
              · have hs1_11 := bif_t hs1_10
                clear hs1_10
                obtain ⟨chs1_12, hs1_12⟩ := chk_elim hs1_11; clear hs1_11
                obtain ⟨t57, et57, hs1_13⟩ := letk_elim hs1_12; clear hs1_12
                conv => whnf
                refine Side.mk chs1_12 ?_
                conv => whnf
                refine Nm.mk ⟨t57, et57, ?_⟩
                exact BackS.of (Sees.of (Weak.objs (keep := []) (frz := []) (m := 0) (ts := [(0, .vs 2 (l0.map (api.Token.enc))), (4, .lit (.string t57)), (5, .lit (.int .i64 i5)), (6, .lit (.int .i64 k6))]) (hs := []) rfl (by decide) rfl rfl ⟨rfl, fun _ h => by cases h⟩ ⟨(.same (.vs 2 (l0.map (api.Token.enc))) rfl), (.same (.lit (.string t57)) rfl), (.same (.lit (.int .i64 i5)) rfl), (.same (.lit (.int .i64 k6)) rfl), trivial⟩)) ⟨_, hs1_13, rfl⟩
            · clear hs1_5
              rintro s ⟨out4_3, hj0, rfl⟩
              unfold Ref4.Write.j1 at hj0
              obtain ⟨chj1, hj1⟩ := chk_elim hj0; clear hj0
              obtain ⟨t61, et61, hj2⟩ := bind_elim hj1; clear hj1
              conv => whnf
              refine Side.mk chj1 ?_
              conv => whnf
              refine At.by et61 ?_
              obtain ⟨t66, et66, hj3⟩ := letk_elim hj2; clear hj2
              conv => whnf
              refine Nm.mk ⟨t66, et66, ?_⟩
              obtain ⟨chj4, hj4⟩ := chk_elim hj3; clear hj3
              obtain ⟨t67, et67, hj5⟩ := letk_elim hj4; clear hj4
              conv => whnf
              refine Side.mk chj4 ?_
              conv => whnf
              refine Nm.mk ⟨t67, et67, ?_⟩
              obtain ⟨chj6, hj6⟩ := chk_elim hj5; clear hj5
              obtain ⟨t68, et68, hj7⟩ := letk_elim hj6; clear hj6
              conv => whnf
              refine Side.mk chj6 ?_
              conv => whnf
              refine Nm.mk ⟨t68, et68, ?_⟩
              obtain ⟨t47, et47, hj8⟩ := letk_elim hj7; clear hj7
              conv => whnf
              refine Nm.mk ⟨t47, et47, ?_⟩
              exact BackS.of (Sees.of (Weak.objs (keep := []) (frz := []) (m := 0) (ts := [(0, .vs 2 (l0.map (api.Token.enc))), (4, .lit (.string t68)), (5, .lit (.int .i64 i5)), (6, .lit (.int .i64 t47))]) (hs := []) rfl (by decide) rfl rfl ⟨rfl, fun _ h => by cases h⟩ ⟨(.same (.vs 2 (l0.map (api.Token.enc))) rfl), (.same (.lit (.string t68)) rfl), (.same (.lit (.int .i64 i5)) rfl), (.same (.lit (.int .i64 t47)) rfl), trivial⟩)) ⟨_, hl2 _ (Option.some.inj hj8).symm, rfl⟩
        · have hj4 := bif_t hj3
          clear hj3
          obtain ⟨chj5, hj5⟩ := chk_elim hj4; clear hj4
          obtain ⟨t32, et32, hj6⟩ := bind_elim hj5; clear hj5
          conv => whnf
          refine Side.mk chj5 ?_
          conv => whnf
          refine At.by et32 ?_
          obtain ⟨chj7, hj7⟩ := chk_elim hj6; clear hj6
          obtain ⟨t35, et35, hj8⟩ := letk_elim hj7; clear hj7
          conv => whnf
          refine Side.mk chj7 ?_
          conv => whnf
          refine Nm.mk ⟨t35, et35, ?_⟩
          obtain ⟨t12_1, et12_1, hj9⟩ := letk_elim hj8; clear hj8
          conv => whnf
          refine Nm.mk ⟨t12_1, et12_1, ?_⟩
          exact BackS.of (Sees.of (Weak.objs (keep := []) (frz := []) (m := 0) (ts := [(0, .vs 2 (l0.map (api.Token.enc))), (4, .lit (.string t35)), (5, .lit (.int .i64 t12_1))]) (hs := []) rfl (by decide) rfl rfl ⟨rfl, fun _ h => by cases h⟩ ⟨(.same (.vs 2 (l0.map (api.Token.enc))) rfl), (.same (.lit (.string t35)) rfl), (.same (.lit (.int .i64 t12_1)) rfl), trivial⟩)) ⟨_, hl1 _ (Option.some.inj hj9).symm, rfl⟩
    · have hs0_8 := bif_t hs0_7
      clear hs0_7
      have ehs0_8_0 := hr1 _ (Option.some.inj hs0_8).symm
      subst ehs0_8_0
      conv => whnf
      exact Returns.pure (r := .tup [.lit (.string (⟨#[]⟩)), .lit (.int .i64 2)]) rfl rfl rfl rfl ⟨rfl, rfl⟩

end Go.Q
