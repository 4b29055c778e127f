import Derived.Test.YtoecgpemlfoogaaDoorFG3
import Derived.Test.YtoecgpemlfoogaaDoorFX
import Derived.Test.YtoecgpemlfoogaaDoorProg
namespace Go.Q
open Go Go.Proofs
set_option maxRecDepth 10000
set_option maxHeartbeats 8000000

noncomputable def Ref3.marks.j0 (s0 : ByteArray) (open1_1 : Int) (out5 : List Int) (i6 : Int) (t15 : Bool) : Option ((Int × (List Int) × Int) ⊕ ((List Int))) :=
  bif t15 then
    chk (0 ≤ i6 ∧ i6 < (s0.size : Int)) <|
    letk (bt s0 i6) fun t32 =>
    chk ((out5.length + ([t32]).length) * 1 ≤ 140737488355328) <|
    letk (out5 ++ ([t32])) fun t46_3 =>
    letk (IntKind.i64.wrap (i6 + (1 : Int))) fun t14_3 =>
    some (.inl (t32, t46_3, t14_3))
  else
    letk (open1_1 != (0 : Int)) fun t35 =>
    bif t35 then
      chk (0 ≤ i6 ∧ i6 < (s0.size : Int)) <|
      letk (bt s0 i6) fun t39 =>
      letk (t39 == open1_1) fun t41 =>
      bif t41 then
        chk ((out5.length + ([0]).length) * 1 ≤ 140737488355328) <|
        letk (out5 ++ ([0])) fun t46_2 =>
        letk (IntKind.i64.wrap (i6 + (1 : Int))) fun t14_2 =>
        some (.inl (0, t46_2, t14_2))
      else
        chk ((out5.length + ([open1_1]).length) * 1 ≤ 140737488355328) <|
        letk (out5 ++ ([open1_1])) fun t46_1 =>
        letk (IntKind.i64.wrap (i6 + (1 : Int))) fun t14_1 =>
        some (.inl (open1_1, t46_1, t14_1))
    else
      chk ((out5.length + ([open1_1]).length) * 1 ≤ 140737488355328) <|
      letk (out5 ++ ([open1_1])) fun t46 =>
      letk (IntKind.i64.wrap (i6 + (1 : Int))) fun t14 =>
      some (.inl (open1_1, t46, t14))

noncomputable def Ref3.marks.s0 (s0 : ByteArray) (open1_1 : Int) (out5 : List Int) (i6 : Int) : Option ((Int × (List Int) × Int) ⊕ ((List Int))) :=
  letk ((s0.size : Int)) fun t11 =>
  letk (decide (i6 < t11)) fun t12 =>
  bif t12 then
    letk (open1_1 == (0 : Int)) fun t17 =>
    bif t17 then
      chk (0 ≤ i6 ∧ i6 < (s0.size : Int)) <|
      letk (bt s0 i6) fun t21 =>
      letk (t21 == (39 : Int)) fun t22 =>
      bif t22 then
        Ref3.marks.j0 s0 open1_1 out5 i6 true
      else
        chk (0 ≤ i6 ∧ i6 < (s0.size : Int)) <|
        letk (bt s0 i6) fun t26 =>
        letk (t26 == (34 : Int)) fun t27 =>
        Ref3.marks.j0 s0 open1_1 out5 i6 t27
    else
      Ref3.marks.j0 s0 open1_1 out5 i6 false
  else
    some (.inr out5)

noncomputable def Ref3.marks.l0 (s0 : ByteArray) (open1_1 : Int) (out5 : List Int) (i6 : Int) : Option ((List Int)) := loopO (fun v : Int × (List Int) × Int => Ref3.marks.s0 s0 v.1 v.2.1 v.2.2) (open1_1, out5, i6)
theorem Ref3.marks.l0_eq (s0 : ByteArray) (open1_1 : Int) (out5 : List Int) (i6 : Int) : Ref3.marks.l0 s0 open1_1 out5 i6 = (Ref3.marks.s0 s0 open1_1 out5 i6).bind (Sum.elim (fun v => Ref3.marks.l0 s0 v.1 v.2.1 v.2.2) some) := loopO_eq _ _

noncomputable def Ref3.marks (s0 : ByteArray) (open1 : Int) : Option ((List Int)) :=
  Ref3.marks.l0 s0 open1 ([open1]) 0

theorem Ref3.marks_ok {s0 : ByteArray} {open1 : Int} {r : (List Int)} (h0 : Ref3.marks s0 open1 = some r) : Gives Tryd.prog 15 [.lit (.string s0), .lit (.int .u8 open1)] (.vs 1 (r.map (eI .u8))) := by
  unfold Ref3.marks at h0
  refine ACalls.of_swp Tryd.func15 rfl (by decide) rfl (st0 := ⟨48, [(0, .lit (.string s0)), (1, .lit (.int .u8 open1))], []⟩) rfl (bwp_ok (C := [(25, 13)]) ?_)
  conv => whnf
  refine Gate.go ?_
  conv => whnf
  refine Nm.mk ⟨([open1]).map (eI .u8), rfl, ?_⟩
  conv => whnf
  unfold Ref3.marks.l0 at h0
  refine LoopB.of (σ := Int × (List Int) × Int) (ρ := (List Int)) (fun v : Int × (List Int) × Int => Ref3.marks.s0 s0 v.1 v.2.1 v.2.2) (fun v => (⟨48, [(0, .lit (.string s0)), (1, .lit (.int .u8 v.1)), (5, .ref 0 0 ((v.2.1.map (eI .u8)).length)), (6, .lit (.int .i64 v.2.2))], [.arr 1 (v.2.1.map (eI .u8))]⟩ : St)) (open1, [open1], 0) h0 (BackS.of (Sees.of (Weak.objs (keep := [0]) (frz := []) (m := 0) (ts := [(0, .lit (.string s0)), (1, .lit (.int .u8 open1)), (5, .ref 0 0 ((([open1]).map (eI .u8)).length)), (6, .lit (.int .i64 0))]) (hs := [.arr 1 ((([open1])).map (eI .u8))]) rfl (by decide) rfl rfl ⟨⟨_, rfl, .arr _ _⟩, ⟨rfl, fun _ h => by cases h⟩⟩ ⟨(.same (.lit (.string s0)) rfl), (.same (.lit (.int .u8 open1)) rfl), (.ref _ _ _ 0 rfl), (.same (.lit (.int .i64 0)) rfl), trivial⟩)) rfl) ?_
  clear h0
  rintro K1 ⟨open1_1, out5, i6⟩ x1 hs0_0 hl1 hr1
  replace hs0_0 : Ref3.marks.s0 s0 open1_1 out5 i6 = some x1 := hs0_0
  unfold Ref3.marks.s0 at hs0_0
  change bwp _ _ _ _ _ (⟨48, [(0, .lit (.string s0)), (1, .lit (.int .u8 open1_1)), (5, .ref 0 0 ((out5.map (eI .u8)).length)), (6, .lit (.int .i64 i6))], [.arr 1 (out5.map (eI .u8))]⟩ : St)
  obtain ⟨t11, et11, hs0_1⟩ := letk_elim hs0_0; clear hs0_0
  conv => whnf
  refine Nm.mk ⟨t11, et11, ?_⟩
  obtain ⟨t12, et12, hs0_2⟩ := letk_elim hs0_1; clear hs0_1
  conv => whnf
  refine Nm.mk ⟨t12, et12, ?_⟩
  rcases t12 with _ | _
  · have hs0_3 := bif_f hs0_2
    clear hs0_2
    have ehs0_3u_0 := hr1 _ (Option.some.inj hs0_3).symm
    have hs0_3u := congrArg some ehs0_3u_0
    have ehs0_3u_0 := Option.some.inj hs0_3u
    subst ehs0_3u_0
    conv => whnf
    exact Returns.frozen (r := .vs 1 (out5.map (eI .u8))) [0] rfl rfl (WV.all (k := 0) (by decide) rfl) ⟨rfl, rfl⟩
  · have hs0_3 := bif_t hs0_2
    clear hs0_2
    conv => whnf
    refine CutN.of (fun s => ∃ (t15 : Bool), Ref3.marks.j0 s0 open1_1 out5 i6 t15 = some x1 ∧ s = (⟨48, [(0, .lit (.string s0)), (1, .lit (.int .u8 open1_1)), (5, .ref 0 0 ((out5.map (eI .u8)).length)), (6, .lit (.int .i64 i6)), (15, .lit (.bool t15))], [.arr 1 (out5.map (eI .u8))]⟩ : St)) ?_ ?_
    · obtain ⟨t17, et17, hs0_4⟩ := letk_elim hs0_3; clear hs0_3
      conv => whnf
      refine Nm.mk ⟨t17, et17, ?_⟩
      rcases t17 with _ | _
      · have hs0_5 := bif_f hs0_4
        clear hs0_4
        exact BackS.of (Sees.of (Weak.objs (keep := [0]) (frz := []) (m := 0) (ts := [(0, .lit (.string s0)), (1, .lit (.int .u8 open1_1)), (5, .ref 0 0 ((out5.map (eI .u8)).length)), (6, .lit (.int .i64 i6)), (15, .lit (.bool false))]) (hs := [.arr 1 (out5.map (eI .u8))]) rfl (by decide) rfl rfl ⟨⟨_, rfl, .arr _ _⟩, ⟨rfl, fun _ h => by cases h⟩⟩ ⟨(.same (.lit (.string s0)) rfl), (.same (.lit (.int .u8 open1_1)) rfl), (.ref _ _ _ 0 rfl), (.same (.lit (.int .i64 i6)) rfl), (.same (.lit (.bool false)) rfl), trivial⟩)) ⟨_, hs0_5, rfl⟩
      · have hs0_5 := bif_t hs0_4
        clear hs0_4
        obtain ⟨chs0_6, hs0_6⟩ := chk_elim hs0_5; clear hs0_5
        obtain ⟨t21, et21, hs0_7⟩ := letk_elim hs0_6; clear hs0_6
        conv => whnf
        refine Side.mk chs0_6 ?_
        conv => whnf
        refine Nm.mk ⟨t21, et21, ?_⟩
        obtain ⟨t22, et22, hs0_8⟩ := letk_elim hs0_7; clear hs0_7
        conv => whnf
        refine Nm.mk ⟨t22, et22, ?_⟩
        rcases t22 with _ | _
        · have hs0_9 := bif_f hs0_8
          clear hs0_8
          obtain ⟨chs0_10, hs0_10⟩ := chk_elim hs0_9; clear hs0_9
          obtain ⟨t26, et26, hs0_11⟩ := letk_elim hs0_10; clear hs0_10
          conv => whnf
          refine Side.mk chs0_10 ?_
          conv => whnf
          refine Nm.mk ⟨t26, et26, ?_⟩
          obtain ⟨t27, et27, hs0_12⟩ := letk_elim hs0_11; clear hs0_11
          conv => whnf
          refine Nm.mk ⟨t27, et27, ?_⟩
          exact BackS.of (Sees.of (Weak.objs (keep := [0]) (frz := []) (m := 0) (ts := [(0, .lit (.string s0)), (1, .lit (.int .u8 open1_1)), (5, .ref 0 0 ((out5.map (eI .u8)).length)), (6, .lit (.int .i64 i6)), (15, .lit (.bool t27))]) (hs := [.arr 1 (out5.map (eI .u8))]) rfl (by decide) rfl rfl ⟨⟨_, rfl, .arr _ _⟩, ⟨rfl, fun _ h => by cases h⟩⟩ ⟨(.same (.lit (.string s0)) rfl), (.same (.lit (.int .u8 open1_1)) rfl), (.ref _ _ _ 0 rfl), (.same (.lit (.int .i64 i6)) rfl), (.same (.lit (.bool t27)) rfl), trivial⟩)) ⟨_, hs0_12, rfl⟩
        · have hs0_9 := bif_t hs0_8
          clear hs0_8
          exact BackS.of (Sees.of (Weak.objs (keep := [0]) (frz := []) (m := 0) (ts := [(0, .lit (.string s0)), (1, .lit (.int .u8 open1_1)), (5, .ref 0 0 ((out5.map (eI .u8)).length)), (6, .lit (.int .i64 i6)), (15, .lit (.bool true))]) (hs := [.arr 1 (out5.map (eI .u8))]) rfl (by decide) rfl rfl ⟨⟨_, rfl, .arr _ _⟩, ⟨rfl, fun _ h => by cases h⟩⟩ ⟨(.same (.lit (.string s0)) rfl), (.same (.lit (.int .u8 open1_1)) rfl), (.ref _ _ _ 0 rfl), (.same (.lit (.int .i64 i6)) rfl), (.same (.lit (.bool true)) rfl), trivial⟩)) ⟨_, hs0_9, rfl⟩
    · clear hs0_3
      rintro s ⟨t15, hj0, rfl⟩
      unfold Ref3.marks.j0 at hj0
      rcases t15 with _ | _
      · have hj1 := bif_f hj0
        clear hj0
        obtain ⟨t35, et35, hj2⟩ := letk_elim hj1; clear hj1
        conv => whnf
        refine Nm.mk ⟨t35, et35, ?_⟩
        rcases t35 with _ | _
        · have hj3 := bif_f hj2
          clear hj2
          conv => whnf
          refine Gate.go ?_
          conv => whnf
          refine Nm.mk ⟨([open1_1]).map (eI .u8), rfl, ?_⟩
          obtain ⟨chj4, hj4⟩ := chk_elim hj3; clear hj3
          obtain ⟨t46, et46, hj5⟩ := letk_elim hj4; clear hj4
          conv => whnf
          refine Gate.go ?_
          conv => whnf
          refine Side.mk (full_le _) ?_
          conv => whnf
          refine Side.mk ⟨full_le _, one_map (fun _ _ hc => by simp only [AV.cells, List.mem_singleton] at hc; subst hc; rfl)⟩ ?_
          conv => whnf
          refine Side.mk (side_rr (by decide) chj4) ?_
          conv => whnf
          refine Nm.mk ⟨t46.map (eI .u8), by rw [et46]; exact app_rr (m := [open1_1]), ?_⟩
          obtain ⟨t14, et14, hj6⟩ := letk_elim hj5; clear hj5
          conv => whnf
          refine Nm.mk ⟨t14, et14, ?_⟩
          exact BackS.of (Sees.of (Weak.objs (keep := [2]) (frz := []) (m := 0) (ts := [(0, .lit (.string s0)), (1, .lit (.int .u8 open1_1)), (5, .ref 0 0 ((t46.map (eI .u8)).length)), (6, .lit (.int .i64 t14))]) (hs := [.arr 1 (t46.map (eI .u8))]) rfl (by decide) rfl rfl ⟨⟨_, rfl, .arr _ _⟩, ⟨rfl, fun _ h => by cases h⟩⟩ ⟨(.same (.lit (.string s0)) rfl), (.same (.lit (.int .u8 open1_1)) rfl), (.ref _ _ _ 0 rfl), (.same (.lit (.int .i64 t14)) rfl), trivial⟩)) ⟨_, hl1 _ (Option.some.inj hj6).symm, rfl⟩
        · have hj3 := bif_t hj2
          clear hj2
          obtain ⟨chj4, hj4⟩ := chk_elim hj3; clear hj3
          obtain ⟨t39, et39, hj5⟩ := letk_elim hj4; clear hj4
          conv => whnf
          refine Side.mk chj4 ?_
          conv => whnf
          refine Nm.mk ⟨t39, et39, ?_⟩
          obtain ⟨t41, et41, hj6⟩ := letk_elim hj5; clear hj5
          conv => whnf
          refine Nm.mk ⟨t41, et41, ?_⟩
          rcases t41 with _ | _
          · have hj7 := bif_f hj6
            clear hj6
            conv => whnf
            refine Gate.go ?_
            conv => whnf
            refine Nm.mk ⟨([open1_1]).map (eI .u8), rfl, ?_⟩
            obtain ⟨chj8, hj8⟩ := chk_elim hj7; clear hj7
            obtain ⟨t46_1, et46_1, hj9⟩ := letk_elim hj8; clear hj8
            conv => whnf
            refine Gate.go ?_
            conv => whnf
            refine Side.mk (full_le _) ?_
            conv => whnf
            refine Side.mk ⟨full_le _, one_map (fun _ _ hc => by simp only [AV.cells, List.mem_singleton] at hc; subst hc; rfl)⟩ ?_
            conv => whnf
            refine Side.mk (side_rr (by decide) chj8) ?_
            conv => whnf
            refine Nm.mk ⟨t46_1.map (eI .u8), by rw [et46_1]; exact app_rr (m := [open1_1]), ?_⟩
            obtain ⟨t14_1, et14_1, hj10⟩ := letk_elim hj9; clear hj9
            conv => whnf
            refine Nm.mk ⟨t14_1, et14_1, ?_⟩
            exact BackS.of (Sees.of (Weak.objs (keep := [2]) (frz := []) (m := 0) (ts := [(0, .lit (.string s0)), (1, .lit (.int .u8 open1_1)), (5, .ref 0 0 ((t46_1.map (eI .u8)).length)), (6, .lit (.int .i64 t14_1))]) (hs := [.arr 1 (t46_1.map (eI .u8))]) rfl (by decide) rfl rfl ⟨⟨_, rfl, .arr _ _⟩, ⟨rfl, fun _ h => by cases h⟩⟩ ⟨(.same (.lit (.string s0)) rfl), (.same (.lit (.int .u8 open1_1)) rfl), (.ref _ _ _ 0 rfl), (.same (.lit (.int .i64 t14_1)) rfl), trivial⟩)) ⟨_, hl1 _ (Option.some.inj hj10).symm, rfl⟩
          · have hj7 := bif_t hj6
            clear hj6
            conv => whnf
            refine Gate.go ?_
            conv => whnf
            refine Nm.mk ⟨([0]).map (eI .u8), rfl, ?_⟩
            obtain ⟨chj8, hj8⟩ := chk_elim hj7; clear hj7
            obtain ⟨t46_2, et46_2, hj9⟩ := letk_elim hj8; clear hj8
            conv => whnf
            refine Gate.go ?_
            conv => whnf
            refine Side.mk (full_le _) ?_
            conv => whnf
            refine Side.mk ⟨full_le _, one_map (fun _ _ hc => by simp only [AV.cells, List.mem_singleton] at hc; subst hc; rfl)⟩ ?_
            conv => whnf
            refine Side.mk (side_rr (by decide) chj8) ?_
            conv => whnf
            refine Nm.mk ⟨t46_2.map (eI .u8), by rw [et46_2]; exact app_rr (m := [0]), ?_⟩
            obtain ⟨t14_2, et14_2, hj10⟩ := letk_elim hj9; clear hj9
            conv => whnf
            refine Nm.mk ⟨t14_2, et14_2, ?_⟩
            exact BackS.of (Sees.of (Weak.objs (keep := [2]) (frz := []) (m := 0) (ts := [(0, .lit (.string s0)), (1, .lit (.int .u8 0)), (5, .ref 0 0 ((t46_2.map (eI .u8)).length)), (6, .lit (.int .i64 t14_2))]) (hs := [.arr 1 (t46_2.map (eI .u8))]) rfl (by decide) rfl rfl ⟨⟨_, rfl, .arr _ _⟩, ⟨rfl, fun _ h => by cases h⟩⟩ ⟨(.same (.lit (.string s0)) rfl), (.same (.lit (.int .u8 0)) rfl), (.ref _ _ _ 0 rfl), (.same (.lit (.int .i64 t14_2)) rfl), trivial⟩)) ⟨_, hl1 _ (Option.some.inj hj10).symm, rfl⟩
      · have hj1 := bif_t hj0
        clear hj0
        obtain ⟨chj2, hj2⟩ := chk_elim hj1; clear hj1
        obtain ⟨t32, et32, hj3⟩ := letk_elim hj2; clear hj2
        conv => whnf
        refine Side.mk chj2 ?_
        conv => whnf
        refine Nm.mk ⟨t32, et32, ?_⟩
        conv => whnf
        refine Gate.go ?_
        conv => whnf
        refine Nm.mk ⟨([t32]).map (eI .u8), rfl, ?_⟩
        obtain ⟨chj4, hj4⟩ := chk_elim hj3; clear hj3
        obtain ⟨t46_3, et46_3, hj5⟩ := letk_elim hj4; clear hj4
        conv => whnf
        refine Gate.go ?_
        conv => whnf
        refine Side.mk (full_le _) ?_
        conv => whnf
        refine Side.mk ⟨full_le _, one_map (fun _ _ hc => by simp only [AV.cells, List.mem_singleton] at hc; subst hc; rfl)⟩ ?_
        conv => whnf
        refine Side.mk (side_rr (by decide) chj4) ?_
        conv => whnf
        refine Nm.mk ⟨t46_3.map (eI .u8), by rw [et46_3]; exact app_rr (m := [t32]), ?_⟩
        obtain ⟨t14_3, et14_3, hj6⟩ := letk_elim hj5; clear hj5
        conv => whnf
        refine Nm.mk ⟨t14_3, et14_3, ?_⟩
        exact BackS.of (Sees.of (Weak.objs (keep := [2]) (frz := []) (m := 0) (ts := [(0, .lit (.string s0)), (1, .lit (.int .u8 t32)), (5, .ref 0 0 ((t46_3.map (eI .u8)).length)), (6, .lit (.int .i64 t14_3))]) (hs := [.arr 1 (t46_3.map (eI .u8))]) rfl (by decide) rfl rfl ⟨⟨_, rfl, .arr _ _⟩, ⟨rfl, fun _ h => by cases h⟩⟩ ⟨(.same (.lit (.string s0)) rfl), (.same (.lit (.int .u8 t32)) rfl), (.ref _ _ _ 0 rfl), (.same (.lit (.int .i64 t14_3)) rfl), trivial⟩)) ⟨_, hl1 _ (Option.some.inj hj6).symm, rfl⟩

noncomputable def Ref3.Quoted.j0 (text0 : ByteArray) (at1 : Int) : Option Bool :=
  Option.bind (Ref3.marks text0 0) fun t14 =>
  chk (0 ≤ at1) <|
  Option.bind (t14[at1.toNat]?) fun t16 =>
  letk (t16 != (0 : Int)) fun t18 =>
  some t18

noncomputable def Ref3.Quoted (text0 : ByteArray) (at1 : Int) : Option Bool :=
  letk (decide (at1 < (0 : Int))) fun t6 =>
  bif t6 then
    some false
  else
    letk ((text0.size : Int)) fun t10 =>
    letk (decide (at1 > t10)) fun t11 =>
    bif t11 then
      some false
    else
      Ref3.Quoted.j0 text0 at1

theorem Ref3.Quoted_ok {text0 : ByteArray} {at1 : Int} {r : Bool} (h0 : Ref3.Quoted text0 at1 = some r) : Gives Tryd.prog 9 [.lit (.string text0), .lit (.int .i64 at1)] (.lit (.bool r)) := by
  unfold Ref3.Quoted at h0
  refine ACalls.of_swp Tryd.func9 rfl (by decide) rfl (st0 := ⟨19, [(0, .lit (.string text0)), (1, .lit (.int .i64 at1))], []⟩) rfl (bwp_ok (C := [(0, 3)]) ?_)
  conv => whnf
  refine CutN.of (fun s => Ref3.Quoted.j0 text0 at1 = some r ∧ s = (⟨19, [(0, .lit (.string text0)), (1, .lit (.int .i64 at1))], []⟩ : St)) ?_ ?_
  · obtain ⟨t6, et6, h1⟩ := letk_elim h0; clear h0
    conv => whnf
    refine Nm.mk ⟨t6, et6, ?_⟩
    rcases t6 with _ | _
    · have h2 := bif_f h1
      clear h1
      obtain ⟨t10, et10, h3⟩ := letk_elim h2; clear h2
      conv => whnf
      refine Nm.mk ⟨t10, et10, ?_⟩
      obtain ⟨t11, et11, h4⟩ := letk_elim h3; clear h3
      conv => whnf
      refine Nm.mk ⟨t11, et11, ?_⟩
      rcases t11 with _ | _
      · have h5 := bif_f h4
        clear h4
        exact BackS.of (Sees.of (Weak.objs (keep := []) (frz := []) (m := 0) (ts := [(0, .lit (.string text0)), (1, .lit (.int .i64 at1))]) (hs := []) rfl (by decide) rfl rfl ⟨rfl, fun _ h => by cases h⟩ ⟨(.same (.lit (.string text0)) rfl), (.same (.lit (.int .i64 at1)) rfl), trivial⟩)) ⟨h5, rfl⟩
      · have h5 := bif_t h4
        clear h4
        have eh5_0 := Option.some.inj h5
        subst eh5_0
        conv => whnf
        exact Returns.pure (r := .lit (.bool false)) rfl rfl rfl rfl ⟨rfl, rfl⟩
    · have h2 := bif_t h1
      clear h1
      have eh2_0 := Option.some.inj h2
      subst eh2_0
      conv => whnf
      exact Returns.pure (r := .lit (.bool false)) rfl rfl rfl rfl ⟨rfl, rfl⟩
  · clear h0
    rintro s ⟨hj0, rfl⟩
    unfold Ref3.Quoted.j0 at hj0
    obtain ⟨t14, et14, hj1⟩ := bind_elim hj0; clear hj0
    conv => whnf
    refine Gate.go ?_
    conv => whnf
    refine CallN.by (v := .vs 1 (t14.map (eI .u8))) (Ref3.marks_ok et14) rfl rfl ?_
    obtain ⟨chj2, hj2⟩ := chk_elim hj1; clear hj1
    obtain ⟨t16, et16, hj3⟩ := bind_elim hj2; clear hj2
    conv => whnf
    refine Side.mk chj2 ?_
    conv => whnf
    refine At.by et16 ?_
    obtain ⟨t18, et18, hj4⟩ := letk_elim hj3; clear hj3
    conv => whnf
    refine Nm.mk ⟨t18, et18, ?_⟩
    have ehj4_0 := Option.some.inj hj4
    subst ehj4_0
    conv => whnf
    exact Returns.pure (r := .lit (.bool t18)) rfl rfl rfl rfl ⟨rfl, rfl⟩

noncomputable def Law3.FormQuotes (text0 : ByteArray) (at1 : Int) : Option Bool :=
  letk ((text0.size : Int)) fun t6 =>
  letk (decide (t6 > (9000 : Int))) fun t7 =>
  bif t7 then
    Option.bind (Law3.Awake) fun t8 =>
    some t8
  else
    Option.bind (Src.Quoted text0 at1) fun t11 =>
    Option.bind (Ref3.Quoted text0 at1) fun t14 =>
    letk (t11 == t14) fun t15 =>
    bif t15 then
      Option.bind (Law3.Awake) fun t17 =>
      some t17
    else
      some false

theorem Law3.FormQuotes_ok {text0 : ByteArray} {at1 : Int} {r : Bool} (h0 : Law3.FormQuotes text0 at1 = some r) : Gives Tryd.prog 4 [.lit (.string text0), .lit (.int .i64 at1)] (.lit (.bool r)) := by
  unfold Law3.FormQuotes at h0
  refine ACalls.of_swp Tryd.func4 rfl (by decide) rfl (st0 := ⟨19, [(0, .lit (.string text0)), (1, .lit (.int .i64 at1))], []⟩) rfl (bwp_ok (C := []) ?_)
  obtain ⟨t6, et6, h1⟩ := letk_elim h0; clear h0
  conv => whnf
  refine Nm.mk ⟨t6, et6, ?_⟩
  obtain ⟨t7, et7, h2⟩ := letk_elim h1; clear h1
  conv => whnf
  refine Nm.mk ⟨t7, et7, ?_⟩
  rcases t7 with _ | _
  · have h3 := bif_f h2
    clear h2
    obtain ⟨t11, et11, h4⟩ := bind_elim h3; clear h3
    conv => whnf
    refine Gate.go ?_
    conv => whnf
    refine CallN.by (v := .lit (.bool t11)) (Src.Quoted_ok et11) rfl rfl ?_
    obtain ⟨t14, et14, h5⟩ := bind_elim h4; clear h4
    conv => whnf
    refine Gate.go ?_
    conv => whnf
    refine CallN.by (v := .lit (.bool t14)) (Ref3.Quoted_ok et14) rfl rfl ?_
    obtain ⟨t15, et15, h6⟩ := letk_elim h5; clear h5
    conv => whnf
    refine Nm.mk ⟨t15, et15, ?_⟩
    rcases t15 with _ | _
    · have h7 := bif_f h6
      clear h6
      have eh7_0 := Option.some.inj h7
      subst eh7_0
      conv => whnf
      exact Returns.pure (r := .lit (.bool false)) rfl rfl rfl rfl ⟨rfl, rfl⟩
    · have h7 := bif_t h6
      clear h6
      obtain ⟨t17, et17, h8⟩ := bind_elim h7; clear h7
      conv => whnf
      refine Gate.go ?_
      conv => whnf
      refine CallN.by (v := .lit (.bool t17)) (Law3.Awake_ok et17) rfl rfl ?_
      have eh8_0 := Option.some.inj h8
      subst eh8_0
      conv => whnf
      exact Returns.pure (r := .lit (.bool t17)) rfl rfl rfl rfl ⟨rfl, rfl⟩
  · have h3 := bif_t h2
    clear h2
    obtain ⟨t8, et8, h4⟩ := bind_elim h3; clear h3
    conv => whnf
    refine Gate.go ?_
    conv => whnf
    refine CallN.by (v := .lit (.bool t8)) (Law3.Awake_ok et8) rfl rfl ?_
    have eh4_0 := Option.some.inj h4
    subst eh4_0
    conv => whnf
    exact Returns.pure (r := .lit (.bool t8)) rfl rfl rfl rfl ⟨rfl, rfl⟩

end Go.Q
