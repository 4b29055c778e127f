import Derived.Test.YtemmhailjfdfdaaGreatAGE
import Derived.Test.YtemmhailjfdfdaaGreatFX
import Derived.Test.YtemmhailjfdfdaaGreatFY
import Derived.Test.YtemmhailjfdfdaaGreatProg
namespace Go.Q
open Go Go.Proofs
set_option maxRecDepth 10000
set_option maxHeartbeats 2000000

noncomputable def Arr.Names  : Option ((List ByteArray)) :=
  some ([⟨#[97, 98, 115]⟩, ⟨#[97, 108, 108]⟩, ⟨#[97, 110, 121]⟩, ⟨#[99, 111, 117, 110, 116]⟩, ⟨#[99, 115, 104, 105, 102, 116]⟩, ⟨#[100, 98, 108, 101]⟩, ⟨#[105, 110, 116]⟩, ⟨#[109, 97, 116, 109, 117, 108]⟩, ⟨#[109, 97, 120]⟩, ⟨#[109, 97, 120, 108, 111, 99]⟩, ⟨#[109, 97, 120, 118, 97, 108]⟩, ⟨#[109, 101, 114, 103, 101]⟩, ⟨#[109, 105, 110]⟩, ⟨#[109, 105, 110, 108, 111, 99]⟩, ⟨#[109, 105, 110, 118, 97, 108]⟩, ⟨#[109, 111, 100]⟩, ⟨#[112, 97, 99, 107]⟩, ⟨#[112, 114, 111, 100, 117, 99, 116]⟩, ⟨#[114, 101, 97, 108]⟩, ⟨#[114, 101, 115, 104, 97, 112, 101]⟩, ⟨#[115, 104, 97, 112, 101]⟩, ⟨#[115, 105, 122, 101]⟩, ⟨#[115, 112, 114, 101, 97, 100]⟩, ⟨#[115, 113, 114, 116]⟩, ⟨#[115, 117, 109]⟩, ⟨#[116, 114, 97, 110, 115, 112, 111, 115, 101]⟩])

theorem Arr.Names_ok {r : (List ByteArray)} (h0 : Arr.Names = some r) : Gives Tryz.prog 16 [] (.vs 1 (r.map (eS))) := by
  unfold Arr.Names at h0
  refine ACalls.of_swp Tryz.func16 rfl (by decide) rfl (st0 := ⟨2, [], []⟩) rfl (bwp_ok (C := []) ?_)
  conv => whnf
  refine Gate.go ?_
  conv => whnf
  refine Nm.mk ⟨([⟨#[97, 98, 115]⟩, ⟨#[97, 108, 108]⟩, ⟨#[97, 110, 121]⟩, ⟨#[99, 111, 117, 110, 116]⟩, ⟨#[99, 115, 104, 105, 102, 116]⟩, ⟨#[100, 98, 108, 101]⟩, ⟨#[105, 110, 116]⟩, ⟨#[109, 97, 116, 109, 117, 108]⟩, ⟨#[109, 97, 120]⟩, ⟨#[109, 97, 120, 108, 111, 99]⟩, ⟨#[109, 97, 120, 118, 97, 108]⟩, ⟨#[109, 101, 114, 103, 101]⟩, ⟨#[109, 105, 110]⟩, ⟨#[109, 105, 110, 108, 111, 99]⟩, ⟨#[109, 105, 110, 118, 97, 108]⟩, ⟨#[109, 111, 100]⟩, ⟨#[112, 97, 99, 107]⟩, ⟨#[112, 114, 111, 100, 117, 99, 116]⟩, ⟨#[114, 101, 97, 108]⟩, ⟨#[114, 101, 115, 104, 97, 112, 101]⟩, ⟨#[115, 104, 97, 112, 101]⟩, ⟨#[115, 105, 122, 101]⟩, ⟨#[115, 112, 114, 101, 97, 100]⟩, ⟨#[115, 113, 114, 116]⟩, ⟨#[115, 117, 109]⟩, ⟨#[116, 114, 97, 110, 115, 112, 111, 115, 101]⟩]).map (eS), rfl, ?_⟩
  have eh0_0 := Option.some.inj h0
  subst eh0_0
  conv => whnf
  exact Returns.frozen (r := .vs 1 (([⟨#[97, 98, 115]⟩, ⟨#[97, 108, 108]⟩, ⟨#[97, 110, 121]⟩, ⟨#[99, 111, 117, 110, 116]⟩, ⟨#[99, 115, 104, 105, 102, 116]⟩, ⟨#[100, 98, 108, 101]⟩, ⟨#[105, 110, 116]⟩, ⟨#[109, 97, 116, 109, 117, 108]⟩, ⟨#[109, 97, 120]⟩, ⟨#[109, 97, 120, 108, 111, 99]⟩, ⟨#[109, 97, 120, 118, 97, 108]⟩, ⟨#[109, 101, 114, 103, 101]⟩, ⟨#[109, 105, 110]⟩, ⟨#[109, 105, 110, 108, 111, 99]⟩, ⟨#[109, 105, 110, 118, 97, 108]⟩, ⟨#[109, 111, 100]⟩, ⟨#[112, 97, 99, 107]⟩, ⟨#[112, 114, 111, 100, 117, 99, 116]⟩, ⟨#[114, 101, 97, 108]⟩, ⟨#[114, 101, 115, 104, 97, 112, 101]⟩, ⟨#[115, 104, 97, 112, 101]⟩, ⟨#[115, 105, 122, 101]⟩, ⟨#[115, 112, 114, 101, 97, 100]⟩, ⟨#[115, 113, 114, 116]⟩, ⟨#[115, 117, 109]⟩, ⟨#[116, 114, 97, 110, 115, 112, 111, 115, 101]⟩]).map (eS))) [0] rfl rfl (WV.all (k := 0) (by decide) rfl) ⟨rfl, rfl⟩

noncomputable def Ref7.Names  : Option ((List ByteArray)) :=
  some ([⟨#[97, 98, 115]⟩, ⟨#[97, 108, 108]⟩, ⟨#[97, 110, 121]⟩, ⟨#[99, 111, 117, 110, 116]⟩, ⟨#[99, 115, 104, 105, 102, 116]⟩, ⟨#[100, 98, 108, 101]⟩, ⟨#[105, 110, 116]⟩, ⟨#[109, 97, 116, 109, 117, 108]⟩, ⟨#[109, 97, 120]⟩, ⟨#[109, 97, 120, 108, 111, 99]⟩, ⟨#[109, 97, 120, 118, 97, 108]⟩, ⟨#[109, 101, 114, 103, 101]⟩, ⟨#[109, 105, 110]⟩, ⟨#[109, 105, 110, 108, 111, 99]⟩, ⟨#[109, 105, 110, 118, 97, 108]⟩, ⟨#[109, 111, 100]⟩, ⟨#[112, 97, 99, 107]⟩, ⟨#[112, 114, 111, 100, 117, 99, 116]⟩, ⟨#[114, 101, 97, 108]⟩, ⟨#[114, 101, 115, 104, 97, 112, 101]⟩, ⟨#[115, 104, 97, 112, 101]⟩, ⟨#[115, 105, 122, 101]⟩, ⟨#[115, 112, 114, 101, 97, 100]⟩, ⟨#[115, 113, 114, 116]⟩, ⟨#[115, 117, 109]⟩, ⟨#[116, 114, 97, 110, 115, 112, 111, 115, 101]⟩])

theorem Ref7.Names_ok {r : (List ByteArray)} (h0 : Ref7.Names = some r) : Gives Tryz.prog 17 [] (.vs 1 (r.map (eS))) := by
  unfold Ref7.Names at h0
  refine ACalls.of_swp Tryz.func17 rfl (by decide) rfl (st0 := ⟨2, [], []⟩) rfl (bwp_ok (C := []) ?_)
  conv => whnf
  refine Gate.go ?_
  conv => whnf
  refine Nm.mk ⟨([⟨#[97, 98, 115]⟩, ⟨#[97, 108, 108]⟩, ⟨#[97, 110, 121]⟩, ⟨#[99, 111, 117, 110, 116]⟩, ⟨#[99, 115, 104, 105, 102, 116]⟩, ⟨#[100, 98, 108, 101]⟩, ⟨#[105, 110, 116]⟩, ⟨#[109, 97, 116, 109, 117, 108]⟩, ⟨#[109, 97, 120]⟩, ⟨#[109, 97, 120, 108, 111, 99]⟩, ⟨#[109, 97, 120, 118, 97, 108]⟩, ⟨#[109, 101, 114, 103, 101]⟩, ⟨#[109, 105, 110]⟩, ⟨#[109, 105, 110, 108, 111, 99]⟩, ⟨#[109, 105, 110, 118, 97, 108]⟩, ⟨#[109, 111, 100]⟩, ⟨#[112, 97, 99, 107]⟩, ⟨#[112, 114, 111, 100, 117, 99, 116]⟩, ⟨#[114, 101, 97, 108]⟩, ⟨#[114, 101, 115, 104, 97, 112, 101]⟩, ⟨#[115, 104, 97, 112, 101]⟩, ⟨#[115, 105, 122, 101]⟩, ⟨#[115, 112, 114, 101, 97, 100]⟩, ⟨#[115, 113, 114, 116]⟩, ⟨#[115, 117, 109]⟩, ⟨#[116, 114, 97, 110, 115, 112, 111, 115, 101]⟩]).map (eS), rfl, ?_⟩
  have eh0_0 := Option.some.inj h0
  subst eh0_0
  conv => whnf
  exact Returns.frozen (r := .vs 1 (([⟨#[97, 98, 115]⟩, ⟨#[97, 108, 108]⟩, ⟨#[97, 110, 121]⟩, ⟨#[99, 111, 117, 110, 116]⟩, ⟨#[99, 115, 104, 105, 102, 116]⟩, ⟨#[100, 98, 108, 101]⟩, ⟨#[105, 110, 116]⟩, ⟨#[109, 97, 116, 109, 117, 108]⟩, ⟨#[109, 97, 120]⟩, ⟨#[109, 97, 120, 108, 111, 99]⟩, ⟨#[109, 97, 120, 118, 97, 108]⟩, ⟨#[109, 101, 114, 103, 101]⟩, ⟨#[109, 105, 110]⟩, ⟨#[109, 105, 110, 108, 111, 99]⟩, ⟨#[109, 105, 110, 118, 97, 108]⟩, ⟨#[109, 111, 100]⟩, ⟨#[112, 97, 99, 107]⟩, ⟨#[112, 114, 111, 100, 117, 99, 116]⟩, ⟨#[114, 101, 97, 108]⟩, ⟨#[114, 101, 115, 104, 97, 112, 101]⟩, ⟨#[115, 104, 97, 112, 101]⟩, ⟨#[115, 105, 122, 101]⟩, ⟨#[115, 112, 114, 101, 97, 100]⟩, ⟨#[115, 113, 114, 116]⟩, ⟨#[115, 117, 109]⟩, ⟨#[116, 114, 97, 110, 115, 112, 111, 115, 101]⟩]).map (eS))) [0] rfl rfl (WV.all (k := 0) (by decide) rfl) ⟨rfl, rfl⟩

noncomputable def Slcs.Index___string_string_.s0 (s0 : List ByteArray) (v1 : ByteArray) (t7 : Int) (t8 : Int) : Option (Int ⊕ Int) :=
  letk (decide (t8 < t7)) fun t9 =>
  bif t9 then
    chk (0 ≤ t8) <|
    Option.bind (s0[t8.toNat]?) fun t14 =>
    letk (v1.toList == t14.toList) fun t16 =>
    bif t16 then
      some (.inr t8)
    else
      letk (IntKind.i64.wrap (t8 + (1 : Int))) fun t18 =>
      some (.inl t18)
  else
    some (.inr (-1))

noncomputable def Slcs.Index___string_string_.l0 (s0 : List ByteArray) (v1 : ByteArray) (t7 : Int) (t8 : Int) : Option Int := loopO (fun v : Int => Slcs.Index___string_string_.s0 s0 v1 t7 v) t8
theorem Slcs.Index___string_string_.l0_eq (s0 : List ByteArray) (v1 : ByteArray) (t7 : Int) (t8 : Int) : Slcs.Index___string_string_.l0 s0 v1 t7 t8 = (Slcs.Index___string_string_.s0 s0 v1 t7 t8).bind (Sum.elim (fun v => Slcs.Index___string_string_.l0 s0 v1 t7 v) some) := loopO_eq _ _

noncomputable def Slcs.Index___string_string_ (s0 : List ByteArray) (v1 : ByteArray) : Option Int :=
  letk ((s0.length : Int)) fun t7 =>
  Slcs.Index___string_string_.l0 s0 v1 t7 0

theorem Slcs.Index___string_string__ok {s0 : List ByteArray} {v1 : ByteArray} {r : Int} (h0 : Slcs.Index___string_string_ s0 v1 = some r) : Gives Tryz.prog 104 [.vs 1 (s0.map (eS)), .lit (.string v1)] (.lit (.int .i64 r)) := by
  unfold Slcs.Index___string_string_ at h0
  refine ACalls.of_swp Tryz.func104 rfl (by decide) rfl (st0 := ⟨19, [(0, .vs 1 (s0.map (eS))), (1, .lit (.string v1))], []⟩) rfl (bwp_ok (C := []) ?_)
  obtain ⟨t7, et7, h1⟩ := letk_elim h0; clear h0
  conv => whnf
  refine Nm.mk ⟨t7, by rw [et7, List.length_map], ?_⟩
  conv => whnf
  unfold Slcs.Index___string_string_.l0 at h1
  refine LoopB.of (σ := Int) (ρ := Int) (fun v : Int => Slcs.Index___string_string_.s0 s0 v1 t7 v) (fun v => (⟨19, [(0, .vs 1 (s0.map (eS))), (1, .lit (.string v1)), (7, .lit (.int .i64 t7)), (8, .lit (.int .i64 v))], []⟩ : St)) 0 h1 (BackS.by rfl (Sees.e ⟨.s, .s, .s, .s, trivial⟩)) ?_
  clear h1
  rintro K1 t8 x1 hs0_0 hl1 hr1
  replace hs0_0 : Slcs.Index___string_string_.s0 s0 v1 t7 t8 = some x1 := hs0_0
  unfold Slcs.Index___string_string_.s0 at hs0_0
  change bwp _ _ _ _ _ (⟨19, [(0, .vs 1 (s0.map (eS))), (1, .lit (.string v1)), (7, .lit (.int .i64 t7)), (8, .lit (.int .i64 t8))], []⟩ : St)
  obtain ⟨t9, et9, hs0_1⟩ := letk_elim hs0_0; clear hs0_0
  conv => whnf
  refine Nm.mk ⟨t9, et9, ?_⟩
  rcases t9 with _ | _
  · have hs0_2 := bif_f hs0_1
    clear hs0_1
    have ehs0_2u_0 := hr1 _ (Option.some.inj hs0_2).symm
    have hs0_2u := congrArg some ehs0_2u_0
    have ehs0_2u_0 := Option.some.inj hs0_2u
    subst ehs0_2u_0
    conv => whnf
    exact Returns.pure (r := .lit (.int .i64 ((-1)))) rfl rfl rfl rfl ⟨rfl, rfl⟩
  have hs0_2 := bif_t hs0_1
  clear hs0_1
  obtain ⟨chs0_3, hs0_3⟩ := chk_elim hs0_2; clear hs0_2
  obtain ⟨t14, et14, hs0_4⟩ := bind_elim hs0_3; clear hs0_3
  conv => whnf
  refine Side.mk chs0_3 ?_
  conv => whnf
  refine At.by et14 ?_
  obtain ⟨t16, et16, hs0_5⟩ := letk_elim hs0_4; clear hs0_4
  conv => whnf
  refine Nm.mk ⟨t16, et16, ?_⟩
  rcases t16 with _ | _
  · have hs0_6 := bif_f hs0_5
    clear hs0_5
    obtain ⟨t18, et18, hs0_7⟩ := letk_elim hs0_6; clear hs0_6
    conv => whnf
    refine Nm.mk ⟨t18, et18, ?_⟩
    exact BackS.by ⟨_, hl1 _ (Option.some.inj hs0_7).symm, rfl⟩ (Sees.e ⟨.s, .s, .s, .s, trivial⟩)
  have hs0_6 := bif_t hs0_5
  clear hs0_5
  have ehs0_6_0 := hr1 _ (Option.some.inj hs0_6).symm
  subst ehs0_6_0
  conv => whnf
  exact Returns.pure (r := .lit (.int .i64 t8)) rfl rfl rfl rfl ⟨rfl, rfl⟩

noncomputable def Slcs.Contains___string_string_ (s0 : List ByteArray) (v1 : ByteArray) : Option Bool :=
  Option.bind (Slcs.Index___string_string_ s0 v1) fun t7 =>
  letk (decide (t7 ≥ (0 : Int))) fun t8 =>
  some t8

theorem Slcs.Contains___string_string__ok {s0 : List ByteArray} {v1 : ByteArray} {r : Bool} (h0 : Slcs.Contains___string_string_ s0 v1 = some r) : Gives Tryz.prog 50 [.vs 1 (s0.map (eS)), .lit (.string v1)] (.lit (.bool r)) := by
  unfold Slcs.Contains___string_string_ at h0
  refine ACalls.of_swp Tryz.func50 rfl (by decide) rfl (st0 := ⟨9, [(0, .vs 1 (s0.map (eS))), (1, .lit (.string v1))], []⟩) rfl (bwp_ok (C := []) ?_)
  obtain ⟨t7, et7, h1⟩ := bind_elim h0; clear h0
  conv => whnf
  refine Gate.go ?_
  conv => whnf
  refine CallN.by (v := .lit (.int .i64 t7)) (Slcs.Index___string_string__ok et7) rfl rfl ?_
  obtain ⟨t8, et8, h2⟩ := letk_elim h1; clear h1
  conv => whnf
  refine Nm.mk ⟨t8, et8, ?_⟩
  have eh2_0 := Option.some.inj h2
  subst eh2_0
  conv => whnf
  exact Returns.pure (r := .lit (.bool t8)) rfl rfl rfl rfl ⟨rfl, rfl⟩

noncomputable def Arr.Arity.j0 (name0 : ByteArray) : Option (Int × Int) :=
  Option.bind (Arr.Names) fun t16 =>
  Option.bind (Slcs.Contains___string_string_ t16 name0) fun t18 =>
  bif t18 then
    some (1, 1)
  else
    some (0, 0)

noncomputable def Arr.Arity.j1 (name0 : ByteArray) (t5 : Bool) : Option (Int × Int) :=
  bif t5 then
    some (2, 2)
  else
    letk (name0.toList == (⟨#[109, 101, 114, 103, 101]⟩ : ByteArray).toList) fun t15 =>
    bif t15 then
      some (3, 3)
    else
      Arr.Arity.j0 name0

noncomputable def Arr.Arity (name0 : ByteArray) : Option (Int × Int) :=
  letk (name0.toList == (⟨#[109, 97, 120]⟩ : ByteArray).toList) fun t6 =>
  bif t6 then
    Arr.Arity.j1 name0 true
  else
    letk (name0.toList == (⟨#[109, 105, 110]⟩ : ByteArray).toList) fun t7 =>
    bif t7 then
      Arr.Arity.j1 name0 true
    else
      letk (name0.toList == (⟨#[109, 111, 100]⟩ : ByteArray).toList) fun t8 =>
      bif t8 then
        Arr.Arity.j1 name0 true
      else
        letk (name0.toList == (⟨#[99, 115, 104, 105, 102, 116]⟩ : ByteArray).toList) fun t9 =>
        bif t9 then
          Arr.Arity.j1 name0 true
        else
          letk (name0.toList == (⟨#[109, 97, 116, 109, 117, 108]⟩ : ByteArray).toList) fun t10 =>
          bif t10 then
            Arr.Arity.j1 name0 true
          else
            letk (name0.toList == (⟨#[112, 97, 99, 107]⟩ : ByteArray).toList) fun t11 =>
            bif t11 then
              Arr.Arity.j1 name0 true
            else
              letk (name0.toList == (⟨#[114, 101, 115, 104, 97, 112, 101]⟩ : ByteArray).toList) fun t12 =>
              bif t12 then
                Arr.Arity.j1 name0 true
              else
                letk (name0.toList == (⟨#[115, 112, 114, 101, 97, 100]⟩ : ByteArray).toList) fun t13 =>
                Arr.Arity.j1 name0 t13

theorem Arr.Arity_ok {name0 : ByteArray} {r : Int × Int} (h0 : Arr.Arity name0 = some r) : Gives Tryz.prog 18 [.lit (.string name0)] (.tup [.lit (.int .i64 r.1), .lit (.int .i64 r.2)]) := by
  unfold Arr.Arity at h0
  refine ACalls.of_swp Tryz.func18 rfl (by decide) rfl (st0 := ⟨19, [(0, .lit (.string name0))], []⟩) rfl (bwp_ok (C := [(0, 13), (15, 21)]) ?_)
  conv => whnf
  refine CutN.of (fun s => Arr.Arity.j0 name0 = some r ∧ s = (⟨19, [(0, .lit (.string name0))], []⟩ : St)) ?_ ?_
  · conv => whnf
    refine CutN.of (fun s => ∃ (t5 : Bool), Arr.Arity.j1 name0 t5 = some r ∧ s = (⟨19, [(0, .lit (.string name0)), (4, .lit (.string name0)), (5, .lit (.bool t5))], []⟩ : St)) ?_ ?_
    · obtain ⟨t6, et6, h1⟩ := letk_elim h0; clear h0
      conv => whnf
      refine Nm.mk ⟨t6, et6, ?_⟩
      rcases t6 with _ | _
      · have h2 := bif_f h1
        clear h1
        obtain ⟨t7, et7, h3⟩ := letk_elim h2; clear h2
        conv => whnf
        refine Nm.mk ⟨t7, et7, ?_⟩
        rcases t7 with _ | _
        · have h4 := bif_f h3
          clear h3
          obtain ⟨t8, et8, h5⟩ := letk_elim h4; clear h4
          conv => whnf
          refine Nm.mk ⟨t8, et8, ?_⟩
          rcases t8 with _ | _
          · have h6 := bif_f h5
            clear h5
            obtain ⟨t9, et9, h7⟩ := letk_elim h6; clear h6
            conv => whnf
            refine Nm.mk ⟨t9, et9, ?_⟩
            rcases t9 with _ | _
            · have h8 := bif_f h7
              clear h7
              obtain ⟨t10, et10, h9⟩ := letk_elim h8; clear h8
              conv => whnf
              refine Nm.mk ⟨t10, et10, ?_⟩
              rcases t10 with _ | _
              · have h10 := bif_f h9
                clear h9
                obtain ⟨t11, et11, h11⟩ := letk_elim h10; clear h10
                conv => whnf
                refine Nm.mk ⟨t11, et11, ?_⟩
                rcases t11 with _ | _
                · have h12 := bif_f h11
                  clear h11
                  obtain ⟨t12, et12, h13⟩ := letk_elim h12; clear h12
                  conv => whnf
                  refine Nm.mk ⟨t12, et12, ?_⟩
                  rcases t12 with _ | _
                  · have h14 := bif_f h13
                    clear h13
                    obtain ⟨t13, et13, h15⟩ := letk_elim h14; clear h14
                    conv => whnf
                    refine Nm.mk ⟨t13, et13, ?_⟩
                    exact BackS.by ⟨_, h15, rfl⟩ (Sees.e ⟨.s, .s, .s, trivial⟩)
                  have h14 := bif_t h13
                  clear h13
                  exact BackS.by ⟨_, h14, rfl⟩ (Sees.e ⟨.s, .s, .s, trivial⟩)
                have h12 := bif_t h11
                clear h11
                exact BackS.by ⟨_, h12, rfl⟩ (Sees.e ⟨.s, .s, .s, trivial⟩)
              have h10 := bif_t h9
              clear h9
              exact BackS.by ⟨_, h10, rfl⟩ (Sees.e ⟨.s, .s, .s, trivial⟩)
            have h8 := bif_t h7
            clear h7
            exact BackS.by ⟨_, h8, rfl⟩ (Sees.e ⟨.s, .s, .s, trivial⟩)
          have h6 := bif_t h5
          clear h5
          exact BackS.by ⟨_, h6, rfl⟩ (Sees.e ⟨.s, .s, .s, trivial⟩)
        have h4 := bif_t h3
        clear h3
        exact BackS.by ⟨_, h4, rfl⟩ (Sees.e ⟨.s, .s, .s, trivial⟩)
      have h2 := bif_t h1
      clear h1
      exact BackS.by ⟨_, h2, rfl⟩ (Sees.e ⟨.s, .s, .s, trivial⟩)
    clear h0
    rintro s ⟨t5, hj0, rfl⟩
    unfold Arr.Arity.j1 at hj0
    rcases t5 with _ | _
    · have hj1 := bif_f hj0
      clear hj0
      obtain ⟨t15, et15, hj2⟩ := letk_elim hj1; clear hj1
      conv => whnf
      refine Nm.mk ⟨t15, et15, ?_⟩
      rcases t15 with _ | _
      · have hj3 := bif_f hj2
        clear hj2
        exact BackS.by ⟨hj3, rfl⟩ (Sees.e ⟨.s, trivial⟩)
      have hj3 := bif_t hj2
      clear hj2
      have ehj3_0 := Option.some.inj hj3
      subst ehj3_0
      conv => whnf
      exact Returns.pure (r := .tup [.lit (.int .i64 3), .lit (.int .i64 3)]) rfl rfl rfl rfl ⟨rfl, rfl⟩
    have hj1 := bif_t hj0
    clear hj0
    have ehj1_0 := Option.some.inj hj1
    subst ehj1_0
    conv => whnf
    exact Returns.pure (r := .tup [.lit (.int .i64 2), .lit (.int .i64 2)]) rfl rfl rfl rfl ⟨rfl, rfl⟩
  clear h0
  rintro s ⟨hj0, rfl⟩
  unfold Arr.Arity.j0 at hj0
  obtain ⟨t16, et16, hj1⟩ := bind_elim hj0; clear hj0
  conv => whnf
  refine Gate.go ?_
  conv => whnf
  refine CallN.by (v := .vs 1 (t16.map (eS))) (Arr.Names_ok et16) rfl rfl ?_
  obtain ⟨t18, et18, hj2⟩ := bind_elim hj1; clear hj1
  conv => whnf
  refine Gate.go ?_
  conv => whnf
  refine CallN.by (v := .lit (.bool t18)) (Slcs.Contains___string_string__ok et18) rfl rfl ?_
  rcases t18 with _ | _
  · have hj3 := bif_f hj2
    clear hj2
    have ehj3_0 := Option.some.inj hj3
    subst ehj3_0
    conv => whnf
    exact Returns.pure (r := .tup [.lit (.int .i64 0), .lit (.int .i64 0)]) rfl rfl rfl rfl ⟨rfl, rfl⟩
  have hj3 := bif_t hj2
  clear hj2
  have ehj3_0 := Option.some.inj hj3
  subst ehj3_0
  conv => whnf
  exact Returns.pure (r := .tup [.lit (.int .i64 1), .lit (.int .i64 1)]) rfl rfl rfl rfl ⟨rfl, rfl⟩

noncomputable def Ref7.Arity.j1 (name0 : ByteArray) (t23 : Bool) : Option (Int × Int) :=
  bif t23 then
    some (2, 2)
  else
    letk (name0.toList == (⟨#[109, 101, 114, 103, 101]⟩ : ByteArray).toList) fun t33 =>
    bif t33 then
      some (3, 3)
    else
      some (0, 0)

noncomputable def Ref7.Arity.j0 (name0 : ByteArray) (t5 : Bool) : Option (Int × Int) :=
  bif t5 then
    some (1, 1)
  else
    letk (name0.toList == (⟨#[99, 115, 104, 105, 102, 116]⟩ : ByteArray).toList) fun t24 =>
    bif t24 then
      Ref7.Arity.j1 name0 true
    else
      letk (name0.toList == (⟨#[109, 97, 116, 109, 117, 108]⟩ : ByteArray).toList) fun t25 =>
      bif t25 then
        Ref7.Arity.j1 name0 true
      else
        letk (name0.toList == (⟨#[109, 97, 120]⟩ : ByteArray).toList) fun t26 =>
        bif t26 then
          Ref7.Arity.j1 name0 true
        else
          letk (name0.toList == (⟨#[109, 105, 110]⟩ : ByteArray).toList) fun t27 =>
          bif t27 then
            Ref7.Arity.j1 name0 true
          else
            letk (name0.toList == (⟨#[109, 111, 100]⟩ : ByteArray).toList) fun t28 =>
            bif t28 then
              Ref7.Arity.j1 name0 true
            else
              letk (name0.toList == (⟨#[112, 97, 99, 107]⟩ : ByteArray).toList) fun t29 =>
              bif t29 then
                Ref7.Arity.j1 name0 true
              else
                letk (name0.toList == (⟨#[114, 101, 115, 104, 97, 112, 101]⟩ : ByteArray).toList) fun t30 =>
                bif t30 then
                  Ref7.Arity.j1 name0 true
                else
                  letk (name0.toList == (⟨#[115, 112, 114, 101, 97, 100]⟩ : ByteArray).toList) fun t31 =>
                  Ref7.Arity.j1 name0 t31

noncomputable def Ref7.Arity (name0 : ByteArray) : Option (Int × Int) :=
  letk (name0.toList == (⟨#[97, 98, 115]⟩ : ByteArray).toList) fun t6 =>
  bif t6 then
    Ref7.Arity.j0 name0 true
  else
    letk (name0.toList == (⟨#[97, 108, 108]⟩ : ByteArray).toList) fun t7 =>
    bif t7 then
      Ref7.Arity.j0 name0 true
    else
      letk (name0.toList == (⟨#[97, 110, 121]⟩ : ByteArray).toList) fun t8 =>
      bif t8 then
        Ref7.Arity.j0 name0 true
      else
        letk (name0.toList == (⟨#[99, 111, 117, 110, 116]⟩ : ByteArray).toList) fun t9 =>
        bif t9 then
          Ref7.Arity.j0 name0 true
        else
          letk (name0.toList == (⟨#[100, 98, 108, 101]⟩ : ByteArray).toList) fun t10 =>
          bif t10 then
            Ref7.Arity.j0 name0 true
          else
            letk (name0.toList == (⟨#[105, 110, 116]⟩ : ByteArray).toList) fun t11 =>
            bif t11 then
              Ref7.Arity.j0 name0 true
            else
              letk (name0.toList == (⟨#[109, 97, 120, 108, 111, 99]⟩ : ByteArray).toList) fun t12 =>
              bif t12 then
                Ref7.Arity.j0 name0 true
              else
                letk (name0.toList == (⟨#[109, 97, 120, 118, 97, 108]⟩ : ByteArray).toList) fun t13 =>
                bif t13 then
                  Ref7.Arity.j0 name0 true
                else
                  letk (name0.toList == (⟨#[109, 105, 110, 108, 111, 99]⟩ : ByteArray).toList) fun t14 =>
                  bif t14 then
                    Ref7.Arity.j0 name0 true
                  else
                    letk (name0.toList == (⟨#[109, 105, 110, 118, 97, 108]⟩ : ByteArray).toList) fun t15 =>
                    bif t15 then
                      Ref7.Arity.j0 name0 true
                    else
                      letk (name0.toList == (⟨#[112, 114, 111, 100, 117, 99, 116]⟩ : ByteArray).toList) fun t16 =>
                      bif t16 then
                        Ref7.Arity.j0 name0 true
                      else
                        letk (name0.toList == (⟨#[114, 101, 97, 108]⟩ : ByteArray).toList) fun t17 =>
                        bif t17 then
                          Ref7.Arity.j0 name0 true
                        else
                          letk (name0.toList == (⟨#[115, 104, 97, 112, 101]⟩ : ByteArray).toList) fun t18 =>
                          bif t18 then
                            Ref7.Arity.j0 name0 true
                          else
                            letk (name0.toList == (⟨#[115, 105, 122, 101]⟩ : ByteArray).toList) fun t19 =>
                            bif t19 then
                              Ref7.Arity.j0 name0 true
                            else
                              letk (name0.toList == (⟨#[115, 113, 114, 116]⟩ : ByteArray).toList) fun t20 =>
                              bif t20 then
                                Ref7.Arity.j0 name0 true
                              else
                                letk (name0.toList == (⟨#[115, 117, 109]⟩ : ByteArray).toList) fun t21 =>
                                bif t21 then
                                  Ref7.Arity.j0 name0 true
                                else
                                  letk (name0.toList == (⟨#[116, 114, 97, 110, 115, 112, 111, 115, 101]⟩ : ByteArray).toList) fun t22 =>
                                  Ref7.Arity.j0 name0 t22

theorem Ref7.Arity_ok {name0 : ByteArray} {r : Int × Int} (h0 : Ref7.Arity name0 = some r) : Gives Tryz.prog 19 [.lit (.string name0)] (.tup [.lit (.int .i64 r.1), .lit (.int .i64 r.2)]) := by
  unfold Ref7.Arity at h0
  refine ACalls.of_swp Tryz.func19 rfl (by decide) rfl (st0 := ⟨34, [(0, .lit (.string name0))], []⟩) rfl (bwp_ok (C := [(15, 39), (33, 57)]) ?_)
  conv => whnf
  refine CutN.of (fun s => ∃ (t5 : Bool), Ref7.Arity.j0 name0 t5 = some r ∧ s = (⟨34, [(4, .lit (.string name0)), (5, .lit (.bool t5))], []⟩ : St)) ?_ ?_
  · obtain ⟨t6, et6, h1⟩ := letk_elim h0; clear h0
    conv => whnf
    refine Nm.mk ⟨t6, et6, ?_⟩
    rcases t6 with _ | _
    · have h2 := bif_f h1
      clear h1
      obtain ⟨t7, et7, h3⟩ := letk_elim h2; clear h2
      conv => whnf
      refine Nm.mk ⟨t7, et7, ?_⟩
      rcases t7 with _ | _
      · have h4 := bif_f h3
        clear h3
        obtain ⟨t8, et8, h5⟩ := letk_elim h4; clear h4
        conv => whnf
        refine Nm.mk ⟨t8, et8, ?_⟩
        rcases t8 with _ | _
        · have h6 := bif_f h5
          clear h5
          obtain ⟨t9, et9, h7⟩ := letk_elim h6; clear h6
          conv => whnf
          refine Nm.mk ⟨t9, et9, ?_⟩
          rcases t9 with _ | _
          · have h8 := bif_f h7
            clear h7
            obtain ⟨t10, et10, h9⟩ := letk_elim h8; clear h8
            conv => whnf
            refine Nm.mk ⟨t10, et10, ?_⟩
            rcases t10 with _ | _
            · have h10 := bif_f h9
              clear h9
              obtain ⟨t11, et11, h11⟩ := letk_elim h10; clear h10
              conv => whnf
              refine Nm.mk ⟨t11, et11, ?_⟩
              rcases t11 with _ | _
              · have h12 := bif_f h11
                clear h11
                obtain ⟨t12, et12, h13⟩ := letk_elim h12; clear h12
                conv => whnf
                refine Nm.mk ⟨t12, et12, ?_⟩
                rcases t12 with _ | _
                · have h14 := bif_f h13
                  clear h13
                  obtain ⟨t13, et13, h15⟩ := letk_elim h14; clear h14
                  conv => whnf
                  refine Nm.mk ⟨t13, et13, ?_⟩
                  rcases t13 with _ | _
                  · have h16 := bif_f h15
                    clear h15
                    obtain ⟨t14, et14, h17⟩ := letk_elim h16; clear h16
                    conv => whnf
                    refine Nm.mk ⟨t14, et14, ?_⟩
                    rcases t14 with _ | _
                    · have h18 := bif_f h17
                      clear h17
                      obtain ⟨t15, et15, h19⟩ := letk_elim h18; clear h18
                      conv => whnf
                      refine Nm.mk ⟨t15, et15, ?_⟩
                      rcases t15 with _ | _
                      · have h20 := bif_f h19
                        clear h19
                        obtain ⟨t16, et16, h21⟩ := letk_elim h20; clear h20
                        conv => whnf
                        refine Nm.mk ⟨t16, et16, ?_⟩
                        rcases t16 with _ | _
                        · have h22 := bif_f h21
                          clear h21
                          obtain ⟨t17, et17, h23⟩ := letk_elim h22; clear h22
                          conv => whnf
                          refine Nm.mk ⟨t17, et17, ?_⟩
                          rcases t17 with _ | _
                          · have h24 := bif_f h23
                            clear h23
                            obtain ⟨t18, et18, h25⟩ := letk_elim h24; clear h24
                            conv => whnf
                            refine Nm.mk ⟨t18, et18, ?_⟩
                            rcases t18 with _ | _
                            · have h26 := bif_f h25
                              clear h25
                              obtain ⟨t19, et19, h27⟩ := letk_elim h26; clear h26
                              conv => whnf
                              refine Nm.mk ⟨t19, et19, ?_⟩
                              rcases t19 with _ | _
                              · have h28 := bif_f h27
                                clear h27
                                obtain ⟨t20, et20, h29⟩ := letk_elim h28; clear h28
                                conv => whnf
                                refine Nm.mk ⟨t20, et20, ?_⟩
                                rcases t20 with _ | _
                                · have h30 := bif_f h29
                                  clear h29
                                  obtain ⟨t21, et21, h31⟩ := letk_elim h30; clear h30
                                  conv => whnf
                                  refine Nm.mk ⟨t21, et21, ?_⟩
                                  rcases t21 with _ | _
                                  · have h32 := bif_f h31
                                    clear h31
                                    obtain ⟨t22, et22, h33⟩ := letk_elim h32; clear h32
                                    conv => whnf
                                    refine Nm.mk ⟨t22, et22, ?_⟩
                                    exact BackS.by ⟨_, h33, rfl⟩ (Sees.e ⟨.s, .s, trivial⟩)
                                  have h32 := bif_t h31
                                  clear h31
                                  exact BackS.by ⟨_, h32, rfl⟩ (Sees.e ⟨.s, .s, trivial⟩)
                                have h30 := bif_t h29
                                clear h29
                                exact BackS.by ⟨_, h30, rfl⟩ (Sees.e ⟨.s, .s, trivial⟩)
                              have h28 := bif_t h27
                              clear h27
                              exact BackS.by ⟨_, h28, rfl⟩ (Sees.e ⟨.s, .s, trivial⟩)
                            have h26 := bif_t h25
                            clear h25
                            exact BackS.by ⟨_, h26, rfl⟩ (Sees.e ⟨.s, .s, trivial⟩)
                          have h24 := bif_t h23
                          clear h23
                          exact BackS.by ⟨_, h24, rfl⟩ (Sees.e ⟨.s, .s, trivial⟩)
                        have h22 := bif_t h21
                        clear h21
                        exact BackS.by ⟨_, h22, rfl⟩ (Sees.e ⟨.s, .s, trivial⟩)
                      have h20 := bif_t h19
                      clear h19
                      exact BackS.by ⟨_, h20, rfl⟩ (Sees.e ⟨.s, .s, trivial⟩)
                    have h18 := bif_t h17
                    clear h17
                    exact BackS.by ⟨_, h18, rfl⟩ (Sees.e ⟨.s, .s, trivial⟩)
                  have h16 := bif_t h15
                  clear h15
                  exact BackS.by ⟨_, h16, rfl⟩ (Sees.e ⟨.s, .s, trivial⟩)
                have h14 := bif_t h13
                clear h13
                exact BackS.by ⟨_, h14, rfl⟩ (Sees.e ⟨.s, .s, trivial⟩)
              have h12 := bif_t h11
              clear h11
              exact BackS.by ⟨_, h12, rfl⟩ (Sees.e ⟨.s, .s, trivial⟩)
            have h10 := bif_t h9
            clear h9
            exact BackS.by ⟨_, h10, rfl⟩ (Sees.e ⟨.s, .s, trivial⟩)
          have h8 := bif_t h7
          clear h7
          exact BackS.by ⟨_, h8, rfl⟩ (Sees.e ⟨.s, .s, trivial⟩)
        have h6 := bif_t h5
        clear h5
        exact BackS.by ⟨_, h6, rfl⟩ (Sees.e ⟨.s, .s, trivial⟩)
      have h4 := bif_t h3
      clear h3
      exact BackS.by ⟨_, h4, rfl⟩ (Sees.e ⟨.s, .s, trivial⟩)
    have h2 := bif_t h1
    clear h1
    exact BackS.by ⟨_, h2, rfl⟩ (Sees.e ⟨.s, .s, trivial⟩)
  clear h0
  rintro s ⟨t5, hj0, rfl⟩
  unfold Ref7.Arity.j0 at hj0
  rcases t5 with _ | _
  · have hj1 := bif_f hj0
    clear hj0
    conv => whnf
    refine CutN.of (fun s => ∃ (t23 : Bool), Ref7.Arity.j1 name0 t23 = some r ∧ s = (⟨34, [(4, .lit (.string name0)), (23, .lit (.bool t23))], []⟩ : St)) ?_ ?_
    · obtain ⟨t24, et24, hj2⟩ := letk_elim hj1; clear hj1
      conv => whnf
      refine Nm.mk ⟨t24, et24, ?_⟩
      rcases t24 with _ | _
      · have hj3 := bif_f hj2
        clear hj2
        obtain ⟨t25, et25, hj4⟩ := letk_elim hj3; clear hj3
        conv => whnf
        refine Nm.mk ⟨t25, et25, ?_⟩
        rcases t25 with _ | _
        · have hj5 := bif_f hj4
          clear hj4
          obtain ⟨t26, et26, hj6⟩ := letk_elim hj5; clear hj5
          conv => whnf
          refine Nm.mk ⟨t26, et26, ?_⟩
          rcases t26 with _ | _
          · have hj7 := bif_f hj6
            clear hj6
            obtain ⟨t27, et27, hj8⟩ := letk_elim hj7; clear hj7
            conv => whnf
            refine Nm.mk ⟨t27, et27, ?_⟩
            rcases t27 with _ | _
            · have hj9 := bif_f hj8
              clear hj8
              obtain ⟨t28, et28, hj10⟩ := letk_elim hj9; clear hj9
              conv => whnf
              refine Nm.mk ⟨t28, et28, ?_⟩
              rcases t28 with _ | _
              · have hj11 := bif_f hj10
                clear hj10
                obtain ⟨t29, et29, hj12⟩ := letk_elim hj11; clear hj11
                conv => whnf
                refine Nm.mk ⟨t29, et29, ?_⟩
                rcases t29 with _ | _
                · have hj13 := bif_f hj12
                  clear hj12
                  obtain ⟨t30, et30, hj14⟩ := letk_elim hj13; clear hj13
                  conv => whnf
                  refine Nm.mk ⟨t30, et30, ?_⟩
                  rcases t30 with _ | _
                  · have hj15 := bif_f hj14
                    clear hj14
                    obtain ⟨t31, et31, hj16⟩ := letk_elim hj15; clear hj15
                    conv => whnf
                    refine Nm.mk ⟨t31, et31, ?_⟩
                    exact BackS.by ⟨_, hj16, rfl⟩ (Sees.e ⟨.s, .s, trivial⟩)
                  have hj15 := bif_t hj14
                  clear hj14
                  exact BackS.by ⟨_, hj15, rfl⟩ (Sees.e ⟨.s, .s, trivial⟩)
                have hj13 := bif_t hj12
                clear hj12
                exact BackS.by ⟨_, hj13, rfl⟩ (Sees.e ⟨.s, .s, trivial⟩)
              have hj11 := bif_t hj10
              clear hj10
              exact BackS.by ⟨_, hj11, rfl⟩ (Sees.e ⟨.s, .s, trivial⟩)
            have hj9 := bif_t hj8
            clear hj8
            exact BackS.by ⟨_, hj9, rfl⟩ (Sees.e ⟨.s, .s, trivial⟩)
          have hj7 := bif_t hj6
          clear hj6
          exact BackS.by ⟨_, hj7, rfl⟩ (Sees.e ⟨.s, .s, trivial⟩)
        have hj5 := bif_t hj4
        clear hj4
        exact BackS.by ⟨_, hj5, rfl⟩ (Sees.e ⟨.s, .s, trivial⟩)
      have hj3 := bif_t hj2
      clear hj2
      exact BackS.by ⟨_, hj3, rfl⟩ (Sees.e ⟨.s, .s, trivial⟩)
    clear hj1
    rintro s ⟨t23, hj0, rfl⟩
    unfold Ref7.Arity.j1 at hj0
    rcases t23 with _ | _
    · have hj1 := bif_f hj0
      clear hj0
      obtain ⟨t33, et33, hj2⟩ := letk_elim hj1; clear hj1
      conv => whnf
      refine Nm.mk ⟨t33, et33, ?_⟩
      rcases t33 with _ | _
      · have hj3 := bif_f hj2
        clear hj2
        have ehj3_0 := Option.some.inj hj3
        subst ehj3_0
        conv => whnf
        exact Returns.pure (r := .tup [.lit (.int .i64 0), .lit (.int .i64 0)]) rfl rfl rfl rfl ⟨rfl, rfl⟩
      have hj3 := bif_t hj2
      clear hj2
      have ehj3_0 := Option.some.inj hj3
      subst ehj3_0
      conv => whnf
      exact Returns.pure (r := .tup [.lit (.int .i64 3), .lit (.int .i64 3)]) rfl rfl rfl rfl ⟨rfl, rfl⟩
    have hj1 := bif_t hj0
    clear hj0
    have ehj1_0 := Option.some.inj hj1
    subst ehj1_0
    conv => whnf
    exact Returns.pure (r := .tup [.lit (.int .i64 2), .lit (.int .i64 2)]) rfl rfl rfl rfl ⟨rfl, rfl⟩
  have hj1 := bif_t hj0
  clear hj0
  have ehj1_0 := Option.some.inj hj1
  subst ehj1_0
  conv => whnf
  exact Returns.pure (r := .tup [.lit (.int .i64 1), .lit (.int .i64 1)]) rfl rfl rfl rfl ⟨rfl, rfl⟩

noncomputable def Slcs.IndexFunc___quadrat_api.Array_quadrat_api.Array_.s0 (s0 : List api.Array) (t7 : Int) (f1 : api.Array → Option Bool) (t8 : Int) : Option (Int ⊕ Int) :=
  letk (decide (t8 < t7)) fun t9 =>
  bif t9 then
    chk (0 ≤ t8) <|
    Option.bind (s0[t8.toNat]?) fun t14 =>
    Option.bind (f1 t14) fun t16 =>
    bif t16 then
      some (.inr t8)
    else
      letk (IntKind.i64.wrap (t8 + (1 : Int))) fun t18 =>
      some (.inl t18)
  else
    some (.inr (-1))

noncomputable def Slcs.IndexFunc___quadrat_api.Array_quadrat_api.Array_.l0 (s0 : List api.Array) (t7 : Int) (f1 : api.Array → Option Bool) (t8 : Int) : Option Int := loopO (fun v : Int => Slcs.IndexFunc___quadrat_api.Array_quadrat_api.Array_.s0 s0 t7 f1 v) t8
theorem Slcs.IndexFunc___quadrat_api.Array_quadrat_api.Array_.l0_eq (s0 : List api.Array) (t7 : Int) (f1 : api.Array → Option Bool) (t8 : Int) : Slcs.IndexFunc___quadrat_api.Array_quadrat_api.Array_.l0 s0 t7 f1 t8 = (Slcs.IndexFunc___quadrat_api.Array_quadrat_api.Array_.s0 s0 t7 f1 t8).bind (Sum.elim (fun v => Slcs.IndexFunc___quadrat_api.Array_quadrat_api.Array_.l0 s0 t7 f1 v) some) := loopO_eq _ _

noncomputable def Slcs.IndexFunc___quadrat_api.Array_quadrat_api.Array_ (s0 : List api.Array) (f1 : api.Array → Option Bool) : Option Int :=
  letk ((s0.length : Int)) fun t7 =>
  Slcs.IndexFunc___quadrat_api.Array_quadrat_api.Array_.l0 s0 t7 f1 0

theorem Slcs.IndexFunc___quadrat_api.Array_quadrat_api.Array__ok {s0 : List api.Array} {f1 : api.Array → Option Bool} {r : Int} {f1g : Nat} {f1gc : List AV} (hf1gc : f1gc.all pureQ.pureQ0 = true) (hf1 : ∀ a0 r, f1 a0 = some r → Gives Tryz.prog f1g ([api.Array.enc a0] ++ f1gc) (.lit (.bool r))) (h0 : Slcs.IndexFunc___quadrat_api.Array_quadrat_api.Array_ s0 f1 = some r) : Gives Tryz.prog 78 [.vs 3 (s0.map (api.Array.enc)), .fn (.func f1g) [] f1gc] (.lit (.int .i64 r)) := by
  unfold Slcs.IndexFunc___quadrat_api.Array_quadrat_api.Array_ at h0
  refine ACalls.of_swp Tryz.func78 rfl (by decide) rfl (st0 := ⟨19, [(0, .vs 3 (s0.map (api.Array.enc))), (1, .fn (.func f1g) [] f1gc)], []⟩) rfl (bwp_ok (C := []) ?_)
  obtain ⟨t7, et7, h1⟩ := letk_elim h0; clear h0
  conv => whnf
  refine Nm.mk ⟨t7, by rw [et7, List.length_map], ?_⟩
  conv => whnf
  unfold Slcs.IndexFunc___quadrat_api.Array_quadrat_api.Array_.l0 at h1
  refine LoopB.of (σ := Int) (ρ := Int) (fun v : Int => Slcs.IndexFunc___quadrat_api.Array_quadrat_api.Array_.s0 s0 t7 f1 v) (fun v => (⟨19, [(0, .vs 3 (s0.map (api.Array.enc))), (1, .fn (.func f1g) [] f1gc), (7, .lit (.int .i64 t7)), (8, .lit (.int .i64 v))], []⟩ : St)) 0 h1 (BackS.by rfl (Sees.e ⟨.s, (.same _ (fnq hf1gc)), .s, .s, trivial⟩)) ?_
  clear h1
  rintro K1 t8 x1 hs0_0 hl1 hr1
  replace hs0_0 : Slcs.IndexFunc___quadrat_api.Array_quadrat_api.Array_.s0 s0 t7 f1 t8 = some x1 := hs0_0
  unfold Slcs.IndexFunc___quadrat_api.Array_quadrat_api.Array_.s0 at hs0_0
  change bwp _ _ _ _ _ (⟨19, [(0, .vs 3 (s0.map (api.Array.enc))), (1, .fn (.func f1g) [] f1gc), (7, .lit (.int .i64 t7)), (8, .lit (.int .i64 t8))], []⟩ : St)
  obtain ⟨t9, et9, hs0_1⟩ := letk_elim hs0_0; clear hs0_0
  conv => whnf
  refine Nm.mk ⟨t9, et9, ?_⟩
  rcases t9 with _ | _
  · have hs0_2 := bif_f hs0_1
    clear hs0_1
    have ehs0_2u_0 := hr1 _ (Option.some.inj hs0_2).symm
    have hs0_2u := congrArg some ehs0_2u_0
    have ehs0_2u_0 := Option.some.inj hs0_2u
    subst ehs0_2u_0
    conv => whnf
    exact Returns.pure (r := .lit (.int .i64 ((-1)))) rfl rfl rfl rfl ⟨rfl, rfl⟩
  have hs0_2 := bif_t hs0_1
  clear hs0_1
  obtain ⟨chs0_3, hs0_3⟩ := chk_elim hs0_2; clear hs0_2
  obtain ⟨t14, et14, hs0_4⟩ := bind_elim hs0_3; clear hs0_3
  conv => whnf
  refine Side.mk chs0_3 ?_
  conv => whnf
  refine At.by et14 ?_
  obtain ⟨t16, et16, hs0_5⟩ := bind_elim hs0_4; clear hs0_4
  conv => whnf
  refine Gate.go ?_
  conv => whnf
  refine CallN.by (v := .lit (.bool t16)) (hf1 _ _ et16) (allq_app rfl hf1gc) rfl ?_
  rcases t16 with _ | _
  · have hs0_6 := bif_f hs0_5
    clear hs0_5
    obtain ⟨t18, et18, hs0_7⟩ := letk_elim hs0_6; clear hs0_6
    conv => whnf
    refine Nm.mk ⟨t18, et18, ?_⟩
    exact BackS.by ⟨_, hl1 _ (Option.some.inj hs0_7).symm, rfl⟩ (Sees.e ⟨.s, (.same _ (fnq hf1gc)), .s, .s, trivial⟩)
  have hs0_6 := bif_t hs0_5
  clear hs0_5
  have ehs0_6_0 := hr1 _ (Option.some.inj hs0_6).symm
  subst ehs0_6_0
  conv => whnf
  exact Returns.pure (r := .lit (.int .i64 t8)) rfl rfl rfl rfl ⟨rfl, rfl⟩

noncomputable def Slcs.ContainsFunc___quadrat_api.Array_quadrat_api.Array_ (s0 : List api.Array) (f1 : api.Array → Option Bool) : Option Bool :=
  Option.bind (Slcs.IndexFunc___quadrat_api.Array_quadrat_api.Array_ s0 f1) fun t7 =>
  letk (decide (t7 ≥ (0 : Int))) fun t8 =>
  some t8

theorem Slcs.ContainsFunc___quadrat_api.Array_quadrat_api.Array__ok {s0 : List api.Array} {f1 : api.Array → Option Bool} {r : Bool} {f1g : Nat} {f1gc : List AV} (hf1gc : f1gc.all pureQ.pureQ0 = true) (hf1 : ∀ a0 r, f1 a0 = some r → Gives Tryz.prog f1g ([api.Array.enc a0] ++ f1gc) (.lit (.bool r))) (h0 : Slcs.ContainsFunc___quadrat_api.Array_quadrat_api.Array_ s0 f1 = some r) : Gives Tryz.prog 37 [.vs 3 (s0.map (api.Array.enc)), .fn (.func f1g) [] f1gc] (.lit (.bool r)) := by
  unfold Slcs.ContainsFunc___quadrat_api.Array_quadrat_api.Array_ at h0
  refine ACalls.of_swp Tryz.func37 rfl (by decide) rfl (st0 := ⟨9, [(0, .vs 3 (s0.map (api.Array.enc))), (1, .fn (.func f1g) [] f1gc)], []⟩) rfl (bwp_ok (C := []) ?_)
  obtain ⟨t7, et7, h1⟩ := bind_elim h0; clear h0
  conv => whnf
  refine Gate.go ?_
  conv => whnf
  refine CallN.by (v := .lit (.int .i64 t7)) (Slcs.IndexFunc___quadrat_api.Array_quadrat_api.Array__ok hf1gc (fun _ r h => hf1 _ r h) et7) (allq_cons rfl (allq_cons (fnq hf1gc) rfl)) rfl ?_
  obtain ⟨t8, et8, h2⟩ := letk_elim h1; clear h1
  conv => whnf
  refine Nm.mk ⟨t8, et8, ?_⟩
  have eh2_0 := Option.some.inj h2
  subst eh2_0
  conv => whnf
  exact Returns.pure (r := .lit (.bool t8)) rfl rfl rfl rfl ⟨rfl, rfl⟩

noncomputable def Slcs.IndexFunc___int_int_.s0 (s0 : List Int) (t7 : Int) (f1 : Int → Option Bool) (t8 : Int) : Option (Int ⊕ Int) :=
  letk (decide (t8 < t7)) fun t9 =>
  bif t9 then
    chk (0 ≤ t8) <|
    Option.bind (s0[t8.toNat]?) fun t14 =>
    Option.bind (f1 t14) fun t16 =>
    bif t16 then
      some (.inr t8)
    else
      letk (IntKind.i64.wrap (t8 + (1 : Int))) fun t18 =>
      some (.inl t18)
  else
    some (.inr (-1))

noncomputable def Slcs.IndexFunc___int_int_.l0 (s0 : List Int) (t7 : Int) (f1 : Int → Option Bool) (t8 : Int) : Option Int := loopO (fun v : Int => Slcs.IndexFunc___int_int_.s0 s0 t7 f1 v) t8
theorem Slcs.IndexFunc___int_int_.l0_eq (s0 : List Int) (t7 : Int) (f1 : Int → Option Bool) (t8 : Int) : Slcs.IndexFunc___int_int_.l0 s0 t7 f1 t8 = (Slcs.IndexFunc___int_int_.s0 s0 t7 f1 t8).bind (Sum.elim (fun v => Slcs.IndexFunc___int_int_.l0 s0 t7 f1 v) some) := loopO_eq _ _

noncomputable def Slcs.IndexFunc___int_int_ (s0 : List Int) (f1 : Int → Option Bool) : Option Int :=
  letk ((s0.length : Int)) fun t7 =>
  Slcs.IndexFunc___int_int_.l0 s0 t7 f1 0

theorem Slcs.IndexFunc___int_int__ok {s0 : List Int} {f1 : Int → Option Bool} {r : Int} {f1g : Nat} {f1gc : List AV} (hf1gc : f1gc.all pureQ.pureQ0 = true) (hf1 : ∀ a0 r, f1 a0 = some r → Gives Tryz.prog f1g ([.lit (.int .i64 a0)] ++ f1gc) (.lit (.bool r))) (h0 : Slcs.IndexFunc___int_int_ s0 f1 = some r) : Gives Tryz.prog 107 [.vs 1 (s0.map (eI .i64)), .fn (.func f1g) [] f1gc] (.lit (.int .i64 r)) := by
  unfold Slcs.IndexFunc___int_int_ at h0
  refine ACalls.of_swp Tryz.func107 rfl (by decide) rfl (st0 := ⟨19, [(0, .vs 1 (s0.map (eI .i64))), (1, .fn (.func f1g) [] f1gc)], []⟩) rfl (bwp_ok (C := []) ?_)
  obtain ⟨t7, et7, h1⟩ := letk_elim h0; clear h0
  conv => whnf
  refine Nm.mk ⟨t7, by rw [et7, List.length_map], ?_⟩
  conv => whnf
  unfold Slcs.IndexFunc___int_int_.l0 at h1
  refine LoopB.of (σ := Int) (ρ := Int) (fun v : Int => Slcs.IndexFunc___int_int_.s0 s0 t7 f1 v) (fun v => (⟨19, [(0, .vs 1 (s0.map (eI .i64))), (1, .fn (.func f1g) [] f1gc), (7, .lit (.int .i64 t7)), (8, .lit (.int .i64 v))], []⟩ : St)) 0 h1 (BackS.by rfl (Sees.e ⟨.s, (.same _ (fnq hf1gc)), .s, .s, trivial⟩)) ?_
  clear h1
  rintro K1 t8 x1 hs0_0 hl1 hr1
  replace hs0_0 : Slcs.IndexFunc___int_int_.s0 s0 t7 f1 t8 = some x1 := hs0_0
  unfold Slcs.IndexFunc___int_int_.s0 at hs0_0
  change bwp _ _ _ _ _ (⟨19, [(0, .vs 1 (s0.map (eI .i64))), (1, .fn (.func f1g) [] f1gc), (7, .lit (.int .i64 t7)), (8, .lit (.int .i64 t8))], []⟩ : St)
  obtain ⟨t9, et9, hs0_1⟩ := letk_elim hs0_0; clear hs0_0
  conv => whnf
  refine Nm.mk ⟨t9, et9, ?_⟩
  rcases t9 with _ | _
  · have hs0_2 := bif_f hs0_1
    clear hs0_1
    have ehs0_2u_0 := hr1 _ (Option.some.inj hs0_2).symm
    have hs0_2u := congrArg some ehs0_2u_0
    have ehs0_2u_0 := Option.some.inj hs0_2u
    subst ehs0_2u_0
    conv => whnf
    exact Returns.pure (r := .lit (.int .i64 ((-1)))) rfl rfl rfl rfl ⟨rfl, rfl⟩
  have hs0_2 := bif_t hs0_1
  clear hs0_1
  obtain ⟨chs0_3, hs0_3⟩ := chk_elim hs0_2; clear hs0_2
  obtain ⟨t14, et14, hs0_4⟩ := bind_elim hs0_3; clear hs0_3
  conv => whnf
  refine Side.mk chs0_3 ?_
  conv => whnf
  refine At.by et14 ?_
  obtain ⟨t16, et16, hs0_5⟩ := bind_elim hs0_4; clear hs0_4
  conv => whnf
  refine Gate.go ?_
  conv => whnf
  refine CallN.by (v := .lit (.bool t16)) (hf1 _ _ et16) (allq_app rfl hf1gc) rfl ?_
  rcases t16 with _ | _
  · have hs0_6 := bif_f hs0_5
    clear hs0_5
    obtain ⟨t18, et18, hs0_7⟩ := letk_elim hs0_6; clear hs0_6
    conv => whnf
    refine Nm.mk ⟨t18, et18, ?_⟩
    exact BackS.by ⟨_, hl1 _ (Option.some.inj hs0_7).symm, rfl⟩ (Sees.e ⟨.s, (.same _ (fnq hf1gc)), .s, .s, trivial⟩)
  have hs0_6 := bif_t hs0_5
  clear hs0_5
  have ehs0_6_0 := hr1 _ (Option.some.inj hs0_6).symm
  subst ehs0_6_0
  conv => whnf
  exact Returns.pure (r := .lit (.int .i64 t8)) rfl rfl rfl rfl ⟨rfl, rfl⟩

noncomputable def Slcs.ContainsFunc___int_int_ (s0 : List Int) (f1 : Int → Option Bool) : Option Bool :=
  Option.bind (Slcs.IndexFunc___int_int_ s0 f1) fun t7 =>
  letk (decide (t7 ≥ (0 : Int))) fun t8 =>
  some t8

theorem Slcs.ContainsFunc___int_int__ok {s0 : List Int} {f1 : Int → Option Bool} {r : Bool} {f1g : Nat} {f1gc : List AV} (hf1gc : f1gc.all pureQ.pureQ0 = true) (hf1 : ∀ a0 r, f1 a0 = some r → Gives Tryz.prog f1g ([.lit (.int .i64 a0)] ++ f1gc) (.lit (.bool r))) (h0 : Slcs.ContainsFunc___int_int_ s0 f1 = some r) : Gives Tryz.prog 52 [.vs 1 (s0.map (eI .i64)), .fn (.func f1g) [] f1gc] (.lit (.bool r)) := by
  unfold Slcs.ContainsFunc___int_int_ at h0
  refine ACalls.of_swp Tryz.func52 rfl (by decide) rfl (st0 := ⟨9, [(0, .vs 1 (s0.map (eI .i64))), (1, .fn (.func f1g) [] f1gc)], []⟩) rfl (bwp_ok (C := []) ?_)
  obtain ⟨t7, et7, h1⟩ := bind_elim h0; clear h0
  conv => whnf
  refine Gate.go ?_
  conv => whnf
  refine CallN.by (v := .lit (.int .i64 t7)) (Slcs.IndexFunc___int_int__ok hf1gc (fun _ r h => hf1 _ r h) et7) (allq_cons rfl (allq_cons (fnq hf1gc) rfl)) rfl ?_
  obtain ⟨t8, et8, h2⟩ := letk_elim h1; clear h1
  conv => whnf
  refine Nm.mk ⟨t8, et8, ?_⟩
  have eh2_0 := Option.some.inj h2
  subst eh2_0
  conv => whnf
  exact Returns.pure (r := .lit (.bool t8)) rfl rfl rfl rfl ⟨rfl, rfl⟩

noncomputable def Sec.size_1 (n0 : Int) : Option Bool :=
  letk (decide (n0 < (0 : Int))) fun t4 =>
  bif t4 then
    some true
  else
    letk (decide (n0 > (4000 : Int))) fun t7 =>
    some t7

theorem Sec.size_1_ok {n0 : Int} {r : Bool} (h0 : Sec.size_1 n0 = some r) : Gives Tryz.prog 185 [.lit (.int .i64 n0)] (.lit (.bool r)) := by
  unfold Sec.size_1 at h0
  refine ACalls.of_swp Tryz.func185 rfl (by decide) rfl (st0 := ⟨9, [(0, .lit (.int .i64 n0))], []⟩) rfl (bwp_ok (C := []) ?_)
  obtain ⟨t4, et4, h1⟩ := letk_elim h0; clear h0
  conv => whnf
  refine Nm.mk ⟨t4, et4, ?_⟩
  rcases t4 with _ | _
  · have h2 := bif_f h1
    clear h1
    obtain ⟨t7, et7, h3⟩ := letk_elim h2; clear h2
    conv => whnf
    refine Nm.mk ⟨t7, et7, ?_⟩
    have eh3_0 := Option.some.inj h3
    subst eh3_0
    conv => whnf
    exact Returns.pure (r := .lit (.bool t7)) rfl rfl rfl rfl ⟨rfl, rfl⟩
  have h2 := bif_t h1
  clear h1
  have eh2_0 := Option.some.inj h2
  subst eh2_0
  conv => whnf
  exact Returns.pure (r := .lit (.bool true)) rfl rfl rfl rfl ⟨rfl, rfl⟩

noncomputable def Sec.size.s0 (extents0 : List Int) (t14 : Int) (n3 : Int) (t15 : Int) : Option ((Int × Int) ⊕ Int) :=
  letk (decide (t15 < t14)) fun t16 =>
  bif t16 then
    chk (0 ≤ t15) <|
    Option.bind (extents0[t15.toNat]?) fun t17 =>
    letk (IntKind.i64.wrap (n3 * t17)) fun t21 =>
    letk (IntKind.i64.wrap (t15 + (1 : Int))) fun t22 =>
    some (.inl (t21, t22))
  else
    ((
    letk (decide (n3 > (4000 : Int))) fun t24 =>
    bif t24 then
      some (-1)
    else
      some n3)).map .inr

noncomputable def Sec.size.l0 (extents0 : List Int) (t14 : Int) (n3 : Int) (t15 : Int) : Option Int := loopO (fun v : Int × Int => Sec.size.s0 extents0 t14 v.1 v.2) (n3, t15)
theorem Sec.size.l0_eq (extents0 : List Int) (t14 : Int) (n3 : Int) (t15 : Int) : Sec.size.l0 extents0 t14 n3 t15 = (Sec.size.s0 extents0 t14 n3 t15).bind (Sum.elim (fun v => Sec.size.l0 extents0 t14 v.1 v.2) some) := loopO_eq _ _

noncomputable def Sec.size.j0 (extents0 : List Int) : Option Int :=
  letk ((extents0.length : Int)) fun t14 =>
  Sec.size.l0 extents0 t14 1 0

noncomputable def Sec.size (extents0 : List Int) : Option Int :=
  letk ((extents0.length : Int)) fun t7 =>
  letk (decide (t7 > (3 : Int))) fun t8 =>
  bif t8 then
    some (-1)
  else
    Option.bind (Slcs.ContainsFunc___int_int_ extents0 Sec.size_1) fun t11 =>
    bif t11 then
      some (-1)
    else
      Sec.size.j0 extents0

theorem Sec.size_ok {extents0 : List Int} {r : Int} (h0 : Sec.size extents0 = some r) : Gives Tryz.prog 138 [.vs 1 (extents0.map (eI .i64))] (.lit (.int .i64 r)) := by
  unfold Sec.size at h0
  refine ACalls.of_swp Tryz.func138 rfl (by decide) rfl (st0 := ⟨26, [(0, .vs 1 (extents0.map (eI .i64)))], []⟩) rfl (bwp_ok (C := [(0, 3)]) ?_)
  conv => whnf
  refine CutN.of (fun s => Sec.size.j0 extents0 = some r ∧ s = (⟨26, [(0, .vs 1 (extents0.map (eI .i64)))], []⟩ : St)) ?_ ?_
  · obtain ⟨t7, et7, h1⟩ := letk_elim h0; clear h0
    conv => whnf
    refine Nm.mk ⟨t7, by rw [et7, List.length_map], ?_⟩
    obtain ⟨t8, et8, h2⟩ := letk_elim h1; clear h1
    conv => whnf
    refine Nm.mk ⟨t8, et8, ?_⟩
    rcases t8 with _ | _
    · have h3 := bif_f h2
      clear h2
      obtain ⟨t11, et11, h4⟩ := bind_elim h3; clear h3
      conv => whnf
      refine Gate.go ?_
      conv => whnf
      refine CallN.by (v := .lit (.bool t11)) (Slcs.ContainsFunc___int_int__ok (show List.all [] pureQ.pureQ0 = true from rfl) (fun _ r h => Sec.size_1_ok h) et11) rfl rfl ?_
      rcases t11 with _ | _
      · have h5 := bif_f h4
        clear h4
        exact BackS.by ⟨h5, rfl⟩ (Sees.e ⟨.s, trivial⟩)
      have h5 := bif_t h4
      clear h4
      have eh5_0 := Option.some.inj h5
      subst eh5_0
      conv => whnf
      exact Returns.pure (r := .lit (.int .i64 ((-1)))) rfl rfl rfl rfl ⟨rfl, rfl⟩
    have h3 := bif_t h2
    clear h2
    have eh3_0 := Option.some.inj h3
    subst eh3_0
    conv => whnf
    exact Returns.pure (r := .lit (.int .i64 ((-1)))) rfl rfl rfl rfl ⟨rfl, rfl⟩
  clear h0
  rintro s ⟨hj0, rfl⟩
  unfold Sec.size.j0 at hj0
  obtain ⟨t14, et14, hj1⟩ := letk_elim hj0; clear hj0
  conv => whnf
  refine Nm.mk ⟨t14, by rw [et14, List.length_map], ?_⟩
  conv => whnf
  unfold Sec.size.l0 at hj1
  refine LoopB.of (σ := Int × Int) (ρ := Int) (fun v : Int × Int => Sec.size.s0 extents0 t14 v.1 v.2) (fun v => (⟨26, [(3, .lit (.int .i64 v.1)), (13, .vs 1 (extents0.map (eI .i64))), (14, .lit (.int .i64 t14)), (15, .lit (.int .i64 v.2))], []⟩ : St)) (1, 0) hj1 (BackS.by rfl (Sees.e ⟨.s, .s, .s, .s, trivial⟩)) ?_
  clear hj1
  rintro K1 ⟨n3, t15⟩ x1 hs0_0 hl1 hr1
  replace hs0_0 : Sec.size.s0 extents0 t14 n3 t15 = some x1 := hs0_0
  unfold Sec.size.s0 at hs0_0
  change bwp _ _ _ _ _ (⟨26, [(3, .lit (.int .i64 n3)), (13, .vs 1 (extents0.map (eI .i64))), (14, .lit (.int .i64 t14)), (15, .lit (.int .i64 t15))], []⟩ : St)
  obtain ⟨t16, et16, hs0_1⟩ := letk_elim hs0_0; clear hs0_0
  conv => whnf
  refine Nm.mk ⟨t16, et16, ?_⟩
  rcases t16 with _ | _
  · have hs0_2 := bif_f hs0_1
    clear hs0_1
    obtain ⟨yhs0_2_0, hs0_2u, ehs0_2_0⟩ := map_elim hs0_2
    have ehs0_2_0 := (hr1 _ ehs0_2_0.symm).symm
    subst ehs0_2_0
    obtain ⟨t24, et24, hs0_2u0⟩ := letk_elim hs0_2u; clear hs0_2u
    conv => whnf
    refine Nm.mk ⟨t24, et24, ?_⟩
    rcases t24 with _ | _
    · have hs0_2u1 := bif_f hs0_2u0
      clear hs0_2u0
      have ehs0_2u1_0 := Option.some.inj hs0_2u1
      subst ehs0_2u1_0
      conv => whnf
      exact Returns.pure (r := .lit (.int .i64 n3)) rfl rfl rfl rfl ⟨rfl, rfl⟩
    have hs0_2u1 := bif_t hs0_2u0
    clear hs0_2u0
    have ehs0_2u1_0 := Option.some.inj hs0_2u1
    subst ehs0_2u1_0
    conv => whnf
    exact Returns.pure (r := .lit (.int .i64 ((-1)))) rfl rfl rfl rfl ⟨rfl, rfl⟩
  have hs0_2 := bif_t hs0_1
  clear hs0_1
  obtain ⟨chs0_3, hs0_3⟩ := chk_elim hs0_2; clear hs0_2
  obtain ⟨t17, et17, hs0_4⟩ := bind_elim hs0_3; clear hs0_3
  conv => whnf
  refine Side.mk chs0_3 ?_
  conv => whnf
  refine At.by et17 ?_
  obtain ⟨t21, et21, hs0_5⟩ := letk_elim hs0_4; clear hs0_4
  conv => whnf
  refine Nm.mk ⟨t21, et21, ?_⟩
  obtain ⟨t22, et22, hs0_6⟩ := letk_elim hs0_5; clear hs0_5
  conv => whnf
  refine Nm.mk ⟨t22, et22, ?_⟩
  exact BackS.by ⟨_, hl1 _ (Option.some.inj hs0_6).symm, rfl⟩ (Sees.e ⟨.s, .s, .s, .s, trivial⟩)

noncomputable def Sec.Whole.s0 (extents0 : List Int) (t16 : Int) (t2_0 : Int) (t2_1 : List Int) (t2_2 : List Int) (d4_0 : Int) (d4_1 : List Int) (d4_2 : List Int) (s5 : Int) (t17 : Int) : Option ((Int × (List Int) × (List Int) × Int × (List Int) × (List Int) × Int × Int) ⊕ (api.Desc × Int)) :=
  letk (decide (t17 < t16)) fun t18 =>
  bif t18 then
    chk (0 ≤ t17) <|
    Option.bind (extents0[t17.toNat]?) fun t19 =>
    chk ((d4_2.length + ([s5]).length) * 8 ≤ 140737488355328) <|
    letk (d4_2 ++ ([s5])) fun t25 =>
    letk (IntKind.i64.wrap (s5 * t19)) fun t29 =>
    letk (IntKind.i64.wrap (t17 + (1 : Int))) fun t30 =>
    some (.inl (t2_0, t2_1, t2_2, d4_0, d4_1, t25, t29, t30))
  else
    some (.inr ((⟨d4_0, d4_1, d4_2⟩ : api.Desc), 0))

noncomputable def Sec.Whole.l0 (extents0 : List Int) (t16 : Int) (t2_0 : Int) (t2_1 : List Int) (t2_2 : List Int) (d4_0 : Int) (d4_1 : List Int) (d4_2 : List Int) (s5 : Int) (t17 : Int) : Option (api.Desc × Int) := loopO (fun v : Int × (List Int) × (List Int) × Int × (List Int) × (List Int) × Int × Int => Sec.Whole.s0 extents0 t16 v.1 v.2.1 v.2.2.1 v.2.2.2.1 v.2.2.2.2.1 v.2.2.2.2.2.1 v.2.2.2.2.2.2.1 v.2.2.2.2.2.2.2) (t2_0, t2_1, t2_2, d4_0, d4_1, d4_2, s5, t17)
theorem Sec.Whole.l0_eq (extents0 : List Int) (t16 : Int) (t2_0 : Int) (t2_1 : List Int) (t2_2 : List Int) (d4_0 : Int) (d4_1 : List Int) (d4_2 : List Int) (s5 : Int) (t17 : Int) : Sec.Whole.l0 extents0 t16 t2_0 t2_1 t2_2 d4_0 d4_1 d4_2 s5 t17 = (Sec.Whole.s0 extents0 t16 t2_0 t2_1 t2_2 d4_0 d4_1 d4_2 s5 t17).bind (Sum.elim (fun v => Sec.Whole.l0 extents0 t16 v.1 v.2.1 v.2.2.1 v.2.2.2.1 v.2.2.2.2.1 v.2.2.2.2.2.1 v.2.2.2.2.2.2.1 v.2.2.2.2.2.2.2) some) := loopO_eq _ _

noncomputable def Sec.Whole (extents0 : List Int) : Option (api.Desc × Int) :=
  Option.bind (Sec.size extents0) fun t9 =>
  letk (decide (t9 < (0 : Int))) fun t10 =>
  bif t10 then
    some ((⟨0, [], []⟩ : api.Desc), 2)
  else
    Option.bind (Slcs.Clone___int_int_ extents0) fun t13 =>
    letk ((extents0.length : Int)) fun t16 =>
    Sec.Whole.l0 extents0 t16 0 ([]) ([]) 0 t13 ([]) 1 0

theorem Sec.Whole_ok {extents0 : List Int} {r : api.Desc × Int} (h0 : Sec.Whole extents0 = some r) : Gives Tryz.prog 105 [.vs 1 (extents0.map (eI .i64))] (.tup [api.Desc.enc r.1, .lit (.int .i64 r.2)]) := by
  unfold Sec.Whole at h0
  refine ACalls.of_swp Tryz.func105 rfl (by decide) rfl (st0 := ⟨32, [(0, .vs 1 (extents0.map (eI .i64)))], []⟩) rfl (bwp_ok (C := []) ?_)
  conv => whnf
  refine Nm.mk ⟨[.lit (.int .i64 0), .nils, .nils], rfl, ?_⟩
  obtain ⟨t9, et9, h1⟩ := bind_elim h0; clear h0
  conv => whnf
  refine Gate.go ?_
  conv => whnf
  refine CallN.by (v := .lit (.int .i64 t9)) (Sec.size_ok et9) rfl rfl ?_
  obtain ⟨t10, et10, h2⟩ := letk_elim h1; clear h1
  conv => whnf
  refine Nm.mk ⟨t10, et10, ?_⟩
  rcases t10 with _ | _
  · have h3 := bif_f h2
    clear h2
    obtain ⟨t13, et13, h4⟩ := bind_elim h3; clear h3
    conv => whnf
    refine Gate.go ?_
    conv => whnf
    refine CallN.fresh (s := 1) (es := t13.map (eI .i64)) (Slcs.Clone___int_int__ok et13) rfl ?_
    conv => whnf
    refine Gate.weak (Sees.of (Weak.objs (k := 32) (keep := [0]) (frz := [1]) (m := 0) (ts := [(0, .vs 1 (extents0.map (eI .i64))), (2, .ptr 0 0), (13, .vs 1 (t13.map (eI .i64)))]) (hs := [.box [.lit (.int .i64 0), .nils, .nils]]) rfl (by decide) rfl rfl ⟨⟨_, rfl, WO.refl rfl⟩, ⟨rfl, fun _ h => by cases h⟩⟩ ⟨.s, (.ptr _ _ 0 rfl), (WV.all (k := 1) (by decide) rfl), trivial⟩)) ?_
    conv => whnf
    refine Nm.mk ⟨[.lit (.int .i64 0), .vs 1 (t13.map (eI .i64)), .nils], rfl, ?_⟩
    conv => whnf
    refine Nm.mk ⟨[.lit (.int .i64 0), .nils, .nils], rfl, ?_⟩
    conv => whnf
    refine Nm.mk ⟨[.lit (.int .i64 0), .vs 1 (t13.map (eI .i64)), .nils], rfl, ?_⟩
    obtain ⟨t16, et16, h5⟩ := letk_elim h4; clear h4
    conv => whnf
    refine Nm.mk ⟨t16, by rw [et16, List.length_map], ?_⟩
    conv => whnf
    unfold Sec.Whole.l0 at h5
    refine LoopB.of (σ := Int × (List Int) × (List Int) × Int × (List Int) × (List Int) × Int × Int) (ρ := api.Desc × Int) (fun v : Int × (List Int) × (List Int) × Int × (List Int) × (List Int) × Int × Int => Sec.Whole.s0 extents0 t16 v.1 v.2.1 v.2.2.1 v.2.2.2.1 v.2.2.2.2.1 v.2.2.2.2.2.1 v.2.2.2.2.2.2.1 v.2.2.2.2.2.2.2) (fun v => (⟨32, [(2, .ptr 0 0), (4, .ptr 1 0), (5, .lit (.int .i64 v.2.2.2.2.2.2.1)), (15, .vs 1 (extents0.map (eI .i64))), (16, .lit (.int .i64 t16)), (17, .lit (.int .i64 v.2.2.2.2.2.2.2))], [.box [.lit (.int .i64 v.1), .vs 1 (v.2.1.map (eI .i64)), .vs 1 (v.2.2.1.map (eI .i64))], .box [.lit (.int .i64 v.2.2.2.1), .vs 1 (v.2.2.2.2.1.map (eI .i64)), .ref 2 0 ((v.2.2.2.2.2.1.map (eI .i64)).length)], .arr 1 (v.2.2.2.2.2.1.map (eI .i64))]⟩ : St)) (0, [], [], 0, t13, [], 1, 0) h5 (BackS.by rfl (Sees.of (Weak.objs (keep := [0, 1]) (frz := []) (m := 1) rfl (by decide) rfl rfl ⟨⟨_, rfl, WO.boxs ⟨.s, (.nilsVs _), (.nilsVs _), trivial⟩⟩, ⟨⟨_, rfl, WO.boxs ⟨.s, .s, (.nilsRef 2 (by decide) (by decide)), trivial⟩⟩, ⟨rfl, fun ob ho => by simp only [List.mem_cons, List.not_mem_nil, or_false] at ho; exact ⟨_, ho⟩⟩⟩⟩ ⟨(.ptr _ _ 0 rfl), (.ptr _ _ 1 rfl), .s, .s, .s, .s, trivial⟩))) ?_
    clear h5
    rintro K1 ⟨t2_0, t2_1, t2_2, d4_0, d4_1, d4_2, s5, t17⟩ x1 hs0_0 hl1 hr1
    replace hs0_0 : Sec.Whole.s0 extents0 t16 t2_0 t2_1 t2_2 d4_0 d4_1 d4_2 s5 t17 = some x1 := hs0_0
    unfold Sec.Whole.s0 at hs0_0
    change bwp _ _ _ _ _ (⟨32, [(2, .ptr 0 0), (4, .ptr 1 0), (5, .lit (.int .i64 s5)), (15, .vs 1 (extents0.map (eI .i64))), (16, .lit (.int .i64 t16)), (17, .lit (.int .i64 t17))], [.box [.lit (.int .i64 t2_0), .vs 1 (t2_1.map (eI .i64)), .vs 1 (t2_2.map (eI .i64))], .box [.lit (.int .i64 d4_0), .vs 1 (d4_1.map (eI .i64)), .ref 2 0 ((d4_2.map (eI .i64)).length)], .arr 1 (d4_2.map (eI .i64))]⟩ : St)
    obtain ⟨t18, et18, hs0_1⟩ := letk_elim hs0_0; clear hs0_0
    conv => whnf
    refine Nm.mk ⟨t18, et18, ?_⟩
    rcases t18 with _ | _
    · have hs0_2 := bif_f hs0_1
      clear hs0_1
      have ehs0_2u_0 := hr1 _ (Option.some.inj hs0_2).symm
      have hs0_2u := congrArg some ehs0_2u_0
      conv => whnf
      refine Nm.mk ⟨[.lit (.int .i64 d4_0), .vs 1 (d4_1.map (eI .i64)), .ref 2 0 ((d4_2.map (eI .i64)).length)], rfl, ?_⟩
      have ehs0_2u_0 := Option.some.inj hs0_2u
      subst ehs0_2u_0
      conv => whnf
      exact Returns.frozen (r := .tup [api.Desc.enc ((⟨d4_0, d4_1, d4_2⟩ : api.Desc)), .lit (.int .i64 0)]) [2] rfl rfl (WV.tups ⟨(WV.aggs ⟨.s, .s, (WV.all (k := 2) (by decide) rfl), trivial⟩), .s, trivial⟩) ⟨rfl, rfl⟩
    have hs0_2 := bif_t hs0_1
    clear hs0_1
    obtain ⟨chs0_3, hs0_3⟩ := chk_elim hs0_2; clear hs0_2
    obtain ⟨t19, et19, hs0_4⟩ := bind_elim hs0_3; clear hs0_3
    conv => whnf
    refine Side.mk chs0_3 ?_
    conv => whnf
    refine At.by et19 ?_
    conv => whnf
    refine Gate.go ?_
    conv => whnf
    refine Nm.mk ⟨([s5]).map (eI .i64), rfl, ?_⟩
    obtain ⟨chs0_5, hs0_5⟩ := chk_elim hs0_4; clear hs0_4
    obtain ⟨t25, et25, hs0_6⟩ := letk_elim hs0_5; clear hs0_5
    conv => whnf
    refine Gate.go ?_
    conv => whnf
    refine Side.mk (full_le _) ?_
    conv => whnf
    refine Side.mk ⟨full_le _, one_map (fun _ _ hc => by simp only [AV.cells, List.mem_singleton] at hc; subst hc; rfl)⟩ ?_
    conv => whnf
    refine Side.mk (side_rr (by decide) chs0_5) ?_
    conv => whnf
    refine Nm.mk ⟨t25.map (eI .i64), by rw [et25]; exact app_rr (m := [s5]), ?_⟩
    conv => whnf
    refine Nm.mk ⟨[.lit (.int .i64 d4_0), .vs 1 (d4_1.map (eI .i64)), .ref 4 0 ((t25.map (eI .i64)).length)], rfl, ?_⟩
    obtain ⟨t29, et29, hs0_7⟩ := letk_elim hs0_6; clear hs0_6
    conv => whnf
    refine Nm.mk ⟨t29, et29, ?_⟩
    obtain ⟨t30, et30, hs0_8⟩ := letk_elim hs0_7; clear hs0_7
    conv => whnf
    refine Nm.mk ⟨t30, et30, ?_⟩
    exact BackS.by ⟨_, hl1 _ (Option.some.inj hs0_8).symm, rfl⟩ (Sees.of (Weak.objs (keep := [0, 1, 4]) (frz := []) (m := 0) rfl (by decide) rfl rfl ⟨⟨_, rfl, WO.boxs ⟨.s, .s, .s, trivial⟩⟩, ⟨⟨_, rfl, WO.boxs ⟨.s, .s, (.ref _ _ _ 2 rfl), trivial⟩⟩, ⟨⟨_, rfl, .arr _ _⟩, ⟨rfl, fun _ h => by cases h⟩⟩⟩⟩ ⟨(.ptr _ _ 0 rfl), (.ptr _ _ 1 rfl), .s, .s, .s, .s, trivial⟩))
  have h3 := bif_t h2
  clear h2
  conv => whnf
  refine Gate.go ?_
  conv => whnf
  refine Nm.mk ⟨[.lit (.int .i64 0), .nils, .nils], rfl, ?_⟩
  conv => whnf
  refine Nm.mk ⟨[.lit (.int .i64 0), .nils, .nils], rfl, ?_⟩
  have eh3_0 := Option.some.inj h3
  subst eh3_0
  conv => whnf
  exact Returns.frozen (r := .tup [api.Desc.enc ((⟨0, [], []⟩ : api.Desc)), .lit (.int .i64 2)]) [] rfl rfl (WV.tups ⟨(WV.aggs ⟨.s, (.nilsVs _), (.nilsVs _), trivial⟩), .s, trivial⟩) ⟨rfl, rfl⟩

noncomputable def Sec.isNumber (n0 : Int) : Option Bool :=
  letk (decide (n0 ≥ ((-2147483648) : Int))) fun t4 =>
  bif t4 then
    letk (decide (n0 ≤ (2147483648 : Int))) fun t7 =>
    some t7
  else
    some false

theorem Sec.isNumber_ok {n0 : Int} {r : Bool} (h0 : Sec.isNumber n0 = some r) : Gives Tryz.prog 187 [.lit (.int .i64 n0)] (.lit (.bool r)) := by
  unfold Sec.isNumber at h0
  refine ACalls.of_swp Tryz.func187 rfl (by decide) rfl (st0 := ⟨9, [(0, .lit (.int .i64 n0))], []⟩) rfl (bwp_ok (C := []) ?_)
  obtain ⟨t4, et4, h1⟩ := letk_elim h0; clear h0
  conv => whnf
  refine Nm.mk ⟨t4, et4, ?_⟩
  rcases t4 with _ | _
  · have h2 := bif_f h1
    clear h1
    have eh2_0 := Option.some.inj h2
    subst eh2_0
    conv => whnf
    exact Returns.pure (r := .lit (.bool false)) rfl rfl rfl rfl ⟨rfl, rfl⟩
  have h2 := bif_t h1
  clear h1
  obtain ⟨t7, et7, h3⟩ := letk_elim h2; clear h2
  conv => whnf
  refine Nm.mk ⟨t7, et7, ?_⟩
  have eh3_0 := Option.some.inj h3
  subst eh3_0
  conv => whnf
  exact Returns.pure (r := .lit (.bool t7)) rfl rfl rfl rfl ⟨rfl, rfl⟩

noncomputable def Sec.Valid_1 (s0 : Int) : Option Bool :=
  Option.bind (Sec.isNumber s0) fun t4 =>
  letk (!t4) fun t5 =>
  some t5

theorem Sec.Valid_1_ok {s0 : Int} {r : Bool} (h0 : Sec.Valid_1 s0 = some r) : Gives Tryz.prog 186 [.lit (.int .i64 s0)] (.lit (.bool r)) := by
  unfold Sec.Valid_1 at h0
  refine ACalls.of_swp Tryz.func186 rfl (by decide) rfl (st0 := ⟨6, [(0, .lit (.int .i64 s0))], []⟩) rfl (bwp_ok (C := []) ?_)
  obtain ⟨t4, et4, h1⟩ := bind_elim h0; clear h0
  conv => whnf
  refine Gate.go ?_
  conv => whnf
  refine CallN.by (v := .lit (.bool t4)) (Sec.isNumber_ok et4) rfl rfl ?_
  obtain ⟨t5, et5, h2⟩ := letk_elim h1; clear h1
  conv => whnf
  refine Nm.mk ⟨t5, et5, ?_⟩
  have eh2_0 := Option.some.inj h2
  subst eh2_0
  conv => whnf
  exact Returns.pure (r := .lit (.bool t5)) rfl rfl rfl rfl ⟨rfl, rfl⟩

noncomputable def Sec.ends.s0 (d0 : api.Desc) (t13 : Int) (d1_0 : Int) (d1_1 : List Int) (d1_2 : List Int) (least2 : Int) (greatest3 : Int) (t14 : Int) : Option ((Int × (List Int) × (List Int) × Int × Int × Int) ⊕ (Int × Int)) :=
  letk (decide (t14 < t13)) fun t15 =>
  bif t15 then
    chk (0 ≤ t14) <|
    Option.bind (d0.Strides[t14.toNat]?) fun t17 =>
    chk (0 ≤ t14) <|
    Option.bind (d1_1[t14.toNat]?) fun t23 =>
    letk (IntKind.i64.wrap (t23 - (1 : Int))) fun t25 =>
    letk (IntKind.i64.wrap (t17 * t25)) fun t26 =>
    letk (if 0 < t26 then 0 else t26) fun t29 =>
    letk (IntKind.i64.wrap (least2 + t29)) fun t30 =>
    letk (if 0 > t26 then 0 else t26) fun t33 =>
    letk (IntKind.i64.wrap (greatest3 + t33)) fun t34 =>
    letk (IntKind.i64.wrap (t14 + (1 : Int))) fun t35 =>
    some (.inl (d1_0, d1_1, d1_2, t30, t34, t35))
  else
    some (.inr (least2, greatest3))

noncomputable def Sec.ends.l0 (d0 : api.Desc) (t13 : Int) (d1_0 : Int) (d1_1 : List Int) (d1_2 : List Int) (least2 : Int) (greatest3 : Int) (t14 : Int) : Option (Int × Int) := loopO (fun v : Int × (List Int) × (List Int) × Int × Int × Int => Sec.ends.s0 d0 t13 v.1 v.2.1 v.2.2.1 v.2.2.2.1 v.2.2.2.2.1 v.2.2.2.2.2) (d1_0, d1_1, d1_2, least2, greatest3, t14)
theorem Sec.ends.l0_eq (d0 : api.Desc) (t13 : Int) (d1_0 : Int) (d1_1 : List Int) (d1_2 : List Int) (least2 : Int) (greatest3 : Int) (t14 : Int) : Sec.ends.l0 d0 t13 d1_0 d1_1 d1_2 least2 greatest3 t14 = (Sec.ends.s0 d0 t13 d1_0 d1_1 d1_2 least2 greatest3 t14).bind (Sum.elim (fun v => Sec.ends.l0 d0 t13 v.1 v.2.1 v.2.2.1 v.2.2.2.1 v.2.2.2.2.1 v.2.2.2.2.2) some) := loopO_eq _ _

noncomputable def Sec.ends (d0 : api.Desc) : Option (Int × Int) :=
  letk ((d0.Strides.length : Int)) fun t13 =>
  Sec.ends.l0 d0 t13 d0.Base d0.Extents d0.Strides d0.Base d0.Base 0

theorem Sec.ends_ok {d0 : api.Desc} {r : Int × Int} (h0 : Sec.ends d0 = some r) : Gives Tryz.prog 188 [api.Desc.enc d0] (.tup [.lit (.int .i64 r.1), .lit (.int .i64 r.2)]) := by
  unfold Sec.ends at h0
  refine ACalls.of_swp Tryz.func188 rfl (by decide) rfl (st0 := ⟨38, [(0, api.Desc.enc d0)], []⟩) rfl (bwp_ok (C := []) ?_)
  conv => whnf
  refine Nm.mk ⟨[.lit (.int .i64 d0.Base), .vs 1 (d0.Extents.map (eI .i64)), .vs 1 (d0.Strides.map (eI .i64))], rfl, ?_⟩
  conv => whnf
  refine DrawB.ofG [none, none, none, none, none, none] Tryz_mixed (by kernel_rfl) (by kernel_rfl) ?_
  conv => whnf
  refine DNodeB.of (.ptr 0 0) ?_ ?_
  · conv => whnf
    rfl
  conv => whnf
  refine DNodeB.of (.lit (.int .i64 d0.Base)) ?_ ?_
  · conv => whnf
    rfl
  conv => whnf
  refine DNodeB.of (.ptr 0 0) ?_ ?_
  · conv => whnf
    rfl
  conv => whnf
  refine DNodeB.of (.lit (.int .i64 d0.Base)) ?_ ?_
  · conv => whnf
    rfl
  conv => whnf
  refine DNodeB.of (.lit (.int .i64 d0.Base)) ?_ ?_
  · conv => whnf
    rfl
  conv => whnf
  refine DNodeB.of (.lit (.int .i64 d0.Base)) ?_ ?_
  · conv => whnf
    rfl
  obtain ⟨t13, et13, h1⟩ := letk_elim h0; clear h0
  conv => whnf
  refine Nm.mk ⟨t13, by rw [et13, List.length_map], ?_⟩
  conv => whnf
  unfold Sec.ends.l0 at h1
  refine LoopB.of (σ := Int × (List Int) × (List Int) × Int × Int × Int) (ρ := Int × Int) (fun v : Int × (List Int) × (List Int) × Int × Int × Int => Sec.ends.s0 d0 t13 v.1 v.2.1 v.2.2.1 v.2.2.2.1 v.2.2.2.2.1 v.2.2.2.2.2) (fun v => (⟨38, [(1, .ptr 0 0), (2, .lit (.int .i64 v.2.2.2.1)), (3, .lit (.int .i64 v.2.2.2.2.1)), (12, .vs 1 (d0.Strides.map (eI .i64))), (13, .lit (.int .i64 t13)), (14, .lit (.int .i64 v.2.2.2.2.2))], [.box [.lit (.int .i64 v.1), .vs 1 (v.2.1.map (eI .i64)), .vs 1 (v.2.2.1.map (eI .i64))]]⟩ : St)) (d0.Base, d0.Extents, d0.Strides, d0.Base, d0.Base, 0) h1 (BackS.by rfl (Sees.of (Weak.objs (keep := [0]) (frz := []) (m := 0) rfl (by decide) rfl rfl ⟨⟨_, rfl, WO.boxs ⟨.s, .s, .s, trivial⟩⟩, ⟨rfl, fun _ h => by cases h⟩⟩ ⟨(.ptr _ _ 0 rfl), .s, .s, .s, .s, .s, trivial⟩))) ?_
  clear h1
  rintro K1 ⟨d1_0, d1_1, d1_2, least2, greatest3, t14⟩ x1 hs0_0 hl1 hr1
  replace hs0_0 : Sec.ends.s0 d0 t13 d1_0 d1_1 d1_2 least2 greatest3 t14 = some x1 := hs0_0
  unfold Sec.ends.s0 at hs0_0
  change bwp _ _ _ _ _ (⟨38, [(1, .ptr 0 0), (2, .lit (.int .i64 least2)), (3, .lit (.int .i64 greatest3)), (12, .vs 1 (d0.Strides.map (eI .i64))), (13, .lit (.int .i64 t13)), (14, .lit (.int .i64 t14))], [.box [.lit (.int .i64 d1_0), .vs 1 (d1_1.map (eI .i64)), .vs 1 (d1_2.map (eI .i64))]]⟩ : St)
  obtain ⟨t15, et15, hs0_1⟩ := letk_elim hs0_0; clear hs0_0
  conv => whnf
  refine Nm.mk ⟨t15, et15, ?_⟩
  rcases t15 with _ | _
  · have hs0_2 := bif_f hs0_1
    clear hs0_1
    have ehs0_2u_0 := hr1 _ (Option.some.inj hs0_2).symm
    have hs0_2u := congrArg some ehs0_2u_0
    have ehs0_2u_0 := Option.some.inj hs0_2u
    subst ehs0_2u_0
    conv => whnf
    exact Returns.pure (r := .tup [.lit (.int .i64 least2), .lit (.int .i64 greatest3)]) rfl rfl rfl rfl ⟨rfl, rfl⟩
  have hs0_2 := bif_t hs0_1
  clear hs0_1
  obtain ⟨chs0_3, hs0_3⟩ := chk_elim hs0_2; clear hs0_2
  obtain ⟨t17, et17, hs0_4⟩ := bind_elim hs0_3; clear hs0_3
  conv => whnf
  refine Side.mk chs0_3 ?_
  conv => whnf
  refine At.by et17 ?_
  obtain ⟨chs0_5, hs0_5⟩ := chk_elim hs0_4; clear hs0_4
  obtain ⟨t23, et23, hs0_6⟩ := bind_elim hs0_5; clear hs0_5
  conv => whnf
  refine Side.mk chs0_5 ?_
  conv => whnf
  refine At.by et23 ?_
  obtain ⟨t25, et25, hs0_7⟩ := letk_elim hs0_6; clear hs0_6
  conv => whnf
  refine Nm.mk ⟨t25, et25, ?_⟩
  obtain ⟨t26, et26, hs0_8⟩ := letk_elim hs0_7; clear hs0_7
  conv => whnf
  refine Nm.mk ⟨t26, et26, ?_⟩
  obtain ⟨t29, et29, hs0_9⟩ := letk_elim hs0_8; clear hs0_8
  conv => whnf
  refine Nm.mk ⟨t29, et29, ?_⟩
  obtain ⟨t30, et30, hs0_10⟩ := letk_elim hs0_9; clear hs0_9
  conv => whnf
  refine Nm.mk ⟨t30, et30, ?_⟩
  obtain ⟨t33, et33, hs0_11⟩ := letk_elim hs0_10; clear hs0_10
  conv => whnf
  refine Nm.mk ⟨t33, et33, ?_⟩
  obtain ⟨t34, et34, hs0_12⟩ := letk_elim hs0_11; clear hs0_11
  conv => whnf
  refine Nm.mk ⟨t34, et34, ?_⟩
  obtain ⟨t35, et35, hs0_13⟩ := letk_elim hs0_12; clear hs0_12
  conv => whnf
  refine Nm.mk ⟨t35, et35, ?_⟩
  exact BackS.by ⟨_, hl1 _ (Option.some.inj hs0_13).symm, rfl⟩ (Sees.of (Weak.objs (keep := [0]) (frz := []) (m := 0) rfl (by decide) rfl rfl ⟨⟨_, rfl, WO.boxs ⟨.s, .s, .s, trivial⟩⟩, ⟨rfl, fun _ h => by cases h⟩⟩ ⟨(.ptr _ _ 0 rfl), .s, .s, .s, .s, .s, trivial⟩))

noncomputable def Sec.Valid.j0 (t8 : Int) (d1_0 : Int) (d1_1 : List Int) (d1_2 : List Int) : Option Bool :=
  letk (t8 == (0 : Int)) fun t31 =>
  bif t31 then
    some true
  else
    letk (decide (d1_0 > (2147483648 : Int))) fun t34 =>
    bif t34 then
      some false
    else
      Option.bind (Sec.ends (⟨d1_0, d1_1, d1_2⟩ : api.Desc)) fun (t37_0, t37_1) =>
      letk (decide (t37_0 ≥ (0 : Int))) fun t41 =>
      bif t41 then
        letk (decide (t37_1 ≤ (2147483648 : Int))) fun t44 =>
        some t44
      else
        some false

noncomputable def Sec.Valid (d0 : api.Desc) : Option Bool :=
  Option.bind (Sec.size d0.Extents) fun t8 =>
  letk (decide (t8 < (0 : Int))) fun t10 =>
  bif t10 then
    some false
  else
    letk ((d0.Strides.length : Int)) fun t14 =>
    letk ((d0.Extents.length : Int)) fun t17 =>
    letk (t14 != t17) fun t18 =>
    bif t18 then
      some false
    else
      letk (decide (d0.Base < (0 : Int))) fun t23 =>
      bif t23 then
        some false
      else
        Option.bind (Slcs.ContainsFunc___int_int_ d0.Strides Sec.Valid_1) fun t28 =>
        bif t28 then
          some false
        else
          Sec.Valid.j0 t8 d0.Base d0.Extents d0.Strides

theorem Sec.Valid_ok {d0 : api.Desc} {r : Bool} (h0 : Sec.Valid d0 = some r) : Gives Tryz.prog 139 [api.Desc.enc d0] (.lit (.bool r)) := by
  unfold Sec.Valid at h0
  refine ACalls.of_swp Tryz.func139 rfl (by decide) rfl (st0 := ⟨46, [(0, api.Desc.enc d0)], []⟩) rfl (bwp_ok (C := [(0, 4)]) ?_)
  conv => whnf
  refine Nm.mk ⟨[.lit (.int .i64 d0.Base), .vs 1 (d0.Extents.map (eI .i64)), .vs 1 (d0.Strides.map (eI .i64))], rfl, ?_⟩
  obtain ⟨t8, et8, h1⟩ := bind_elim h0; clear h0
  conv => whnf
  refine Gate.go ?_
  conv => whnf
  refine CallN.by (v := .lit (.int .i64 t8)) (Sec.size_ok et8) rfl rfl ?_
  conv => whnf
  refine CutN.of (fun s => ∃ (d1_0 : Int) (d1_1 : List Int) (d1_2 : List Int), Sec.Valid.j0 t8 d1_0 d1_1 d1_2 = some r ∧ s = (⟨46, [(1, .ptr 0 0), (3, .lit (.int .i64 t8))], [.box [.lit (.int .i64 d1_0), .vs 1 (d1_1.map (eI .i64)), .vs 1 (d1_2.map (eI .i64))]]⟩ : St)) ?_ ?_
  · obtain ⟨t10, et10, h2⟩ := letk_elim h1; clear h1
    conv => whnf
    refine Nm.mk ⟨t10, et10, ?_⟩
    rcases t10 with _ | _
    · have h3 := bif_f h2
      clear h2
      obtain ⟨t14, et14, h4⟩ := letk_elim h3; clear h3
      conv => whnf
      refine Nm.mk ⟨t14, by rw [et14, List.length_map], ?_⟩
      obtain ⟨t17, et17, h5⟩ := letk_elim h4; clear h4
      conv => whnf
      refine Nm.mk ⟨t17, by rw [et17, List.length_map], ?_⟩
      obtain ⟨t18, et18, h6⟩ := letk_elim h5; clear h5
      conv => whnf
      refine Nm.mk ⟨t18, et18, ?_⟩
      rcases t18 with _ | _
      · have h7 := bif_f h6
        clear h6
        obtain ⟨t23, et23, h8⟩ := letk_elim h7; clear h7
        conv => whnf
        refine Nm.mk ⟨t23, et23, ?_⟩
        rcases t23 with _ | _
        · have h9 := bif_f h8
          clear h8
          obtain ⟨t28, et28, h10⟩ := bind_elim h9; clear h9
          conv => whnf
          refine Gate.go ?_
          conv => whnf
          refine CallN.by (v := .lit (.bool t28)) (Slcs.ContainsFunc___int_int__ok (show List.all [] pureQ.pureQ0 = true from rfl) (fun _ r h => Sec.Valid_1_ok h) et28) rfl rfl ?_
          rcases t28 with _ | _
          · have h11 := bif_f h10
            clear h10
            exact BackS.by ⟨_, _, _, h11, rfl⟩ (Sees.of (Weak.objs (keep := [0]) (frz := []) (m := 0) rfl (by decide) rfl rfl ⟨⟨_, rfl, WO.boxs ⟨.s, .s, .s, trivial⟩⟩, ⟨rfl, fun _ h => by cases h⟩⟩ ⟨(.ptr _ _ 0 rfl), .s, trivial⟩))
          have h11 := bif_t h10
          clear h10
          have eh11_0 := Option.some.inj h11
          subst eh11_0
          conv => whnf
          exact Returns.pure (r := .lit (.bool false)) rfl rfl rfl rfl ⟨rfl, rfl⟩
        have h9 := bif_t h8
        clear h8
        have eh9_0 := Option.some.inj h9
        subst eh9_0
        conv => whnf
        exact Returns.pure (r := .lit (.bool false)) rfl rfl rfl rfl ⟨rfl, rfl⟩
      have h7 := bif_t h6
      clear h6
      have eh7_0 := Option.some.inj h7
      subst eh7_0
      conv => whnf
      exact Returns.pure (r := .lit (.bool false)) rfl rfl rfl rfl ⟨rfl, rfl⟩
    have h3 := bif_t h2
    clear h2
    have eh3_0 := Option.some.inj h3
    subst eh3_0
    conv => whnf
    exact Returns.pure (r := .lit (.bool false)) rfl rfl rfl rfl ⟨rfl, rfl⟩
  clear h1
  rintro s ⟨d1_0, d1_1, d1_2, hj0, rfl⟩
  unfold Sec.Valid.j0 at hj0
  obtain ⟨t31, et31, hj1⟩ := letk_elim hj0; clear hj0
  conv => whnf
  refine Nm.mk ⟨t31, et31, ?_⟩
  rcases t31 with _ | _
  · have hj2 := bif_f hj1
    clear hj1
    obtain ⟨t34, et34, hj3⟩ := letk_elim hj2; clear hj2
    conv => whnf
    refine Nm.mk ⟨t34, et34, ?_⟩
    rcases t34 with _ | _
    · have hj4 := bif_f hj3
      clear hj3
      obtain ⟨⟨t37_0, t37_1⟩, et37, hj5⟩ := bind_elim hj4; clear hj4
      conv => whnf
      refine Gate.go ?_
      conv => whnf
      refine CallN.by (v := .tup [.lit (.int .i64 t37_0), .lit (.int .i64 t37_1)]) (Sec.ends_ok et37) rfl rfl ?_
      obtain ⟨t41, et41, hj6⟩ := letk_elim hj5; clear hj5
      conv => whnf
      refine Nm.mk ⟨t41, et41, ?_⟩
      rcases t41 with _ | _
      · have hj7 := bif_f hj6
        clear hj6
        have ehj7_0 := Option.some.inj hj7
        subst ehj7_0
        conv => whnf
        exact Returns.pure (r := .lit (.bool false)) rfl rfl rfl rfl ⟨rfl, rfl⟩
      have hj7 := bif_t hj6
      clear hj6
      obtain ⟨t44, et44, hj8⟩ := letk_elim hj7; clear hj7
      conv => whnf
      refine Nm.mk ⟨t44, et44, ?_⟩
      have ehj8_0 := Option.some.inj hj8
      subst ehj8_0
      conv => whnf
      exact Returns.pure (r := .lit (.bool t44)) rfl rfl rfl rfl ⟨rfl, rfl⟩
    have hj4 := bif_t hj3
    clear hj3
    have ehj4_0 := Option.some.inj hj4
    subst ehj4_0
    conv => whnf
    exact Returns.pure (r := .lit (.bool false)) rfl rfl rfl rfl ⟨rfl, rfl⟩
  have hj2 := bif_t hj1
  clear hj1
  have ehj2_0 := Option.some.inj hj2
  subst ehj2_0
  conv => whnf
  exact Returns.pure (r := .lit (.bool true)) rfl rfl rfl rfl ⟨rfl, rfl⟩

noncomputable def Sec.Size (d0 : api.Desc) : Option (Int × Int) :=
  Option.bind (Sec.Valid (⟨d0.Base, d0.Extents, d0.Strides⟩ : api.Desc)) fun t5 =>
  letk (!t5) fun t6 =>
  bif t6 then
    some (0, 2)
  else
    Option.bind (Sec.size d0.Extents) fun t9 =>
    some (t9, 0)

theorem Sec.Size_ok {d0 : api.Desc} {r : Int × Int} (h0 : Sec.Size d0 = some r) : Gives Tryz.prog 106 [api.Desc.enc d0] (.tup [.lit (.int .i64 r.1), .lit (.int .i64 r.2)]) := by
  unfold Sec.Size at h0
  refine ACalls.of_swp Tryz.func106 rfl (by decide) rfl (st0 := ⟨10, [(0, api.Desc.enc d0)], []⟩) rfl (bwp_ok (C := []) ?_)
  conv => whnf
  refine Nm.mk ⟨[.lit (.int .i64 d0.Base), .vs 1 (d0.Extents.map (eI .i64)), .vs 1 (d0.Strides.map (eI .i64))], rfl, ?_⟩
  obtain ⟨t5, et5, h1⟩ := bind_elim h0; clear h0
  conv => whnf
  refine Gate.go ?_
  conv => whnf
  refine CallN.by (v := .lit (.bool t5)) (Sec.Valid_ok et5) rfl rfl ?_
  obtain ⟨t6, et6, h2⟩ := letk_elim h1; clear h1
  conv => whnf
  refine Nm.mk ⟨t6, et6, ?_⟩
  rcases t6 with _ | _
  · have h3 := bif_f h2
    clear h2
    obtain ⟨t9, et9, h4⟩ := bind_elim h3; clear h3
    conv => whnf
    refine Gate.go ?_
    conv => whnf
    refine CallN.by (v := .lit (.int .i64 t9)) (Sec.size_ok et9) rfl rfl ?_
    have eh4_0 := Option.some.inj h4
    subst eh4_0
    conv => whnf
    exact Returns.pure (r := .tup [.lit (.int .i64 t9), .lit (.int .i64 0)]) rfl rfl rfl rfl ⟨rfl, rfl⟩
  have h3 := bif_t h2
  clear h2
  have eh3_0 := Option.some.inj h3
  subst eh3_0
  conv => whnf
  exact Returns.pure (r := .tup [.lit (.int .i64 0), .lit (.int .i64 2)]) rfl rfl rfl rfl ⟨rfl, rfl⟩

noncomputable def Arr.size (shape0 : List Int) : Option Int :=
  Option.bind (Sec.Whole shape0) fun (t9_0, t9_1) =>
  letk (t9_1 != (0 : Int)) fun t13 =>
  bif t13 then
    some (-1)
  else
    Option.bind (Sec.Size (⟨t9_0.Base, t9_0.Extents, t9_0.Strides⟩ : api.Desc)) fun (t16_0, t16_1) =>
    some t16_0

theorem Arr.size_ok {shape0 : List Int} {r : Int} (h0 : Arr.size shape0 = some r) : Gives Tryz.prog 51 [.vs 1 (shape0.map (eI .i64))] (.lit (.int .i64 r)) := by
  unfold Arr.size at h0
  refine ACalls.of_swp Tryz.func51 rfl (by decide) rfl (st0 := ⟨20, [(0, .vs 1 (shape0.map (eI .i64)))], []⟩) rfl (bwp_ok (C := []) ?_)
  obtain ⟨⟨t9_0, t9_1⟩, et9, h1⟩ := bind_elim h0; clear h0
  conv => whnf
  refine Gate.go ?_
  conv => whnf
  refine CallN.by (v := .tup [api.Desc.enc t9_0, .lit (.int .i64 t9_1)]) (Sec.Whole_ok et9) rfl rfl ?_
  conv => whnf
  refine Nm.mk ⟨[.lit (.int .i64 0), .nils, .nils], rfl, ?_⟩
  conv => whnf
  refine Nm.mk ⟨[.lit (.int .i64 t9_0.Base), .vs 1 (t9_0.Extents.map (eI .i64)), .vs 1 (t9_0.Strides.map (eI .i64))], rfl, ?_⟩
  obtain ⟨t13, et13, h2⟩ := letk_elim h1; clear h1
  conv => whnf
  refine Nm.mk ⟨t13, et13, ?_⟩
  rcases t13 with _ | _
  · have h3 := bif_f h2
    clear h2
    obtain ⟨⟨t16_0, t16_1⟩, et16, h4⟩ := bind_elim h3; clear h3
    conv => whnf
    refine Gate.go ?_
    conv => whnf
    refine CallN.by (v := .tup [.lit (.int .i64 t16_0), .lit (.int .i64 t16_1)]) (Sec.Size_ok et16) rfl rfl ?_
    have eh4_0 := Option.some.inj h4
    subst eh4_0
    conv => whnf
    exact Returns.pure (r := .lit (.int .i64 t16_0)) rfl rfl rfl rfl ⟨rfl, rfl⟩
  have h3 := bif_t h2
  clear h2
  have eh3_0 := Option.some.inj h3
  subst eh3_0
  conv => whnf
  exact Returns.pure (r := .lit (.int .i64 ((-1)))) rfl rfl rfl rfl ⟨rfl, rfl⟩

noncomputable def Arr.bytes (kind0 : Int) : Option Int :=
  letk (kind0 == (3 : Int)) fun t5 =>
  bif t5 then
    some 4
  else
    letk (kind0 == (4 : Int)) fun t7 =>
    bif t7 then
      some 8
    else
      some 0

theorem Arr.bytes_ok {kind0 : Int} {r : Int} (h0 : Arr.bytes kind0 = some r) : Gives Tryz.prog 109 [.lit (.int .i64 kind0)] (.lit (.int .i64 r)) := by
  unfold Arr.bytes at h0
  refine ACalls.of_swp Tryz.func109 rfl (by decide) rfl (st0 := ⟨8, [(0, .lit (.int .i64 kind0))], []⟩) rfl (bwp_ok (C := []) ?_)
  obtain ⟨t5, et5, h1⟩ := letk_elim h0; clear h0
  conv => whnf
  refine Nm.mk ⟨t5, et5, ?_⟩
  rcases t5 with _ | _
  · have h2 := bif_f h1
    clear h1
    obtain ⟨t7, et7, h3⟩ := letk_elim h2; clear h2
    conv => whnf
    refine Nm.mk ⟨t7, et7, ?_⟩
    rcases t7 with _ | _
    · have h4 := bif_f h3
      clear h3
      have eh4_0 := Option.some.inj h4
      subst eh4_0
      conv => whnf
      exact Returns.pure (r := .lit (.int .i64 0)) rfl rfl rfl rfl ⟨rfl, rfl⟩
    have h4 := bif_t h3
    clear h3
    have eh4_0 := Option.some.inj h4
    subst eh4_0
    conv => whnf
    exact Returns.pure (r := .lit (.int .i64 8)) rfl rfl rfl rfl ⟨rfl, rfl⟩
  have h2 := bif_t h1
  clear h1
  have eh2_0 := Option.some.inj h2
  subst eh2_0
  conv => whnf
  exact Returns.pure (r := .lit (.int .i64 4)) rfl rfl rfl rfl ⟨rfl, rfl⟩

noncomputable def Arr.fits.j0 (kind0 : Int) (n1 : Int) (t22 : Bool) : Option Bool :=
  bif t22 then
    Option.bind (Arr.bytes kind0) fun t26 =>
    none
  else
    some false

noncomputable def Arr.fits (kind0 : Int) (n1 : Int) : Option Bool :=
  letk (kind0 == (1 : Int)) fun t7 =>
  bif t7 then
    letk (decide (n1 ≥ ((-2147483647) : Int))) fun t9 =>
    bif t9 then
      letk (decide (n1 ≤ (2147483647 : Int))) fun t12 =>
      some t12
    else
      some false
  else
    letk (kind0 == (2 : Int)) fun t15 =>
    bif t15 then
      letk (n1 == (0 : Int)) fun t17 =>
      bif t17 then
        some true
      else
        letk (n1 == (1 : Int)) fun t20 =>
        some t20
    else
      letk (kind0 == (3 : Int)) fun t23 =>
      bif t23 then
        Arr.fits.j0 kind0 n1 true
      else
        letk (kind0 == (4 : Int)) fun t24 =>
        Arr.fits.j0 kind0 n1 t24

theorem Arr.fits_ok {kind0 : Int} {n1 : Int} {r : Bool} (h0 : Arr.fits kind0 n1 = some r) : Gives Tryz.prog 54 [.lit (.int .i64 kind0), .lit (.int .i64 n1)] (.lit (.bool r)) := by
  unfold Arr.fits at h0
  refine ACalls.of_swp Tryz.func54 rfl (by decide) rfl (st0 := ⟨29, [(0, .lit (.int .i64 kind0)), (1, .lit (.int .i64 n1))], []⟩) rfl (bwp_ok (C := [(32, 17)]) ?_)
  obtain ⟨t7, et7, h1⟩ := letk_elim h0; clear h0
  conv => whnf
  refine Nm.mk ⟨t7, et7, ?_⟩
  rcases t7 with _ | _
  · have h2 := bif_f h1
    clear h1
    obtain ⟨t15, et15, h3⟩ := letk_elim h2; clear h2
    conv => whnf
    refine Nm.mk ⟨t15, et15, ?_⟩
    rcases t15 with _ | _
    · have h4 := bif_f h3
      clear h3
      conv => whnf
      refine CutN.of (fun s => ∃ (t22 : Bool), Arr.fits.j0 kind0 n1 t22 = some r ∧ s = (⟨29, [(0, .lit (.int .i64 kind0)), (1, .lit (.int .i64 n1)), (22, .lit (.bool t22))], []⟩ : St)) ?_ ?_
      · obtain ⟨t23, et23, h5⟩ := letk_elim h4; clear h4
        conv => whnf
        refine Nm.mk ⟨t23, et23, ?_⟩
        rcases t23 with _ | _
        · have h6 := bif_f h5
          clear h5
          obtain ⟨t24, et24, h7⟩ := letk_elim h6; clear h6
          conv => whnf
          refine Nm.mk ⟨t24, et24, ?_⟩
          exact BackS.by ⟨_, h7, rfl⟩ (Sees.e ⟨.s, .s, .s, trivial⟩)
        have h6 := bif_t h5
        clear h5
        exact BackS.by ⟨_, h6, rfl⟩ (Sees.e ⟨.s, .s, .s, trivial⟩)
      clear h4
      rintro s ⟨t22, hj0, rfl⟩
      unfold Arr.fits.j0 at hj0
      rcases t22 with _ | _
      · have hj1 := bif_f hj0
        clear hj0
        have ehj1_0 := Option.some.inj hj1
        subst ehj1_0
        conv => whnf
        exact Returns.pure (r := .lit (.bool false)) rfl rfl rfl rfl ⟨rfl, rfl⟩
      have hj1 := bif_t hj0
      clear hj0
      obtain ⟨t26, et26, hj2⟩ := bind_elim hj1; clear hj1
      conv => whnf
      refine Gate.go ?_
      conv => whnf
      refine CallN.by (v := .lit (.int .i64 t26)) (Arr.bytes_ok et26) rfl rfl ?_
      cases hj2
    have h4 := bif_t h3
    clear h3
    obtain ⟨t17, et17, h5⟩ := letk_elim h4; clear h4
    conv => whnf
    refine Nm.mk ⟨t17, et17, ?_⟩
    rcases t17 with _ | _
    · have h6 := bif_f h5
      clear h5
      obtain ⟨t20, et20, h7⟩ := letk_elim h6; clear h6
      conv => whnf
      refine Nm.mk ⟨t20, et20, ?_⟩
      have eh7_0 := Option.some.inj h7
      subst eh7_0
      conv => whnf
      exact Returns.pure (r := .lit (.bool t20)) rfl rfl rfl rfl ⟨rfl, rfl⟩
    have h6 := bif_t h5
    clear h5
    have eh6_0 := Option.some.inj h6
    subst eh6_0
    conv => whnf
    exact Returns.pure (r := .lit (.bool true)) rfl rfl rfl rfl ⟨rfl, rfl⟩
  have h2 := bif_t h1
  clear h1
  obtain ⟨t9, et9, h3⟩ := letk_elim h2; clear h2
  conv => whnf
  refine Nm.mk ⟨t9, et9, ?_⟩
  rcases t9 with _ | _
  · have h4 := bif_f h3
    clear h3
    have eh4_0 := Option.some.inj h4
    subst eh4_0
    conv => whnf
    exact Returns.pure (r := .lit (.bool false)) rfl rfl rfl rfl ⟨rfl, rfl⟩
  have h4 := bif_t h3
  clear h3
  obtain ⟨t12, et12, h5⟩ := letk_elim h4; clear h4
  conv => whnf
  refine Nm.mk ⟨t12, et12, ?_⟩
  have eh5_0 := Option.some.inj h5
  subst eh5_0
  conv => whnf
  exact Returns.pure (r := .lit (.bool t12)) rfl rfl rfl rfl ⟨rfl, rfl⟩

noncomputable def Arr.Valid_1 (n0 : Int) (t1 : api.Array) : Option Bool :=
  Option.bind (Arr.fits t1.Kind n0) fun t7 =>
  letk (!t7) fun t8 =>
  some t8

theorem Arr.Valid_1_ok {n0 : Int} {t1 : api.Array} {r : Bool} (h0 : Arr.Valid_1 n0 t1 = some r) : Gives Tryz.prog 53 [.lit (.int .i64 n0), .iptr (api.Array.enc t1)] (.lit (.bool r)) := by
  unfold Arr.Valid_1 at h0
  refine ACalls.of_swp Tryz.func53 rfl (by decide) rfl (st0 := ⟨9, [(0, .lit (.int .i64 n0)), (1, .iptr (api.Array.enc t1))], []⟩) rfl (bwp_ok (C := []) ?_)
  obtain ⟨t7, et7, h1⟩ := bind_elim h0; clear h0
  conv => whnf
  refine Gate.go ?_
  conv => whnf
  refine CallN.by (v := .lit (.bool t7)) (Arr.fits_ok et7) rfl rfl ?_
  obtain ⟨t8, et8, h2⟩ := letk_elim h1; clear h1
  conv => whnf
  refine Nm.mk ⟨t8, et8, ?_⟩
  have eh2_0 := Option.some.inj h2
  subst eh2_0
  conv => whnf
  exact Returns.pure (r := .lit (.bool t8)) rfl rfl rfl rfl ⟨rfl, rfl⟩

noncomputable def Arr.Valid (a0 : api.Array) : Option Bool :=
  letk (decide (a0.Kind ≥ (1 : Int))) fun t5 =>
  bif t5 then
    letk (decide (a0.Kind ≤ (4 : Int))) fun t9 =>
    bif t9 then
      Option.bind (Arr.size a0.Shape) fun t14 =>
      letk ((a0.Elems.length : Int)) fun t17 =>
      letk (t14 == t17) fun t18 =>
      bif t18 then
        Option.bind (Slcs.ContainsFunc___int_int_ a0.Elems (fun z0_ => Arr.Valid_1 z0_ (⟨a0.Kind, a0.Shape, a0.Elems⟩ : api.Array))) fun t24 =>
        letk (!t24) fun t25 =>
        some t25
      else
        some false
    else
      some false
  else
    some false

theorem Arr.Valid_ok {a0 : api.Array} {r : Bool} (h0 : Arr.Valid a0 = some r) : Gives Tryz.prog 20 [api.Array.enc a0] (.lit (.bool r)) := by
  unfold Arr.Valid at h0
  refine ACalls.of_swp Tryz.func20 rfl (by decide) rfl (st0 := ⟨27, [(0, api.Array.enc a0)], []⟩) rfl (bwp_ok (C := []) ?_)
  conv => whnf
  refine Nm.mk ⟨[.lit (.int .i64 a0.Kind), .vs 1 (a0.Shape.map (eI .i64)), .vs 1 (a0.Elems.map (eI .i64))], rfl, ?_⟩
  conv => whnf
  refine DrawB.sees (Sees.of (Weak.objs (k := 27) (keep := []) (frz := [0]) (m := 0) (ts := [(1, .iptr (.agg [.lit (.int .i64 a0.Kind), .vs 1 (a0.Shape.map (eI .i64)), .vs 1 (a0.Elems.map (eI .i64))]))]) (hs := []) rfl (by decide) rfl rfl ⟨rfl, fun _ h => by cases h⟩ ⟨(.ptrFrz 0 _ (by decide) rfl rfl), trivial⟩)) ?_
  refine DrawB.ofG [none, none, none, none, some 6, some 6, some 6, none, none, some 11, some 11, some 11, some 11, some 11, some 11, some 11, none, none, some 20, some 20, some 20, some 20, some 20, none, none] Tryz_mixed (by kernel_rfl) (by kernel_rfl) ?_
  conv => whnf
  refine DNodeB.of (.iptr (.lit (.int .i64 a0.Kind))) ?_ ?_
  · conv => whnf
    rfl
  conv => whnf
  refine DNodeB.of (.lit (.int .i64 a0.Kind)) ?_ ?_
  · conv => whnf
    rfl
  obtain ⟨t5, et5, h1⟩ := letk_elim h0; clear h0
  conv => whnf
  refine DNodeB.of (.lit (.bool t5)) ?_ ?_
  · conv => whnf
    refine Nm.mk ⟨t5, et5, ?_⟩
    conv => whnf
    rfl
  conv => whnf
  refine DNodeB.of (.lit (.bool t5)) ?_ ?_
  · conv => whnf
    rfl
  rcases t5 with _ | _
  · have h2 := bif_f h1
    clear h1
    conv => whnf
    refine DNodeB.of (.lit (.bool false)) ?_ ?_
    · conv => whnf
      rfl
    conv => whnf
    refine DNodeB.of (.lit (.bool false)) ?_ ?_
    · conv => whnf
      rfl
    conv => whnf
    refine DNodeB.of (.lit (.bool false)) ?_ ?_
    · conv => whnf
      rfl
    conv => whnf
    refine DNodeB.of (.lit (.bool false)) ?_ ?_
    · conv => whnf
      rfl
    conv => whnf
    refine DNodeB.of (.lit (.bool false)) ?_ ?_
    · conv => whnf
      rfl
    conv => whnf
    refine DNodeB.of (.lit (.bool false)) ?_ ?_
    · conv => whnf
      rfl
    have eh2_0 := Option.some.inj h2
    subst eh2_0
    conv => whnf
    exact Returns.pure (r := .lit (.bool false)) rfl rfl rfl rfl ⟨rfl, rfl⟩
  have h2 := bif_t h1
  clear h1
  conv => whnf
  refine DNodeB.of (.iptr (.lit (.int .i64 a0.Kind))) ?_ ?_
  · conv => whnf
    rfl
  conv => whnf
  refine DNodeB.of (.lit (.int .i64 a0.Kind)) ?_ ?_
  · conv => whnf
    rfl
  obtain ⟨t9, et9, h3⟩ := letk_elim h2; clear h2
  conv => whnf
  refine DNodeB.of (.lit (.bool t9)) ?_ ?_
  · conv => whnf
    refine Nm.mk ⟨t9, et9, ?_⟩
    conv => whnf
    rfl
  conv => whnf
  refine DNodeB.of (.lit (.bool t9)) ?_ ?_
  · conv => whnf
    rfl
  conv => whnf
  refine DNodeB.of (.lit (.bool t9)) ?_ ?_
  · conv => whnf
    rfl
  rcases t9 with _ | _
  · have h4 := bif_f h3
    clear h3
    conv => whnf
    refine DNodeB.of (.lit (.bool false)) ?_ ?_
    · conv => whnf
      rfl
    conv => whnf
    refine DNodeB.of (.lit (.bool false)) ?_ ?_
    · conv => whnf
      rfl
    conv => whnf
    refine DNodeB.of (.lit (.bool false)) ?_ ?_
    · conv => whnf
      rfl
    conv => whnf
    refine DNodeB.of (.lit (.bool false)) ?_ ?_
    · conv => whnf
      rfl
    have eh4_0 := Option.some.inj h4
    subst eh4_0
    conv => whnf
    exact Returns.pure (r := .lit (.bool false)) rfl rfl rfl rfl ⟨rfl, rfl⟩
  have h4 := bif_t h3
  clear h3
  conv => whnf
  refine DNodeB.of (.iptr (.vs 1 (a0.Shape.map (eI .i64)))) ?_ ?_
  · conv => whnf
    rfl
  conv => whnf
  refine DNodeB.of (.vs 1 (a0.Shape.map (eI .i64))) ?_ ?_
  · conv => whnf
    rfl
  obtain ⟨t14, et14, h5⟩ := bind_elim h4; clear h4
  conv => whnf
  refine DNodeB.of (.lit (.int .i64 t14)) ?_ ?_
  · conv => whnf
    refine CallN.by (v := .lit (.int .i64 t14)) (Arr.size_ok et14) rfl rfl ?_
    conv => whnf
    rfl
  conv => whnf
  refine DNodeB.of (.iptr (.vs 1 (a0.Elems.map (eI .i64)))) ?_ ?_
  · conv => whnf
    rfl
  conv => whnf
  refine DNodeB.of (.vs 1 (a0.Elems.map (eI .i64))) ?_ ?_
  · conv => whnf
    rfl
  obtain ⟨t17, et17, h6⟩ := letk_elim h5; clear h5
  conv => whnf
  refine DNodeB.of (.lit (.int .i64 t17)) ?_ ?_
  · conv => whnf
    refine Nm.mk ⟨t17, by rw [et17, List.length_map], ?_⟩
    conv => whnf
    rfl
  obtain ⟨t18, et18, h7⟩ := letk_elim h6; clear h6
  conv => whnf
  refine DNodeB.of (.lit (.bool t18)) ?_ ?_
  · conv => whnf
    refine Nm.mk ⟨t18, et18, ?_⟩
    conv => whnf
    rfl
  conv => whnf
  refine DNodeB.of (.lit (.bool t18)) ?_ ?_
  · conv => whnf
    rfl
  conv => whnf
  refine DNodeB.of (.lit (.bool t18)) ?_ ?_
  · conv => whnf
    rfl
  rcases t18 with _ | _
  · have h8 := bif_f h7
    clear h7
    conv => whnf
    refine DNodeB.of (.lit (.bool false)) ?_ ?_
    · conv => whnf
      rfl
    conv => whnf
    refine DNodeB.of (.lit (.bool false)) ?_ ?_
    · conv => whnf
      rfl
    have eh8_0 := Option.some.inj h8
    subst eh8_0
    conv => whnf
    exact Returns.pure (r := .lit (.bool false)) rfl rfl rfl rfl ⟨rfl, rfl⟩
  have h8 := bif_t h7
  clear h7
  conv => whnf
  refine DNodeB.of (.iptr (.vs 1 (a0.Elems.map (eI .i64)))) ?_ ?_
  · conv => whnf
    rfl
  conv => whnf
  refine DNodeB.of (.vs 1 (a0.Elems.map (eI .i64))) ?_ ?_
  · conv => whnf
    rfl
  conv => whnf
  refine DNodeB.of (.fn (.func 53) [] [.iptr (.agg [.lit (.int .i64 a0.Kind), .vs 1 (a0.Shape.map (eI .i64)), .vs 1 (a0.Elems.map (eI .i64))])]) ?_ ?_
  · conv => whnf
    rfl
  obtain ⟨t24, et24, h9⟩ := bind_elim h8; clear h8
  conv => whnf
  refine DNodeB.of (.lit (.bool t24)) ?_ ?_
  · conv => whnf
    refine CallN.by (v := .lit (.bool t24)) (Slcs.ContainsFunc___int_int__ok (show List.all [.iptr (.agg [.lit (.int .i64 a0.Kind), .vs 1 (a0.Shape.map (eI .i64)), .vs 1 (a0.Elems.map (eI .i64))])] pureQ.pureQ0 = true from rfl) (fun _ r h => Arr.Valid_1_ok h) et24) rfl rfl ?_
    conv => whnf
    rfl
  obtain ⟨t25, et25, h10⟩ := letk_elim h9; clear h9
  conv => whnf
  refine DNodeB.of (.lit (.bool t25)) ?_ ?_
  · conv => whnf
    refine Nm.mk ⟨t25, et25, ?_⟩
    conv => whnf
    rfl
  conv => whnf
  refine DNodeB.of (.lit (.bool t25)) ?_ ?_
  · conv => whnf
    rfl
  conv => whnf
  refine DNodeB.of (.lit (.bool t25)) ?_ ?_
  · conv => whnf
    rfl
  have eh10_0 := Option.some.inj h10
  subst eh10_0
  conv => whnf
  exact Returns.pure (r := .lit (.bool t25)) rfl rfl rfl rfl ⟨rfl, rfl⟩

noncomputable def Arr.Call_1 (a0 : api.Array) : Option Bool :=
  Option.bind (Arr.Valid (⟨a0.Kind, a0.Shape, a0.Elems⟩ : api.Array)) fun t4 =>
  letk (!t4) fun t5 =>
  some t5

theorem Arr.Call_1_ok {a0 : api.Array} {r : Bool} (h0 : Arr.Call_1 a0 = some r) : Gives Tryz.prog 38 [api.Array.enc a0] (.lit (.bool r)) := by
  unfold Arr.Call_1 at h0
  refine ACalls.of_swp Tryz.func38 rfl (by decide) rfl (st0 := ⟨6, [(0, api.Array.enc a0)], []⟩) rfl (bwp_ok (C := []) ?_)
  conv => whnf
  refine Nm.mk ⟨[.lit (.int .i64 a0.Kind), .vs 1 (a0.Shape.map (eI .i64)), .vs 1 (a0.Elems.map (eI .i64))], rfl, ?_⟩
  obtain ⟨t4, et4, h1⟩ := bind_elim h0; clear h0
  conv => whnf
  refine Gate.go ?_
  conv => whnf
  refine CallN.by (v := .lit (.bool t4)) (Arr.Valid_ok et4) rfl rfl ?_
  obtain ⟨t5, et5, h2⟩ := letk_elim h1; clear h1
  conv => whnf
  refine Nm.mk ⟨t5, et5, ?_⟩
  have eh2_0 := Option.some.inj h2
  subst eh2_0
  conv => whnf
  exact Returns.pure (r := .lit (.bool t5)) rfl rfl rfl rfl ⟨rfl, rfl⟩

noncomputable def Arr.isNumber (kind0 : Int) : Option Bool :=
  letk (kind0 == (1 : Int)) fun t4 =>
  bif t4 then
    some true
  else
    Option.bind (Arr.bytes kind0) fun t7 =>
    letk (decide (t7 > (0 : Int))) fun t8 =>
    some t8

theorem Arr.isNumber_ok {kind0 : Int} {r : Bool} (h0 : Arr.isNumber kind0 = some r) : Gives Tryz.prog 67 [.lit (.int .i64 kind0)] (.lit (.bool r)) := by
  unfold Arr.isNumber at h0
  refine ACalls.of_swp Tryz.func67 rfl (by decide) rfl (st0 := ⟨10, [(0, .lit (.int .i64 kind0))], []⟩) rfl (bwp_ok (C := []) ?_)
  obtain ⟨t4, et4, h1⟩ := letk_elim h0; clear h0
  conv => whnf
  refine Nm.mk ⟨t4, et4, ?_⟩
  rcases t4 with _ | _
  · have h2 := bif_f h1
    clear h1
    obtain ⟨t7, et7, h3⟩ := bind_elim h2; clear h2
    conv => whnf
    refine Gate.go ?_
    conv => whnf
    refine CallN.by (v := .lit (.int .i64 t7)) (Arr.bytes_ok et7) rfl rfl ?_
    obtain ⟨t8, et8, h4⟩ := letk_elim h3; clear h3
    conv => whnf
    refine Nm.mk ⟨t8, et8, ?_⟩
    have eh4_0 := Option.some.inj h4
    subst eh4_0
    conv => whnf
    exact Returns.pure (r := .lit (.bool t8)) rfl rfl rfl rfl ⟨rfl, rfl⟩
  have h2 := bif_t h1
  clear h1
  have eh2_0 := Option.some.inj h2
  subst eh2_0
  conv => whnf
  exact Returns.pure (r := .lit (.bool true)) rfl rfl rfl rfl ⟨rfl, rfl⟩

noncomputable def Arr.Kind.j3 (op0 : ByteArray) (a1 : Int) (b2 : Int) (t53 : Bool) : Option Int :=
  bif t53 then
    some 2
  else
    Option.bind (Slcs.Contains___string_string_ ([⟨#[61, 61]⟩, ⟨#[47, 61]⟩, ⟨#[46, 97, 110, 100, 46]⟩, ⟨#[46, 111, 114, 46]⟩]) op0) fun t68 =>
    bif t68 then
      letk (a1 == (2 : Int)) fun t71 =>
      bif t71 then
        letk (b2 == (2 : Int)) fun t75 =>
        bif t75 then
          some 2
        else
          some 0
      else
        some 0
    else
      some 0

noncomputable def Arr.Kind.j2 (op0 : ByteArray) (a1 : Int) (b2 : Int) (t38 : Bool) : Option Int :=
  bif t38 then
    letk (if b2 > a1 then b2 else a1) fun t52 =>
    some t52
  else
    Option.bind (Slcs.Contains___string_string_ ([⟨#[61, 61]⟩, ⟨#[47, 61]⟩, ⟨#[60]⟩, ⟨#[60, 61]⟩, ⟨#[62]⟩, ⟨#[62, 61]⟩]) op0) fun t56 =>
    bif t56 then
      Option.bind (Arr.isNumber a1) fun t59 =>
      bif t59 then
        Option.bind (Arr.isNumber b2) fun t63 =>
        Arr.Kind.j3 op0 a1 b2 t63
      else
        Arr.Kind.j3 op0 a1 b2 false
    else
      Arr.Kind.j3 op0 a1 b2 false

noncomputable def Arr.Kind.j1 (op0 : ByteArray) (a1 : Int) (b2 : Int) (t23 : Bool) : Option Int :=
  bif t23 then
    some a1
  else
    letk (b2 == (0 : Int)) fun t37 =>
    bif t37 then
      some 0
    else
      Option.bind (Slcs.Contains___string_string_ ([⟨#[43]⟩, ⟨#[45]⟩, ⟨#[42]⟩, ⟨#[47]⟩]) op0) fun t41 =>
      bif t41 then
        Option.bind (Arr.isNumber a1) fun t44 =>
        bif t44 then
          Option.bind (Arr.isNumber b2) fun t48 =>
          Arr.Kind.j2 op0 a1 b2 t48
        else
          Arr.Kind.j2 op0 a1 b2 false
      else
        Arr.Kind.j2 op0 a1 b2 false

noncomputable def Arr.Kind.j0 (op0 : ByteArray) (a1 : Int) (b2 : Int) (t7 : Bool) : Option Int :=
  bif t7 then
    some a1
  else
    letk (b2 == (0 : Int)) fun t25 =>
    bif t25 then
      letk (op0.toList == (⟨#[46, 110, 111, 116, 46]⟩ : ByteArray).toList) fun t28 =>
      bif t28 then
        letk (a1 == (2 : Int)) fun t32 =>
        Arr.Kind.j1 op0 a1 b2 t32
      else
        Arr.Kind.j1 op0 a1 b2 false
    else
      Arr.Kind.j1 op0 a1 b2 false

noncomputable def Arr.Kind (op0 : ByteArray) (a1 : Int) (b2 : Int) : Option Int :=
  letk (b2 == (0 : Int)) fun t9 =>
  bif t9 then
    letk (op0.toList == (⟨#[43]⟩ : ByteArray).toList) fun t12 =>
    bif t12 then
      Option.bind (Arr.isNumber a1) fun t20_1 =>
      Arr.Kind.j0 op0 a1 b2 t20_1
    else
      letk (op0.toList == (⟨#[45]⟩ : ByteArray).toList) fun t15 =>
      bif t15 then
        Option.bind (Arr.isNumber a1) fun t20 =>
        Arr.Kind.j0 op0 a1 b2 t20
      else
        Arr.Kind.j0 op0 a1 b2 false
  else
    Arr.Kind.j0 op0 a1 b2 false

theorem Arr.Kind_ok {op0 : ByteArray} {a1 : Int} {b2 : Int} {r : Int} (h0 : Arr.Kind op0 a1 b2 = some r) : Gives Tryz.prog 27 [.lit (.string op0), .lit (.int .i64 a1), .lit (.int .i64 b2)] (.lit (.int .i64 r)) := by
  unfold Arr.Kind at h0
  refine ACalls.of_swp Tryz.func27 rfl (by decide) rfl (st0 := ⟨77, [(0, .lit (.string op0)), (1, .lit (.int .i64 a1)), (2, .lit (.int .i64 b2))], []⟩) rfl (bwp_ok (C := [(17, 5), (33, 9), (48, 17), (63, 21)]) ?_)
  conv => whnf
  refine CutN.of (fun s => ∃ (t7 : Bool), Arr.Kind.j0 op0 a1 b2 t7 = some r ∧ s = (⟨77, [(0, .lit (.string op0)), (1, .lit (.int .i64 a1)), (2, .lit (.int .i64 b2)), (7, .lit (.bool t7))], []⟩ : St)) ?_ ?_
  · obtain ⟨t9, et9, h1⟩ := letk_elim h0; clear h0
    conv => whnf
    refine Nm.mk ⟨t9, et9, ?_⟩
    rcases t9 with _ | _
    · have h2 := bif_f h1
      clear h1
      exact BackS.by ⟨_, h2, rfl⟩ (Sees.e ⟨.s, .s, .s, .s, trivial⟩)
    have h2 := bif_t h1
    clear h1
    obtain ⟨t12, et12, h3⟩ := letk_elim h2; clear h2
    conv => whnf
    refine Nm.mk ⟨t12, et12, ?_⟩
    rcases t12 with _ | _
    · have h4 := bif_f h3
      clear h3
      obtain ⟨t15, et15, h5⟩ := letk_elim h4; clear h4
      conv => whnf
      refine Nm.mk ⟨t15, et15, ?_⟩
      rcases t15 with _ | _
      · have h6 := bif_f h5
        clear h5
        exact BackS.by ⟨_, h6, rfl⟩ (Sees.e ⟨.s, .s, .s, .s, trivial⟩)
      have h6 := bif_t h5
      clear h5
      obtain ⟨t20, et20, h7⟩ := bind_elim h6; clear h6
      conv => whnf
      refine Gate.go ?_
      conv => whnf
      refine CallN.by (v := .lit (.bool t20)) (Arr.isNumber_ok et20) rfl rfl ?_
      exact BackS.by ⟨_, h7, rfl⟩ (Sees.e ⟨.s, .s, .s, .s, trivial⟩)
    have h4 := bif_t h3
    clear h3
    obtain ⟨t20_1, et20_1, h5⟩ := bind_elim h4; clear h4
    conv => whnf
    refine Gate.go ?_
    conv => whnf
    refine CallN.by (v := .lit (.bool t20_1)) (Arr.isNumber_ok et20_1) rfl rfl ?_
    exact BackS.by ⟨_, h5, rfl⟩ (Sees.e ⟨.s, .s, .s, .s, trivial⟩)
  clear h0
  rintro s ⟨t7, hj0, rfl⟩
  unfold Arr.Kind.j0 at hj0
  rcases t7 with _ | _
  · have hj1 := bif_f hj0
    clear hj0
    conv => whnf
    refine CutN.of (fun s => ∃ (t23 : Bool), Arr.Kind.j1 op0 a1 b2 t23 = some r ∧ s = (⟨77, [(0, .lit (.string op0)), (1, .lit (.int .i64 a1)), (2, .lit (.int .i64 b2)), (23, .lit (.bool t23))], []⟩ : St)) ?_ ?_
    · obtain ⟨t25, et25, hj2⟩ := letk_elim hj1; clear hj1
      conv => whnf
      refine Nm.mk ⟨t25, et25, ?_⟩
      rcases t25 with _ | _
      · have hj3 := bif_f hj2
        clear hj2
        exact BackS.by ⟨_, hj3, rfl⟩ (Sees.e ⟨.s, .s, .s, .s, trivial⟩)
      have hj3 := bif_t hj2
      clear hj2
      obtain ⟨t28, et28, hj4⟩ := letk_elim hj3; clear hj3
      conv => whnf
      refine Nm.mk ⟨t28, et28, ?_⟩
      rcases t28 with _ | _
      · have hj5 := bif_f hj4
        clear hj4
        exact BackS.by ⟨_, hj5, rfl⟩ (Sees.e ⟨.s, .s, .s, .s, trivial⟩)
      have hj5 := bif_t hj4
      clear hj4
      obtain ⟨t32, et32, hj6⟩ := letk_elim hj5; clear hj5
      conv => whnf
      refine Nm.mk ⟨t32, et32, ?_⟩
      exact BackS.by ⟨_, hj6, rfl⟩ (Sees.e ⟨.s, .s, .s, .s, trivial⟩)
    clear hj1
    rintro s ⟨t23, hj0, rfl⟩
    unfold Arr.Kind.j1 at hj0
    rcases t23 with _ | _
    · have hj1 := bif_f hj0
      clear hj0
      obtain ⟨t37, et37, hj2⟩ := letk_elim hj1; clear hj1
      conv => whnf
      refine Nm.mk ⟨t37, et37, ?_⟩
      rcases t37 with _ | _
      · have hj3 := bif_f hj2
        clear hj2
        conv => whnf
        refine CutN.of (fun s => ∃ (t38 : Bool), Arr.Kind.j2 op0 a1 b2 t38 = some r ∧ s = (⟨77, [(0, .lit (.string op0)), (1, .lit (.int .i64 a1)), (2, .lit (.int .i64 b2)), (38, .lit (.bool t38))], []⟩ : St)) ?_ ?_
        · conv => whnf
          refine Gate.go ?_
          conv => whnf
          refine Nm.mk ⟨([⟨#[43]⟩, ⟨#[45]⟩, ⟨#[42]⟩, ⟨#[47]⟩]).map (eS), rfl, ?_⟩
          obtain ⟨t41, et41, hj4⟩ := bind_elim hj3; clear hj3
          conv => whnf
          refine Gate.weak (Sees.of (Weak.objs (k := 77) (keep := []) (frz := [0]) (m := 0) (ts := [(0, .lit (.string op0)), (1, .lit (.int .i64 a1)), (2, .lit (.int .i64 b2)), (39, .vs 1 (([⟨#[43]⟩, ⟨#[45]⟩, ⟨#[42]⟩, ⟨#[47]⟩]).map (eS))), (40, .lit (.string op0))]) (hs := []) rfl (by decide) rfl rfl ⟨rfl, fun _ h => by cases h⟩ ⟨.s, .s, .s, (WV.all (k := 0) (by decide) rfl), .s, trivial⟩)) ?_
          conv => whnf
          refine CallN.by (v := .lit (.bool t41)) (Slcs.Contains___string_string__ok et41) rfl rfl ?_
          rcases t41 with _ | _
          · have hj5 := bif_f hj4
            clear hj4
            exact BackS.by ⟨_, hj5, rfl⟩ (Sees.e ⟨.s, .s, .s, .s, trivial⟩)
          have hj5 := bif_t hj4
          clear hj4
          obtain ⟨t44, et44, hj6⟩ := bind_elim hj5; clear hj5
          conv => whnf
          refine Gate.go ?_
          conv => whnf
          refine CallN.by (v := .lit (.bool t44)) (Arr.isNumber_ok et44) rfl rfl ?_
          rcases t44 with _ | _
          · have hj7 := bif_f hj6
            clear hj6
            exact BackS.by ⟨_, hj7, rfl⟩ (Sees.e ⟨.s, .s, .s, .s, trivial⟩)
          have hj7 := bif_t hj6
          clear hj6
          obtain ⟨t48, et48, hj8⟩ := bind_elim hj7; clear hj7
          conv => whnf
          refine Gate.go ?_
          conv => whnf
          refine CallN.by (v := .lit (.bool t48)) (Arr.isNumber_ok et48) rfl rfl ?_
          exact BackS.by ⟨_, hj8, rfl⟩ (Sees.e ⟨.s, .s, .s, .s, trivial⟩)
        clear hj3
        rintro s ⟨t38, hj0, rfl⟩
        unfold Arr.Kind.j2 at hj0
        rcases t38 with _ | _
        · have hj1 := bif_f hj0
          clear hj0
          conv => whnf
          refine CutN.of (fun s => ∃ (t53 : Bool), Arr.Kind.j3 op0 a1 b2 t53 = some r ∧ s = (⟨77, [(0, .lit (.string op0)), (1, .lit (.int .i64 a1)), (2, .lit (.int .i64 b2)), (53, .lit (.bool t53))], []⟩ : St)) ?_ ?_
          · conv => whnf
            refine Gate.go ?_
            conv => whnf
            refine Nm.mk ⟨([⟨#[61, 61]⟩, ⟨#[47, 61]⟩, ⟨#[60]⟩, ⟨#[60, 61]⟩, ⟨#[62]⟩, ⟨#[62, 61]⟩]).map (eS), rfl, ?_⟩
            obtain ⟨t56, et56, hj2⟩ := bind_elim hj1; clear hj1
            conv => whnf
            refine Gate.weak (Sees.of (Weak.objs (k := 77) (keep := []) (frz := [0]) (m := 0) (ts := [(0, .lit (.string op0)), (1, .lit (.int .i64 a1)), (2, .lit (.int .i64 b2)), (54, .vs 1 (([⟨#[61, 61]⟩, ⟨#[47, 61]⟩, ⟨#[60]⟩, ⟨#[60, 61]⟩, ⟨#[62]⟩, ⟨#[62, 61]⟩]).map (eS))), (55, .lit (.string op0))]) (hs := []) rfl (by decide) rfl rfl ⟨rfl, fun _ h => by cases h⟩ ⟨.s, .s, .s, (WV.all (k := 0) (by decide) rfl), .s, trivial⟩)) ?_
            conv => whnf
            refine CallN.by (v := .lit (.bool t56)) (Slcs.Contains___string_string__ok et56) rfl rfl ?_
            rcases t56 with _ | _
            · have hj3 := bif_f hj2
              clear hj2
              exact BackS.by ⟨_, hj3, rfl⟩ (Sees.e ⟨.s, .s, .s, .s, trivial⟩)
            have hj3 := bif_t hj2
            clear hj2
            obtain ⟨t59, et59, hj4⟩ := bind_elim hj3; clear hj3
            conv => whnf
            refine Gate.go ?_
            conv => whnf
            refine CallN.by (v := .lit (.bool t59)) (Arr.isNumber_ok et59) rfl rfl ?_
            rcases t59 with _ | _
            · have hj5 := bif_f hj4
              clear hj4
              exact BackS.by ⟨_, hj5, rfl⟩ (Sees.e ⟨.s, .s, .s, .s, trivial⟩)
            have hj5 := bif_t hj4
            clear hj4
            obtain ⟨t63, et63, hj6⟩ := bind_elim hj5; clear hj5
            conv => whnf
            refine Gate.go ?_
            conv => whnf
            refine CallN.by (v := .lit (.bool t63)) (Arr.isNumber_ok et63) rfl rfl ?_
            exact BackS.by ⟨_, hj6, rfl⟩ (Sees.e ⟨.s, .s, .s, .s, trivial⟩)
          clear hj1
          rintro s ⟨t53, hj0, rfl⟩
          unfold Arr.Kind.j3 at hj0
          rcases t53 with _ | _
          · have hj1 := bif_f hj0
            clear hj0
            conv => whnf
            refine Gate.go ?_
            conv => whnf
            refine Nm.mk ⟨([⟨#[61, 61]⟩, ⟨#[47, 61]⟩, ⟨#[46, 97, 110, 100, 46]⟩, ⟨#[46, 111, 114, 46]⟩]).map (eS), rfl, ?_⟩
            obtain ⟨t68, et68, hj2⟩ := bind_elim hj1; clear hj1
            conv => whnf
            refine Gate.weak (Sees.of (Weak.objs (k := 77) (keep := []) (frz := [0]) (m := 0) (ts := [(1, .lit (.int .i64 a1)), (2, .lit (.int .i64 b2)), (66, .vs 1 (([⟨#[61, 61]⟩, ⟨#[47, 61]⟩, ⟨#[46, 97, 110, 100, 46]⟩, ⟨#[46, 111, 114, 46]⟩]).map (eS))), (67, .lit (.string op0))]) (hs := []) rfl (by decide) rfl rfl ⟨rfl, fun _ h => by cases h⟩ ⟨.s, .s, (WV.all (k := 0) (by decide) rfl), .s, trivial⟩)) ?_
            conv => whnf
            refine CallN.by (v := .lit (.bool t68)) (Slcs.Contains___string_string__ok et68) rfl rfl ?_
            rcases t68 with _ | _
            · have hj3 := bif_f hj2
              clear hj2
              have ehj3_0 := Option.some.inj hj3
              subst ehj3_0
              conv => whnf
              exact Returns.pure (r := .lit (.int .i64 0)) rfl rfl rfl rfl ⟨rfl, rfl⟩
            have hj3 := bif_t hj2
            clear hj2
            obtain ⟨t71, et71, hj4⟩ := letk_elim hj3; clear hj3
            conv => whnf
            refine Nm.mk ⟨t71, et71, ?_⟩
            rcases t71 with _ | _
            · have hj5 := bif_f hj4
              clear hj4
              have ehj5_0 := Option.some.inj hj5
              subst ehj5_0
              conv => whnf
              exact Returns.pure (r := .lit (.int .i64 0)) rfl rfl rfl rfl ⟨rfl, rfl⟩
            have hj5 := bif_t hj4
            clear hj4
            obtain ⟨t75, et75, hj6⟩ := letk_elim hj5; clear hj5
            conv => whnf
            refine Nm.mk ⟨t75, et75, ?_⟩
            rcases t75 with _ | _
            · have hj7 := bif_f hj6
              clear hj6
              have ehj7_0 := Option.some.inj hj7
              subst ehj7_0
              conv => whnf
              exact Returns.pure (r := .lit (.int .i64 0)) rfl rfl rfl rfl ⟨rfl, rfl⟩
            have hj7 := bif_t hj6
            clear hj6
            have ehj7_0 := Option.some.inj hj7
            subst ehj7_0
            conv => whnf
            exact Returns.pure (r := .lit (.int .i64 2)) rfl rfl rfl rfl ⟨rfl, rfl⟩
          have hj1 := bif_t hj0
          clear hj0
          have ehj1_0 := Option.some.inj hj1
          subst ehj1_0
          conv => whnf
          exact Returns.pure (r := .lit (.int .i64 2)) rfl rfl rfl rfl ⟨rfl, rfl⟩
        have hj1 := bif_t hj0
        clear hj0
        obtain ⟨t52, et52, hj2⟩ := letk_elim hj1; clear hj1
        conv => whnf
        refine Nm.mk ⟨t52, et52, ?_⟩
        have ehj2_0 := Option.some.inj hj2
        subst ehj2_0
        conv => whnf
        exact Returns.pure (r := .lit (.int .i64 t52)) rfl rfl rfl rfl ⟨rfl, rfl⟩
      have hj3 := bif_t hj2
      clear hj2
      have ehj3_0 := Option.some.inj hj3
      subst ehj3_0
      conv => whnf
      exact Returns.pure (r := .lit (.int .i64 0)) rfl rfl rfl rfl ⟨rfl, rfl⟩
    have hj1 := bif_t hj0
    clear hj0
    have ehj1_0 := Option.some.inj hj1
    subst ehj1_0
    conv => whnf
    exact Returns.pure (r := .lit (.int .i64 a1)) rfl rfl rfl rfl ⟨rfl, rfl⟩
  have hj1 := bif_t hj0
  clear hj0
  have ehj1_0 := Option.some.inj hj1
  subst ehj1_0
  conv => whnf
  exact Returns.pure (r := .lit (.int .i64 a1)) rfl rfl rfl rfl ⟨rfl, rfl⟩

noncomputable def Arr.to.j0 (kind0 : Int) (v3_0 : Int) (v3_1 : Int) (t4_0 : Int) (t4_1 : Int) : Option (api.Value × Int) :=
  Option.bind (Arr.bytes v3_0) fun t75 =>
  Option.bind (Arr.bytes kind0) fun t77 =>
  none

noncomputable def Arr.to.j1 (kind0 : Int) (v3_0_1 : Int) (v3_1_1 : Int) (t4_0_1 : Int) (t4_1_1 : Int) (t21 : Bool) : Option (api.Value × Int) :=
  bif t21 then
    some ((⟨0, 0⟩ : api.Value), 70)
  else
    letk (v3_0_1 == (1 : Int)) fun t35 =>
    bif t35 then
      Option.bind (Arr.bytes kind0) fun t38 =>
      none
    else
      letk (kind0 == (1 : Int)) fun t50 =>
      bif t50 then
        Option.bind (Arr.bytes v3_0_1) fun t54 =>
        none
      else
        Arr.to.j0 kind0 v3_0_1 v3_1_1 t4_0_1 t4_1_1

noncomputable def Arr.to (kind0 : Int) (v1 : api.Value) : Option (api.Value × Int) :=
  letk (kind0 == v1.Kind) fun t19 =>
  bif t19 then
    some ((⟨v1.Kind, v1.N⟩ : api.Value), 0)
  else
    Option.bind (Arr.isNumber kind0) fun t23 =>
    letk (!t23) fun t24 =>
    bif t24 then
      Arr.to.j1 kind0 v1.Kind v1.N 0 0 true
    else
      Option.bind (Arr.isNumber v1.Kind) fun t28 =>
      letk (!t28) fun t29 =>
      Arr.to.j1 kind0 v1.Kind v1.N 0 0 t29

theorem Arr.to_ok {kind0 : Int} {v1 : api.Value} {r : api.Value × Int} (h0 : Arr.to kind0 v1 = some r) : Gives Tryz.prog 76 [.lit (.int .i64 kind0), api.Value.enc v1] (.tup [api.Value.enc r.1, .lit (.int .i64 r.2)]) := by
  unfold Arr.to at h0
  refine ACalls.of_swp Tryz.func76 rfl (by decide) rfl (st0 := ⟨87, [(0, .lit (.int .i64 kind0)), (1, api.Value.enc v1)], []⟩) rfl (bwp_ok (C := [(0, 13), (31, 9)]) ?_)
  conv => whnf
  refine Nm.mk ⟨[.lit (.int .i64 v1.Kind), .lit (.int .i64 v1.N)], rfl, ?_⟩
  conv => whnf
  refine Nm.mk ⟨[.lit (.int .i64 0), .lit (.int .i64 0)], rfl, ?_⟩
  conv => whnf
  refine CutN.of (fun s => ∃ (v3_0 : Int) (v3_1 : Int) (t4_0 : Int) (t4_1 : Int), Arr.to.j0 kind0 v3_0 v3_1 t4_0 t4_1 = some r ∧ s = (⟨87, [(0, .lit (.int .i64 kind0)), (3, .ptr 0 0), (4, .ptr 1 0)], [.box [.lit (.int .i64 v3_0), .lit (.int .i64 v3_1)], .box [.lit (.int .i64 t4_0), .lit (.int .i64 t4_1)]]⟩ : St)) ?_ ?_
  · obtain ⟨t19, et19, h1⟩ := letk_elim h0; clear h0
    conv => whnf
    refine Nm.mk ⟨t19, et19, ?_⟩
    rcases t19 with _ | _
    · have h2 := bif_f h1
      clear h1
      conv => whnf
      refine CutN.of (fun s => ∃ (v3_0_1 : Int) (v3_1_1 : Int) (t4_0_1 : Int) (t4_1_1 : Int) (t21 : Bool), Arr.to.j1 kind0 v3_0_1 v3_1_1 t4_0_1 t4_1_1 t21 = some r ∧ s = (⟨87, [(0, .lit (.int .i64 kind0)), (3, .ptr 0 0), (4, .ptr 1 0), (21, .lit (.bool t21))], [.box [.lit (.int .i64 v3_0_1), .lit (.int .i64 v3_1_1)], .box [.lit (.int .i64 t4_0_1), .lit (.int .i64 t4_1_1)]]⟩ : St)) ?_ ?_
      · obtain ⟨t23, et23, h3⟩ := bind_elim h2; clear h2
        conv => whnf
        refine Gate.go ?_
        conv => whnf
        refine CallN.by (v := .lit (.bool t23)) (Arr.isNumber_ok et23) rfl rfl ?_
        obtain ⟨t24, et24, h4⟩ := letk_elim h3; clear h3
        conv => whnf
        refine Nm.mk ⟨t24, et24, ?_⟩
        rcases t24 with _ | _
        · have h5 := bif_f h4
          clear h4
          obtain ⟨t28, et28, h6⟩ := bind_elim h5; clear h5
          conv => whnf
          refine Gate.go ?_
          conv => whnf
          refine CallN.by (v := .lit (.bool t28)) (Arr.isNumber_ok et28) rfl rfl ?_
          obtain ⟨t29, et29, h7⟩ := letk_elim h6; clear h6
          conv => whnf
          refine Nm.mk ⟨t29, et29, ?_⟩
          exact BackS.by ⟨_, _, _, _, _, h7, rfl⟩ (Sees.of (Weak.objs (keep := [0, 1]) (frz := []) (m := 0) rfl (by decide) rfl rfl ⟨⟨_, rfl, WO.boxs ⟨.s, .s, trivial⟩⟩, ⟨⟨_, rfl, WO.boxs ⟨.s, .s, trivial⟩⟩, ⟨rfl, fun _ h => by cases h⟩⟩⟩ ⟨.s, (.ptr _ _ 0 rfl), (.ptr _ _ 1 rfl), .s, trivial⟩))
        have h5 := bif_t h4
        clear h4
        exact BackS.by ⟨_, _, _, _, _, h5, rfl⟩ (Sees.of (Weak.objs (keep := [0, 1]) (frz := []) (m := 0) rfl (by decide) rfl rfl ⟨⟨_, rfl, WO.boxs ⟨.s, .s, trivial⟩⟩, ⟨⟨_, rfl, WO.boxs ⟨.s, .s, trivial⟩⟩, ⟨rfl, fun _ h => by cases h⟩⟩⟩ ⟨.s, (.ptr _ _ 0 rfl), (.ptr _ _ 1 rfl), .s, trivial⟩))
      clear h2
      rintro s ⟨v3_0_1, v3_1_1, t4_0_1, t4_1_1, t21, hj0, rfl⟩
      unfold Arr.to.j1 at hj0
      rcases t21 with _ | _
      · have hj1 := bif_f hj0
        clear hj0
        obtain ⟨t35, et35, hj2⟩ := letk_elim hj1; clear hj1
        conv => whnf
        refine Nm.mk ⟨t35, et35, ?_⟩
        rcases t35 with _ | _
        · have hj3 := bif_f hj2
          clear hj2
          obtain ⟨t50, et50, hj4⟩ := letk_elim hj3; clear hj3
          conv => whnf
          refine Nm.mk ⟨t50, et50, ?_⟩
          rcases t50 with _ | _
          · have hj5 := bif_f hj4
            clear hj4
            exact BackS.by ⟨_, _, _, _, hj5, rfl⟩ (Sees.of (Weak.objs (keep := [0, 1]) (frz := []) (m := 0) rfl (by decide) rfl rfl ⟨⟨_, rfl, WO.boxs ⟨.s, .s, trivial⟩⟩, ⟨⟨_, rfl, WO.boxs ⟨.s, .s, trivial⟩⟩, ⟨rfl, fun _ h => by cases h⟩⟩⟩ ⟨.s, (.ptr _ _ 0 rfl), (.ptr _ _ 1 rfl), trivial⟩))
          have hj5 := bif_t hj4
          clear hj4
          conv => whnf
          refine DrawB.sees (Sees.of (Weak.objs (k := 87) (keep := [0, 1]) (frz := []) (m := 0) (ts := [(0, .lit (.int .i64 kind0)), (3, .ptr 0 0), (4, .ptr 1 0)]) (hs := [.box [.lit (.int .i64 v3_0_1), .lit (.int .i64 v3_1_1)], .box [.lit (.int .i64 t4_0_1), .lit (.int .i64 t4_1_1)]]) rfl (by decide) rfl rfl ⟨⟨_, rfl, WO.refl rfl⟩, ⟨⟨_, rfl, WO.refl rfl⟩, ⟨rfl, fun _ h => by cases h⟩⟩⟩ ⟨.s, (.ptr _ _ 0 rfl), (.ptr _ _ 1 rfl), trivial⟩)) ?_
          refine DrawB.ofG [none, none, none, none, none, none, none, none, none, none, none, none, none] Tryz_mixed (by kernel_rfl) (by kernel_rfl) ?_
          conv => whnf
          refine DNodeB.of (.ptr 0 0) ?_ ?_
          · conv => whnf
            rfl
          conv => whnf
          refine DNodeB.of (.lit (.int .i64 v3_0_1)) ?_ ?_
          · conv => whnf
            rfl
          obtain ⟨t54, et54, hj6⟩ := bind_elim hj5; clear hj5
          conv => whnf
          refine DNodeB.of (.lit (.int .i64 t54)) ?_ ?_
          · conv => whnf
            refine CallN.by (v := .lit (.int .i64 t54)) (Arr.bytes_ok et54) rfl rfl ?_
            conv => whnf
            rfl
          conv => whnf
          refine DNodeB.of (.ptr 0 1) ?_ ?_
          · conv => whnf
            rfl
          conv => whnf
          refine DNodeB.of (.lit (.int .i64 v3_1_1)) ?_ ?_
          · conv => whnf
            rfl
          cases hj6
        have hj3 := bif_t hj2
        clear hj2
        conv => whnf
        refine DrawB.sees (Sees.of (Weak.objs (k := 87) (keep := [0, 1]) (frz := []) (m := 0) (ts := [(0, .lit (.int .i64 kind0)), (3, .ptr 0 0), (4, .ptr 1 0)]) (hs := [.box [.lit (.int .i64 v3_0_1), .lit (.int .i64 v3_1_1)], .box [.lit (.int .i64 t4_0_1), .lit (.int .i64 t4_1_1)]]) rfl (by decide) rfl rfl ⟨⟨_, rfl, WO.refl rfl⟩, ⟨⟨_, rfl, WO.refl rfl⟩, ⟨rfl, fun _ h => by cases h⟩⟩⟩ ⟨.s, (.ptr _ _ 0 rfl), (.ptr _ _ 1 rfl), trivial⟩)) ?_
        refine DrawB.ofG [none, none, none, none, none, none, none, none, none, none, none, none] Tryz_mixed (by kernel_rfl) (by kernel_rfl) ?_
        conv => whnf
        refine DNodeB.of (.lit (.int .i64 kind0)) ?_ ?_
        · conv => whnf
          rfl
        obtain ⟨t38, et38, hj4⟩ := bind_elim hj3; clear hj3
        conv => whnf
        refine DNodeB.of (.lit (.int .i64 t38)) ?_ ?_
        · conv => whnf
          refine CallN.by (v := .lit (.int .i64 t38)) (Arr.bytes_ok et38) rfl rfl ?_
          conv => whnf
          rfl
        conv => whnf
        refine DNodeB.of (.ptr 0 1) ?_ ?_
        · conv => whnf
          rfl
        conv => whnf
        refine DNodeB.of (.lit (.int .i64 v3_1_1)) ?_ ?_
        · conv => whnf
          rfl
        cases hj4
      have hj1 := bif_t hj0
      clear hj0
      conv => whnf
      refine Gate.go ?_
      conv => whnf
      refine Nm.mk ⟨[.lit (.int .i64 0), .lit (.int .i64 0)], rfl, ?_⟩
      conv => whnf
      refine Nm.mk ⟨[.lit (.int .i64 0), .lit (.int .i64 0)], rfl, ?_⟩
      have ehj1_0 := Option.some.inj hj1
      subst ehj1_0
      conv => whnf
      exact Returns.pure (r := .tup [api.Value.enc ((⟨0, 0⟩ : api.Value)), .lit (.int .i64 70)]) rfl rfl rfl rfl ⟨rfl, rfl⟩
    have h2 := bif_t h1
    clear h1
    conv => whnf
    refine Nm.mk ⟨[.lit (.int .i64 v1.Kind), .lit (.int .i64 v1.N)], rfl, ?_⟩
    have eh2_0 := Option.some.inj h2
    subst eh2_0
    conv => whnf
    exact Returns.pure (r := .tup [api.Value.enc ((⟨v1.Kind, v1.N⟩ : api.Value)), .lit (.int .i64 0)]) rfl rfl rfl rfl ⟨rfl, rfl⟩
  clear h0
  rintro s ⟨v3_0, v3_1, t4_0, t4_1, hj0, rfl⟩
  unfold Arr.to.j0 at hj0
  conv => whnf
  refine DrawB.sees (Sees.of (Weak.objs (k := 87) (keep := [0, 1]) (frz := []) (m := 0) (ts := [(0, .lit (.int .i64 kind0)), (3, .ptr 0 0), (4, .ptr 1 0)]) (hs := [.box [.lit (.int .i64 v3_0), .lit (.int .i64 v3_1)], .box [.lit (.int .i64 t4_0), .lit (.int .i64 t4_1)]]) rfl (by decide) rfl rfl ⟨⟨_, rfl, WO.refl rfl⟩, ⟨⟨_, rfl, WO.refl rfl⟩, ⟨rfl, fun _ h => by cases h⟩⟩⟩ ⟨.s, (.ptr _ _ 0 rfl), (.ptr _ _ 1 rfl), trivial⟩)) ?_
  refine DrawB.ofG [none, none, none, none, none, none, none, none, none, none, none, none, none, none, none] Tryz_mixed (by kernel_rfl) (by kernel_rfl) ?_
  conv => whnf
  refine DNodeB.of (.ptr 0 0) ?_ ?_
  · conv => whnf
    rfl
  conv => whnf
  refine DNodeB.of (.lit (.int .i64 v3_0)) ?_ ?_
  · conv => whnf
    rfl
  obtain ⟨t75, et75, hj1⟩ := bind_elim hj0; clear hj0
  conv => whnf
  refine DNodeB.of (.lit (.int .i64 t75)) ?_ ?_
  · conv => whnf
    refine CallN.by (v := .lit (.int .i64 t75)) (Arr.bytes_ok et75) rfl rfl ?_
    conv => whnf
    rfl
  conv => whnf
  refine DNodeB.of (.lit (.int .i64 kind0)) ?_ ?_
  · conv => whnf
    rfl
  obtain ⟨t77, et77, hj2⟩ := bind_elim hj1; clear hj1
  conv => whnf
  refine DNodeB.of (.lit (.int .i64 t77)) ?_ ?_
  · conv => whnf
    refine CallN.by (v := .lit (.int .i64 t77)) (Arr.bytes_ok et77) rfl rfl ?_
    conv => whnf
    rfl
  conv => whnf
  refine DNodeB.of (.ptr 0 1) ?_ ?_
  · conv => whnf
    rfl
  conv => whnf
  refine DNodeB.of (.lit (.int .i64 v3_1)) ?_ ?_
  · conv => whnf
    rfl
  cases hj2

noncomputable def Arr.number (kind0 : Int) (n1 : Int) : Option api.Value :=
  Option.bind (Arr.to kind0 (⟨1, n1⟩ : api.Value)) fun (t11_0, t11_1) =>
  some (⟨t11_0.Kind, t11_0.N⟩ : api.Value)

theorem Arr.number_ok {kind0 : Int} {n1 : Int} {r : api.Value} (h0 : Arr.number kind0 n1 = some r) : Gives Tryz.prog 129 [.lit (.int .i64 kind0), .lit (.int .i64 n1)] (api.Value.enc r) := by
  unfold Arr.number at h0
  refine ACalls.of_swp Tryz.func129 rfl (by decide) rfl (st0 := ⟨15, [(0, .lit (.int .i64 kind0)), (1, .lit (.int .i64 n1))], []⟩) rfl (bwp_ok (C := []) ?_)
  conv => whnf
  refine Nm.mk ⟨[.lit (.int .i64 0), .lit (.int .i64 0)], rfl, ?_⟩
  conv => whnf
  refine Gate.go ?_
  conv => whnf
  refine Nm.mk ⟨[.lit (.int .i64 1), .lit (.int .i64 n1)], rfl, ?_⟩
  obtain ⟨⟨t11_0, t11_1⟩, et11, h1⟩ := bind_elim h0; clear h0
  conv => whnf
  refine Gate.go ?_
  conv => whnf
  refine CallN.by (v := .tup [api.Value.enc t11_0, .lit (.int .i64 t11_1)]) (Arr.to_ok et11) rfl rfl ?_
  conv => whnf
  refine Nm.mk ⟨[.lit (.int .i64 0), .lit (.int .i64 0)], rfl, ?_⟩
  conv => whnf
  refine Nm.mk ⟨[.lit (.int .i64 t11_0.Kind), .lit (.int .i64 t11_0.N)], rfl, ?_⟩
  conv => whnf
  refine Nm.mk ⟨[.lit (.int .i64 t11_0.Kind), .lit (.int .i64 t11_0.N)], rfl, ?_⟩
  have eh1_0 := Option.some.inj h1
  subst eh1_0
  conv => whnf
  exact Returns.pure (r := api.Value.enc ((⟨t11_0.Kind, t11_0.N⟩ : api.Value))) rfl rfl rfl rfl ⟨rfl, rfl⟩

noncomputable def Arr.isScalar (a0 : api.Array) : Option Bool :=
  letk ((a0.Shape.length : Int)) fun t5 =>
  letk (t5 == (0 : Int)) fun t6 =>
  some t6

theorem Arr.isScalar_ok {a0 : api.Array} {r : Bool} (h0 : Arr.isScalar a0 = some r) : Gives Tryz.prog 82 [api.Array.enc a0] (.lit (.bool r)) := by
  unfold Arr.isScalar at h0
  refine ACalls.of_swp Tryz.func82 rfl (by decide) rfl (st0 := ⟨7, [(0, api.Array.enc a0)], []⟩) rfl (bwp_ok (C := []) ?_)
  conv => whnf
  refine Nm.mk ⟨[.lit (.int .i64 a0.Kind), .vs 1 (a0.Shape.map (eI .i64)), .vs 1 (a0.Elems.map (eI .i64))], rfl, ?_⟩
  obtain ⟨t5, et5, h1⟩ := letk_elim h0; clear h0
  conv => whnf
  refine Nm.mk ⟨t5, by rw [et5, List.length_map], ?_⟩
  obtain ⟨t6, et6, h2⟩ := letk_elim h1; clear h1
  conv => whnf
  refine Nm.mk ⟨t6, et6, ?_⟩
  have eh2_0 := Option.some.inj h2
  subst eh2_0
  conv => whnf
  exact Returns.pure (r := .lit (.bool t6)) rfl rfl rfl rfl ⟨rfl, rfl⟩

noncomputable def Arr.at_.j0 (i1_1 : Int) (a2_0 : Int) (a2_1 : List Int) (a2_2 : List Int) (t4_0 : Int) (t4_1 : Int) : Option api.Value :=
  chk (0 ≤ i1_1) <|
  Option.bind (a2_2[i1_1.toNat]?) fun t12 =>
  some (⟨a2_0, t12⟩ : api.Value)

noncomputable def Arr.at_ (a0 : api.Array) (i1 : Int) : Option api.Value :=
  Option.bind (Arr.isScalar (⟨a0.Kind, a0.Shape, a0.Elems⟩ : api.Array)) fun t6 =>
  bif t6 then
    Arr.at_.j0 0 a0.Kind a0.Shape a0.Elems 0 0
  else
    Arr.at_.j0 i1 a0.Kind a0.Shape a0.Elems 0 0

theorem Arr.at__ok {a0 : api.Array} {i1 : Int} {r : api.Value} (h0 : Arr.at_ a0 i1 = some r) : Gives Tryz.prog 61 [api.Array.enc a0, .lit (.int .i64 i1)] (api.Value.enc r) := by
  unfold Arr.at_ at h0
  refine ACalls.of_swp Tryz.func61 rfl (by decide) rfl (st0 := ⟨15, [(0, api.Array.enc a0), (1, .lit (.int .i64 i1))], []⟩) rfl (bwp_ok (C := [(0, 3)]) ?_)
  conv => whnf
  refine Nm.mk ⟨[.lit (.int .i64 a0.Kind), .vs 1 (a0.Shape.map (eI .i64)), .vs 1 (a0.Elems.map (eI .i64))], rfl, ?_⟩
  conv => whnf
  refine Nm.mk ⟨[.lit (.int .i64 0), .lit (.int .i64 0)], rfl, ?_⟩
  conv => whnf
  refine CutN.of (fun s => ∃ (i1_1 : Int) (a2_0 : Int) (a2_1 : List Int) (a2_2 : List Int) (t4_0 : Int) (t4_1 : Int), Arr.at_.j0 i1_1 a2_0 a2_1 a2_2 t4_0 t4_1 = some r ∧ s = (⟨15, [(1, .lit (.int .i64 i1_1)), (2, .ptr 0 0), (4, .ptr 1 0)], [.box [.lit (.int .i64 a2_0), .vs 1 (a2_1.map (eI .i64)), .vs 1 (a2_2.map (eI .i64))], .box [.lit (.int .i64 t4_0), .lit (.int .i64 t4_1)]]⟩ : St)) ?_ ?_
  · obtain ⟨t6, et6, h1⟩ := bind_elim h0; clear h0
    conv => whnf
    refine Gate.go ?_
    conv => whnf
    refine CallN.by (v := .lit (.bool t6)) (Arr.isScalar_ok et6) rfl rfl ?_
    rcases t6 with _ | _
    · have h2 := bif_f h1
      clear h1
      exact BackS.by ⟨_, _, _, _, _, _, h2, rfl⟩ (Sees.of (Weak.objs (keep := [0, 1]) (frz := []) (m := 0) rfl (by decide) rfl rfl ⟨⟨_, rfl, WO.boxs ⟨.s, .s, .s, trivial⟩⟩, ⟨⟨_, rfl, WO.boxs ⟨.s, .s, trivial⟩⟩, ⟨rfl, fun _ h => by cases h⟩⟩⟩ ⟨.s, (.ptr _ _ 0 rfl), (.ptr _ _ 1 rfl), trivial⟩))
    have h2 := bif_t h1
    clear h1
    exact BackS.by ⟨_, _, _, _, _, _, h2, rfl⟩ (Sees.of (Weak.objs (keep := [0, 1]) (frz := []) (m := 0) rfl (by decide) rfl rfl ⟨⟨_, rfl, WO.boxs ⟨.s, .s, .s, trivial⟩⟩, ⟨⟨_, rfl, WO.boxs ⟨.s, .s, trivial⟩⟩, ⟨rfl, fun _ h => by cases h⟩⟩⟩ ⟨.s, (.ptr _ _ 0 rfl), (.ptr _ _ 1 rfl), trivial⟩))
  clear h0
  rintro s ⟨i1_1, a2_0, a2_1, a2_2, t4_0, t4_1, hj0, rfl⟩
  unfold Arr.at_.j0 at hj0
  conv => whnf
  refine DrawB.ofFN 0 [.box [.lit (.int .i64 a2_0), .vs 1 (a2_1.map (eI .i64)), .vs 1 (a2_2.map (eI .i64))], .box [.lit (.int .i64 t4_0), .lit (.int .i64 t4_1)]] 2 2 [[0], [0], [0], [0], [], [], [], [], [1]] [[], [], [], [], [], [], [], [], [1]] [none, none, none, none, none, none, none, none, none] Tryz_mixed (by kernel_rfl) rfl rfl rfl (by kernel_rfl) ?_
  conv => whnf
  refine FNode.rd (F := [0]) (W := []) (.ptr 0 0) ?_ rfl rfl ?_
  · conv => whnf
    rfl
  conv => whnf
  refine FNode.rd (F := [0]) (W := []) (.lit (.int .i64 a2_0)) ?_ rfl rfl ?_
  · conv => whnf
    rfl
  conv => whnf
  refine FNode.rd (F := [0]) (W := []) (.ptr 0 2) ?_ rfl rfl ?_
  · conv => whnf
    rfl
  conv => whnf
  refine FNode.rd (F := [0]) (W := []) (.vs 1 (a2_2.map (eI .i64))) ?_ rfl rfl ?_
  · conv => whnf
    rfl
  conv => whnf
  refine FNode.no (W := []) (.lit (.int .i64 i1_1)) ?_ rfl ?_
  · conv => whnf
    rfl
  obtain ⟨chj1, hj1⟩ := chk_elim hj0; clear hj0
  obtain ⟨t12, et12, hj2⟩ := bind_elim hj1; clear hj1
  conv => whnf
  refine FNode.no (W := []) (.iptr (.lit (.int .i64 t12))) ?_ rfl ?_
  · conv => whnf
    refine Side.mk chj1 ?_
    conv => whnf
    refine At.by et12 ?_
    conv => whnf
    rfl
  conv => whnf
  refine FNode.no (W := []) (.lit (.int .i64 t12)) ?_ rfl ?_
  · conv => whnf
    rfl
  conv => whnf
  refine FNode.no (W := []) (.agg [.lit (.int .i64 a2_0), .lit (.int .i64 t12)]) ?_ rfl ?_
  · conv => whnf
    refine Nm.mk ⟨[.lit (.int .i64 a2_0), .lit (.int .i64 t12)], rfl, ?_⟩
    conv => whnf
    rfl
  conv => whnf
  refine FNode.pl (F := [1]) (W := [1]) (.undef) [.box [.lit (.int .i64 a2_0), .vs 1 (a2_1.map (eI .i64)), .vs 1 (a2_2.map (eI .i64))], .box [.lit (.int .i64 a2_0), .lit (.int .i64 t12)]] ?_ rfl rfl rfl rfl ?_
  · conv => whnf
    refine Nm.mk ⟨[.lit (.int .i64 a2_0), .lit (.int .i64 t12)], rfl, ?_⟩
    conv => whnf
    rfl
  have ehj2_0 := Option.some.inj hj2
  subst ehj2_0
  conv => whnf
  exact Returns.pure (r := api.Value.enc ((⟨a2_0, t12⟩ : api.Value))) rfl rfl rfl rfl ⟨rfl, rfl⟩

noncomputable def Arr.logical (is0 : Bool) : Option api.Value :=
  bif is0 then
    some (⟨2, 1⟩ : api.Value)
  else
    some (⟨2, 0⟩ : api.Value)

theorem Arr.logical_ok {is0 : Bool} {r : api.Value} (h0 : Arr.logical is0 = some r) : Gives Tryz.prog 86 [.lit (.bool is0)] (api.Value.enc r) := by
  unfold Arr.logical at h0
  refine ACalls.of_swp Tryz.func86 rfl (by decide) rfl (st0 := ⟨6, [(0, .lit (.bool is0))], []⟩) rfl (bwp_ok (C := []) ?_)
  conv => whnf
  refine Nm.mk ⟨[.lit (.int .i64 0), .lit (.int .i64 0)], rfl, ?_⟩
  rcases is0 with _ | _
  · have h1 := bif_f h0
    clear h0
    conv => whnf
    refine Gate.go ?_
    conv => whnf
    refine Nm.mk ⟨[.lit (.int .i64 2), .lit (.int .i64 0)], rfl, ?_⟩
    conv => whnf
    refine Nm.mk ⟨[.lit (.int .i64 2), .lit (.int .i64 0)], rfl, ?_⟩
    have eh1_0 := Option.some.inj h1
    subst eh1_0
    conv => whnf
    exact Returns.pure (r := api.Value.enc ((⟨2, 0⟩ : api.Value))) rfl rfl rfl rfl ⟨rfl, rfl⟩
  have h1 := bif_t h0
  clear h0
  conv => whnf
  refine Gate.go ?_
  conv => whnf
  refine Nm.mk ⟨[.lit (.int .i64 2), .lit (.int .i64 1)], rfl, ?_⟩
  conv => whnf
  refine Nm.mk ⟨[.lit (.int .i64 2), .lit (.int .i64 1)], rfl, ?_⟩
  have eh1_0 := Option.some.inj h1
  subst eh1_0
  conv => whnf
  exact Returns.pure (r := api.Value.enc ((⟨2, 1⟩ : api.Value))) rfl rfl rfl rfl ⟨rfl, rfl⟩

noncomputable def Arr.integer (n0 : Int) : Option (api.Value × Int) :=
  Option.bind (Arr.fits 1 n0) fun t5 =>
  letk (!t5) fun t6 =>
  bif t6 then
    some ((⟨0, 0⟩ : api.Value), 10)
  else
    some ((⟨1, n0⟩ : api.Value), 0)

theorem Arr.integer_ok {n0 : Int} {r : api.Value × Int} (h0 : Arr.integer n0 = some r) : Gives Tryz.prog 142 [.lit (.int .i64 n0)] (.tup [api.Value.enc r.1, .lit (.int .i64 r.2)]) := by
  unfold Arr.integer at h0
  refine ACalls.of_swp Tryz.func142 rfl (by decide) rfl (st0 := ⟨10, [(0, .lit (.int .i64 n0))], []⟩) rfl (bwp_ok (C := []) ?_)
  conv => whnf
  refine Nm.mk ⟨[.lit (.int .i64 0), .lit (.int .i64 0)], rfl, ?_⟩
  obtain ⟨t5, et5, h1⟩ := bind_elim h0; clear h0
  conv => whnf
  refine Gate.go ?_
  conv => whnf
  refine CallN.by (v := .lit (.bool t5)) (Arr.fits_ok et5) rfl rfl ?_
  obtain ⟨t6, et6, h2⟩ := letk_elim h1; clear h1
  conv => whnf
  refine Nm.mk ⟨t6, et6, ?_⟩
  rcases t6 with _ | _
  · have h3 := bif_f h2
    clear h2
    conv => whnf
    refine Gate.go ?_
    conv => whnf
    refine Nm.mk ⟨[.lit (.int .i64 1), .lit (.int .i64 n0)], rfl, ?_⟩
    conv => whnf
    refine Nm.mk ⟨[.lit (.int .i64 1), .lit (.int .i64 n0)], rfl, ?_⟩
    have eh3_0 := Option.some.inj h3
    subst eh3_0
    conv => whnf
    exact Returns.pure (r := .tup [api.Value.enc ((⟨1, n0⟩ : api.Value)), .lit (.int .i64 0)]) rfl rfl rfl rfl ⟨rfl, rfl⟩
  have h3 := bif_t h2
  clear h2
  conv => whnf
  refine Gate.go ?_
  conv => whnf
  refine Nm.mk ⟨[.lit (.int .i64 0), .lit (.int .i64 0)], rfl, ?_⟩
  conv => whnf
  refine Nm.mk ⟨[.lit (.int .i64 0), .lit (.int .i64 0)], rfl, ?_⟩
  have eh3_0 := Option.some.inj h3
  subst eh3_0
  conv => whnf
  exact Returns.pure (r := .tup [api.Value.enc ((⟨0, 0⟩ : api.Value)), .lit (.int .i64 10)]) rfl rfl rfl rfl ⟨rfl, rfl⟩

noncomputable def Arr.reckon (op0 : ByteArray) (a1 : api.Value) (b2 : api.Value) : Option (api.Value × Int) :=
  letk (if b2.Kind > a1.Kind then b2.Kind else a1.Kind) fun t17 =>
  Option.bind (Arr.to t17 (⟨a1.Kind, a1.N⟩ : api.Value)) fun (t21_0, t21_1) =>
  Option.bind (Arr.to t17 (⟨b2.Kind, b2.N⟩ : api.Value)) fun (t27_0, t27_1) =>
  letk (t17 == (1 : Int)) fun t31 =>
  bif t31 then
    letk (op0.toList == (⟨#[43]⟩ : ByteArray).toList) fun t34 =>
    bif t34 then
      letk (IntKind.i64.wrap (t21_0.N + t27_0.N)) fun t39 =>
      Option.bind (Arr.integer t39) fun (t40_0, t40_1) =>
      some ((⟨t40_0.Kind, t40_0.N⟩ : api.Value), t40_1)
    else
      letk (op0.toList == (⟨#[45]⟩ : ByteArray).toList) fun t44 =>
      bif t44 then
        letk (IntKind.i64.wrap (t21_0.N - t27_0.N)) fun t49 =>
        Option.bind (Arr.integer t49) fun (t50_0, t50_1) =>
        some ((⟨t50_0.Kind, t50_0.N⟩ : api.Value), t50_1)
      else
        letk (op0.toList == (⟨#[42]⟩ : ByteArray).toList) fun t54 =>
        bif t54 then
          letk (IntKind.i64.wrap (t21_0.N * t27_0.N)) fun t59 =>
          Option.bind (Arr.integer t59) fun (t60_0, t60_1) =>
          some ((⟨t60_0.Kind, t60_0.N⟩ : api.Value), t60_1)
        else
          letk (t27_0.N == (0 : Int)) fun t65 =>
          bif t65 then
            some ((⟨0, 0⟩ : api.Value), 90)
          else
            chk (t27_0.N ≠ 0) <|
            letk (IntKind.i64.wrap (t21_0.N.tdiv t27_0.N)) fun t71 =>
            Option.bind (Arr.integer t71) fun (t72_0, t72_1) =>
            some ((⟨t72_0.Kind, t72_0.N⟩ : api.Value), t72_1)
  else
    letk (op0.toList == (⟨#[43]⟩ : ByteArray).toList) fun t78 =>
    bif t78 then
      Option.bind (Arr.bytes t17) fun t82_3 =>
      none
    else
      letk (op0.toList == (⟨#[45]⟩ : ByteArray).toList) fun t78_1 =>
      bif t78_1 then
        Option.bind (Arr.bytes t17) fun t82_2 =>
        none
      else
        letk (op0.toList == (⟨#[42]⟩ : ByteArray).toList) fun t78_2 =>
        bif t78_2 then
          Option.bind (Arr.bytes t17) fun t82_1 =>
          none
        else
          letk (op0.toList == (⟨#[47]⟩ : ByteArray).toList) fun t78_3 =>
          bif t78_3 then
            Option.bind (Arr.bytes t17) fun t82 =>
            none
          else
            none

theorem Arr.reckon_ok {op0 : ByteArray} {a1 : api.Value} {b2 : api.Value} {r : api.Value × Int} (h0 : Arr.reckon op0 a1 b2 = some r) : Gives Tryz.prog 110 [.lit (.string op0), api.Value.enc a1, api.Value.enc b2] (.tup [api.Value.enc r.1, .lit (.int .i64 r.2)]) := by
  unfold Arr.reckon at h0
  refine ACalls.of_swp Tryz.func110 rfl (by decide) rfl (st0 := ⟨94, [(0, .lit (.string op0)), (1, api.Value.enc a1), (2, api.Value.enc b2)], []⟩) rfl (bwp_ok (C := []) ?_)
  conv => whnf
  refine Nm.mk ⟨[.lit (.int .i64 a1.Kind), .lit (.int .i64 a1.N)], rfl, ?_⟩
  conv => whnf
  refine Nm.mk ⟨[.lit (.int .i64 b2.Kind), .lit (.int .i64 b2.N)], rfl, ?_⟩
  conv => whnf
  refine Nm.mk ⟨[.lit (.int .i64 0), .lit (.int .i64 0)], rfl, ?_⟩
  obtain ⟨t17, et17, h1⟩ := letk_elim h0; clear h0
  conv => whnf
  refine Nm.mk ⟨t17, et17, ?_⟩
  obtain ⟨⟨t21_0, t21_1⟩, et21, h2⟩ := bind_elim h1; clear h1
  conv => whnf
  refine Gate.go ?_
  conv => whnf
  refine CallN.by (v := .tup [api.Value.enc t21_0, .lit (.int .i64 t21_1)]) (Arr.to_ok et21) rfl rfl ?_
  conv => whnf
  refine Nm.mk ⟨[.lit (.int .i64 t21_0.Kind), .lit (.int .i64 t21_0.N)], rfl, ?_⟩
  obtain ⟨⟨t27_0, t27_1⟩, et27, h3⟩ := bind_elim h2; clear h2
  conv => whnf
  refine Gate.go ?_
  conv => whnf
  refine CallN.by (v := .tup [api.Value.enc t27_0, .lit (.int .i64 t27_1)]) (Arr.to_ok et27) rfl rfl ?_
  conv => whnf
  refine Nm.mk ⟨[.lit (.int .i64 t27_0.Kind), .lit (.int .i64 t27_0.N)], rfl, ?_⟩
  obtain ⟨t31, et31, h4⟩ := letk_elim h3; clear h3
  conv => whnf
  refine Nm.mk ⟨t31, et31, ?_⟩
  rcases t31 with _ | _
  · have h5 := bif_f h4
    clear h4
    conv => whnf
    refine MapB.of ?_
    conv => whnf
    refine ⟨SRM.start rfl rfl rfl (Nat.le_of_ble_eq_true rfl) ?_⟩
    refine SRM.ins (kind := .string) rfl rfl rfl (by decide) rfl rfl (.inl rfl) (fun _ => rfl) (fun _ => rfl) rfl ?_
    refine SRM.ins (kind := .string) rfl rfl rfl (by decide) rfl rfl (.inl rfl) (fun _ => rfl) (fun _ => rfl) rfl ?_
    refine SRM.ins (kind := .string) rfl rfl rfl (by decide) rfl rfl (.inl rfl) (fun _ => rfl) (fun _ => rfl) rfl ?_
    refine SRM.ins (kind := .string) rfl rfl rfl (by decide) rfl rfl (.inl rfl) (fun _ => rfl) (fun _ => rfl) rfl ?_
    refine SRM.mv (.inl rfl) rfl rfl (Nat.le_of_ble_eq_true rfl) (by decide) ?_
    refine SRM.op rfl (by decide) ?_
    conv => whnf
    refine ⟨rfl, ?_⟩
    obtain ⟨t78, et78, h6⟩ := letk_elim h5; clear h5
    rcases t78 with _ | _
    · have h7 := bif_f h6
      clear h6
      obtain ⟨t78_1, et78_1, h8⟩ := letk_elim h7; clear h7
      rcases t78_1 with _ | _
      · have h9 := bif_f h8
        clear h8
        obtain ⟨t78_2, et78_2, h10⟩ := letk_elim h9; clear h9
        rcases t78_2 with _ | _
        · have h11 := bif_f h10
          clear h10
          obtain ⟨t78_3, et78_3, h12⟩ := letk_elim h11; clear h11
          rcases t78_3 with _ | _
          · have h13 := bif_f h12
            clear h12
            cases h13
          have h13 := bif_t h12
          clear h12
          refine SRM.look (i := 3) (kind := .string) (v := .func (.func 146) #[] #[]) (av := .fn (.func 146) [] []) rfl rfl (by decide) rfl rfl (.inl rfl) rfl (fun _ _ _ => rel_fn0 _) ((findE_str op0 [(⟨#[43]⟩, .func (.func 143) #[] #[]), (⟨#[45]⟩, .func (.func 144) #[] #[]), (⟨#[42]⟩, .func (.func 145) #[] #[]), (⟨#[47]⟩, .func (.func 146) #[] #[])] 0).trans (congrArg some (by simp only [findS, ← et78, ← et78_1, ← et78_2, ← et78_3, cond]))) ?_
          conv => whnf
          refine DrawB.sees (Sees.of (Weak.objs (k := 94) (keep := [0, 1, 2]) (frz := []) (m := 0) (ts := [(4, .ptr 0 0), (5, .ptr 1 0), (6, .ptr 2 0), (8, .lit (.int .i64 t17)), (9, .fn (.func 146) [] [])]) (hs := [.box [.lit (.int .i64 t21_0.Kind), .lit (.int .i64 t21_0.N)], .box [.lit (.int .i64 t27_0.Kind), .lit (.int .i64 t27_0.N)], .box [.lit (.int .i64 0), .lit (.int .i64 0)]]) rfl (by decide) rfl rfl ⟨⟨_, rfl, WO.refl rfl⟩, ⟨⟨_, rfl, WO.refl rfl⟩, ⟨⟨_, rfl, WO.refl rfl⟩, ⟨rfl, fun _ h => by cases h⟩⟩⟩⟩ ⟨(.ptr _ _ 0 rfl), (.ptr _ _ 1 rfl), (.ptr _ _ 2 rfl), .s, .s, trivial⟩)) ?_
          refine DrawB.ofG [none, none, none, none, none, none, none, none, none, none, none, none, none, none, none] Tryz_mixed (by kernel_rfl) (by kernel_rfl) ?_
          conv => whnf
          refine DNodeB.of (.fn (.func 146) [] []) ?_ ?_
          · conv => whnf
            rfl
          conv => whnf
          refine DNodeB.of (.lit (.int .i64 t17)) ?_ ?_
          · conv => whnf
            rfl
          obtain ⟨t82, et82, h14⟩ := bind_elim h13; clear h13
          conv => whnf
          refine DNodeB.of (.lit (.int .i64 t82)) ?_ ?_
          · conv => whnf
            refine CallN.by (v := .lit (.int .i64 t82)) (Arr.bytes_ok et82) rfl rfl ?_
            conv => whnf
            rfl
          conv => whnf
          refine DNodeB.of (.ptr 0 1) ?_ ?_
          · conv => whnf
            rfl
          conv => whnf
          refine DNodeB.of (.lit (.int .i64 t21_0.N)) ?_ ?_
          · conv => whnf
            rfl
          conv => whnf
          refine DNodeB.of (.ptr 1 1) ?_ ?_
          · conv => whnf
            rfl
          conv => whnf
          refine DNodeB.of (.lit (.int .i64 t27_0.N)) ?_ ?_
          · conv => whnf
            rfl
          cases h14
        have h11 := bif_t h10
        clear h10
        refine SRM.look (i := 2) (kind := .string) (v := .func (.func 145) #[] #[]) (av := .fn (.func 145) [] []) rfl rfl (by decide) rfl rfl (.inl rfl) rfl (fun _ _ _ => rel_fn0 _) ((findE_str op0 [(⟨#[43]⟩, .func (.func 143) #[] #[]), (⟨#[45]⟩, .func (.func 144) #[] #[]), (⟨#[42]⟩, .func (.func 145) #[] #[]), (⟨#[47]⟩, .func (.func 146) #[] #[])] 0).trans (congrArg some (by simp only [findS, ← et78, ← et78_1, ← et78_2, cond]))) ?_
        conv => whnf
        refine DrawB.sees (Sees.of (Weak.objs (k := 94) (keep := [0, 1, 2]) (frz := []) (m := 0) (ts := [(4, .ptr 0 0), (5, .ptr 1 0), (6, .ptr 2 0), (8, .lit (.int .i64 t17)), (9, .fn (.func 145) [] [])]) (hs := [.box [.lit (.int .i64 t21_0.Kind), .lit (.int .i64 t21_0.N)], .box [.lit (.int .i64 t27_0.Kind), .lit (.int .i64 t27_0.N)], .box [.lit (.int .i64 0), .lit (.int .i64 0)]]) rfl (by decide) rfl rfl ⟨⟨_, rfl, WO.refl rfl⟩, ⟨⟨_, rfl, WO.refl rfl⟩, ⟨⟨_, rfl, WO.refl rfl⟩, ⟨rfl, fun _ h => by cases h⟩⟩⟩⟩ ⟨(.ptr _ _ 0 rfl), (.ptr _ _ 1 rfl), (.ptr _ _ 2 rfl), .s, .s, trivial⟩)) ?_
        refine DrawB.ofG [none, none, none, none, none, none, none, none, none, none, none, none, none, none, none] Tryz_mixed (by kernel_rfl) (by kernel_rfl) ?_
        conv => whnf
        refine DNodeB.of (.fn (.func 145) [] []) ?_ ?_
        · conv => whnf
          rfl
        conv => whnf
        refine DNodeB.of (.lit (.int .i64 t17)) ?_ ?_
        · conv => whnf
          rfl
        obtain ⟨t82_1, et82_1, h12⟩ := bind_elim h11; clear h11
        conv => whnf
        refine DNodeB.of (.lit (.int .i64 t82_1)) ?_ ?_
        · conv => whnf
          refine CallN.by (v := .lit (.int .i64 t82_1)) (Arr.bytes_ok et82_1) rfl rfl ?_
          conv => whnf
          rfl
        conv => whnf
        refine DNodeB.of (.ptr 0 1) ?_ ?_
        · conv => whnf
          rfl
        conv => whnf
        refine DNodeB.of (.lit (.int .i64 t21_0.N)) ?_ ?_
        · conv => whnf
          rfl
        conv => whnf
        refine DNodeB.of (.ptr 1 1) ?_ ?_
        · conv => whnf
          rfl
        conv => whnf
        refine DNodeB.of (.lit (.int .i64 t27_0.N)) ?_ ?_
        · conv => whnf
          rfl
        cases h12
      have h9 := bif_t h8
      clear h8
      refine SRM.look (i := 1) (kind := .string) (v := .func (.func 144) #[] #[]) (av := .fn (.func 144) [] []) rfl rfl (by decide) rfl rfl (.inl rfl) rfl (fun _ _ _ => rel_fn0 _) ((findE_str op0 [(⟨#[43]⟩, .func (.func 143) #[] #[]), (⟨#[45]⟩, .func (.func 144) #[] #[]), (⟨#[42]⟩, .func (.func 145) #[] #[]), (⟨#[47]⟩, .func (.func 146) #[] #[])] 0).trans (congrArg some (by simp only [findS, ← et78, ← et78_1, cond]))) ?_
      conv => whnf
      refine DrawB.sees (Sees.of (Weak.objs (k := 94) (keep := [0, 1, 2]) (frz := []) (m := 0) (ts := [(4, .ptr 0 0), (5, .ptr 1 0), (6, .ptr 2 0), (8, .lit (.int .i64 t17)), (9, .fn (.func 144) [] [])]) (hs := [.box [.lit (.int .i64 t21_0.Kind), .lit (.int .i64 t21_0.N)], .box [.lit (.int .i64 t27_0.Kind), .lit (.int .i64 t27_0.N)], .box [.lit (.int .i64 0), .lit (.int .i64 0)]]) rfl (by decide) rfl rfl ⟨⟨_, rfl, WO.refl rfl⟩, ⟨⟨_, rfl, WO.refl rfl⟩, ⟨⟨_, rfl, WO.refl rfl⟩, ⟨rfl, fun _ h => by cases h⟩⟩⟩⟩ ⟨(.ptr _ _ 0 rfl), (.ptr _ _ 1 rfl), (.ptr _ _ 2 rfl), .s, .s, trivial⟩)) ?_
      refine DrawB.ofG [none, none, none, none, none, none, none, none, none, none, none, none, none, none, none] Tryz_mixed (by kernel_rfl) (by kernel_rfl) ?_
      conv => whnf
      refine DNodeB.of (.fn (.func 144) [] []) ?_ ?_
      · conv => whnf
        rfl
      conv => whnf
      refine DNodeB.of (.lit (.int .i64 t17)) ?_ ?_
      · conv => whnf
        rfl
      obtain ⟨t82_2, et82_2, h10⟩ := bind_elim h9; clear h9
      conv => whnf
      refine DNodeB.of (.lit (.int .i64 t82_2)) ?_ ?_
      · conv => whnf
        refine CallN.by (v := .lit (.int .i64 t82_2)) (Arr.bytes_ok et82_2) rfl rfl ?_
        conv => whnf
        rfl
      conv => whnf
      refine DNodeB.of (.ptr 0 1) ?_ ?_
      · conv => whnf
        rfl
      conv => whnf
      refine DNodeB.of (.lit (.int .i64 t21_0.N)) ?_ ?_
      · conv => whnf
        rfl
      conv => whnf
      refine DNodeB.of (.ptr 1 1) ?_ ?_
      · conv => whnf
        rfl
      conv => whnf
      refine DNodeB.of (.lit (.int .i64 t27_0.N)) ?_ ?_
      · conv => whnf
        rfl
      cases h10
    have h7 := bif_t h6
    clear h6
    refine SRM.look (i := 0) (kind := .string) (v := .func (.func 143) #[] #[]) (av := .fn (.func 143) [] []) rfl rfl (by decide) rfl rfl (.inl rfl) rfl (fun _ _ _ => rel_fn0 _) ((findE_str op0 [(⟨#[43]⟩, .func (.func 143) #[] #[]), (⟨#[45]⟩, .func (.func 144) #[] #[]), (⟨#[42]⟩, .func (.func 145) #[] #[]), (⟨#[47]⟩, .func (.func 146) #[] #[])] 0).trans (congrArg some (by simp only [findS, ← et78, cond]))) ?_
    conv => whnf
    refine DrawB.sees (Sees.of (Weak.objs (k := 94) (keep := [0, 1, 2]) (frz := []) (m := 0) (ts := [(4, .ptr 0 0), (5, .ptr 1 0), (6, .ptr 2 0), (8, .lit (.int .i64 t17)), (9, .fn (.func 143) [] [])]) (hs := [.box [.lit (.int .i64 t21_0.Kind), .lit (.int .i64 t21_0.N)], .box [.lit (.int .i64 t27_0.Kind), .lit (.int .i64 t27_0.N)], .box [.lit (.int .i64 0), .lit (.int .i64 0)]]) rfl (by decide) rfl rfl ⟨⟨_, rfl, WO.refl rfl⟩, ⟨⟨_, rfl, WO.refl rfl⟩, ⟨⟨_, rfl, WO.refl rfl⟩, ⟨rfl, fun _ h => by cases h⟩⟩⟩⟩ ⟨(.ptr _ _ 0 rfl), (.ptr _ _ 1 rfl), (.ptr _ _ 2 rfl), .s, .s, trivial⟩)) ?_
    refine DrawB.ofG [none, none, none, none, none, none, none, none, none, none, none, none, none, none, none] Tryz_mixed (by kernel_rfl) (by kernel_rfl) ?_
    conv => whnf
    refine DNodeB.of (.fn (.func 143) [] []) ?_ ?_
    · conv => whnf
      rfl
    conv => whnf
    refine DNodeB.of (.lit (.int .i64 t17)) ?_ ?_
    · conv => whnf
      rfl
    obtain ⟨t82_3, et82_3, h8⟩ := bind_elim h7; clear h7
    conv => whnf
    refine DNodeB.of (.lit (.int .i64 t82_3)) ?_ ?_
    · conv => whnf
      refine CallN.by (v := .lit (.int .i64 t82_3)) (Arr.bytes_ok et82_3) rfl rfl ?_
      conv => whnf
      rfl
    conv => whnf
    refine DNodeB.of (.ptr 0 1) ?_ ?_
    · conv => whnf
      rfl
    conv => whnf
    refine DNodeB.of (.lit (.int .i64 t21_0.N)) ?_ ?_
    · conv => whnf
      rfl
    conv => whnf
    refine DNodeB.of (.ptr 1 1) ?_ ?_
    · conv => whnf
      rfl
    conv => whnf
    refine DNodeB.of (.lit (.int .i64 t27_0.N)) ?_ ?_
    · conv => whnf
      rfl
    cases h8
  have h5 := bif_t h4
  clear h4
  obtain ⟨t34, et34, h6⟩ := letk_elim h5; clear h5
  conv => whnf
  refine Nm.mk ⟨t34, et34, ?_⟩
  rcases t34 with _ | _
  · have h7 := bif_f h6
    clear h6
    obtain ⟨t44, et44, h8⟩ := letk_elim h7; clear h7
    conv => whnf
    refine Nm.mk ⟨t44, et44, ?_⟩
    rcases t44 with _ | _
    · have h9 := bif_f h8
      clear h8
      obtain ⟨t54, et54, h10⟩ := letk_elim h9; clear h9
      conv => whnf
      refine Nm.mk ⟨t54, et54, ?_⟩
      rcases t54 with _ | _
      · have h11 := bif_f h10
        clear h10
        obtain ⟨t65, et65, h12⟩ := letk_elim h11; clear h11
        conv => whnf
        refine Nm.mk ⟨t65, et65, ?_⟩
        rcases t65 with _ | _
        · have h13 := bif_f h12
          clear h12
          obtain ⟨ch14, h14⟩ := chk_elim h13; clear h13
          obtain ⟨t71, et71, h15⟩ := letk_elim h14; clear h14
          conv => whnf
          refine Side.mk ch14 ?_
          conv => whnf
          refine Nm.mk ⟨t71, et71, ?_⟩
          obtain ⟨⟨t72_0, t72_1⟩, et72, h16⟩ := bind_elim h15; clear h15
          conv => whnf
          refine Gate.go ?_
          conv => whnf
          refine CallN.by (v := .tup [api.Value.enc t72_0, .lit (.int .i64 t72_1)]) (Arr.integer_ok et72) rfl rfl ?_
          conv => whnf
          refine Nm.mk ⟨[.lit (.int .i64 t72_0.Kind), .lit (.int .i64 t72_0.N)], rfl, ?_⟩
          have eh16_0 := Option.some.inj h16
          subst eh16_0
          conv => whnf
          exact Returns.pure (r := .tup [api.Value.enc ((⟨t72_0.Kind, t72_0.N⟩ : api.Value)), .lit (.int .i64 t72_1)]) rfl rfl rfl rfl ⟨rfl, rfl⟩
        have h13 := bif_t h12
        clear h12
        conv => whnf
        refine Gate.go ?_
        conv => whnf
        refine Nm.mk ⟨[.lit (.int .i64 0), .lit (.int .i64 0)], rfl, ?_⟩
        conv => whnf
        refine Nm.mk ⟨[.lit (.int .i64 0), .lit (.int .i64 0)], rfl, ?_⟩
        have eh13_0 := Option.some.inj h13
        subst eh13_0
        conv => whnf
        exact Returns.pure (r := .tup [api.Value.enc ((⟨0, 0⟩ : api.Value)), .lit (.int .i64 90)]) rfl rfl rfl rfl ⟨rfl, rfl⟩
      have h11 := bif_t h10
      clear h10
      obtain ⟨t59, et59, h12⟩ := letk_elim h11; clear h11
      conv => whnf
      refine Nm.mk ⟨t59, et59, ?_⟩
      obtain ⟨⟨t60_0, t60_1⟩, et60, h13⟩ := bind_elim h12; clear h12
      conv => whnf
      refine Gate.go ?_
      conv => whnf
      refine CallN.by (v := .tup [api.Value.enc t60_0, .lit (.int .i64 t60_1)]) (Arr.integer_ok et60) rfl rfl ?_
      conv => whnf
      refine Nm.mk ⟨[.lit (.int .i64 t60_0.Kind), .lit (.int .i64 t60_0.N)], rfl, ?_⟩
      have eh13_0 := Option.some.inj h13
      subst eh13_0
      conv => whnf
      exact Returns.pure (r := .tup [api.Value.enc ((⟨t60_0.Kind, t60_0.N⟩ : api.Value)), .lit (.int .i64 t60_1)]) rfl rfl rfl rfl ⟨rfl, rfl⟩
    have h9 := bif_t h8
    clear h8
    obtain ⟨t49, et49, h10⟩ := letk_elim h9; clear h9
    conv => whnf
    refine Nm.mk ⟨t49, et49, ?_⟩
    obtain ⟨⟨t50_0, t50_1⟩, et50, h11⟩ := bind_elim h10; clear h10
    conv => whnf
    refine Gate.go ?_
    conv => whnf
    refine CallN.by (v := .tup [api.Value.enc t50_0, .lit (.int .i64 t50_1)]) (Arr.integer_ok et50) rfl rfl ?_
    conv => whnf
    refine Nm.mk ⟨[.lit (.int .i64 t50_0.Kind), .lit (.int .i64 t50_0.N)], rfl, ?_⟩
    have eh11_0 := Option.some.inj h11
    subst eh11_0
    conv => whnf
    exact Returns.pure (r := .tup [api.Value.enc ((⟨t50_0.Kind, t50_0.N⟩ : api.Value)), .lit (.int .i64 t50_1)]) rfl rfl rfl rfl ⟨rfl, rfl⟩
  have h7 := bif_t h6
  clear h6
  obtain ⟨t39, et39, h8⟩ := letk_elim h7; clear h7
  conv => whnf
  refine Nm.mk ⟨t39, et39, ?_⟩
  obtain ⟨⟨t40_0, t40_1⟩, et40, h9⟩ := bind_elim h8; clear h8
  conv => whnf
  refine Gate.go ?_
  conv => whnf
  refine CallN.by (v := .tup [api.Value.enc t40_0, .lit (.int .i64 t40_1)]) (Arr.integer_ok et40) rfl rfl ?_
  conv => whnf
  refine Nm.mk ⟨[.lit (.int .i64 t40_0.Kind), .lit (.int .i64 t40_0.N)], rfl, ?_⟩
  have eh9_0 := Option.some.inj h9
  subst eh9_0
  conv => whnf
  exact Returns.pure (r := .tup [api.Value.enc ((⟨t40_0.Kind, t40_0.N⟩ : api.Value)), .lit (.int .i64 t40_1)]) rfl rfl rfl rfl ⟨rfl, rfl⟩

noncomputable def Arr.compared (a0 : api.Value) (b1 : api.Value) : Option Int :=
  letk (if b1.Kind > a0.Kind then b1.Kind else a0.Kind) fun t12 =>
  Option.bind (Arr.to t12 (⟨a0.Kind, a0.N⟩ : api.Value)) fun (t16_0, t16_1) =>
  Option.bind (Arr.to t12 (⟨b1.Kind, b1.N⟩ : api.Value)) fun (t22_0, t22_1) =>
  letk (t12 == (1 : Int)) fun t26 =>
  bif t26 then
    letk (IntKind.i64.wrap (t16_0.N - t22_0.N)) fun t31 =>
    letk (if ((-1)) > t31 then (-1) else t31) fun t32 =>
    letk (if 1 < t32 then 1 else t32) fun t33 =>
    some t33
  else
    Option.bind (Arr.bytes t12) fun t36 =>
    none

theorem Arr.compared_ok {a0 : api.Value} {b1 : api.Value} {r : Int} (h0 : Arr.compared a0 b1 = some r) : Gives Tryz.prog 112 [api.Value.enc a0, api.Value.enc b1] (.lit (.int .i64 r)) := by
  unfold Arr.compared at h0
  refine ACalls.of_swp Tryz.func112 rfl (by decide) rfl (st0 := ⟨45, [(0, api.Value.enc a0), (1, api.Value.enc b1)], []⟩) rfl (bwp_ok (C := []) ?_)
  conv => whnf
  refine Nm.mk ⟨[.lit (.int .i64 a0.Kind), .lit (.int .i64 a0.N)], rfl, ?_⟩
  conv => whnf
  refine Nm.mk ⟨[.lit (.int .i64 b1.Kind), .lit (.int .i64 b1.N)], rfl, ?_⟩
  obtain ⟨t12, et12, h1⟩ := letk_elim h0; clear h0
  conv => whnf
  refine Nm.mk ⟨t12, et12, ?_⟩
  obtain ⟨⟨t16_0, t16_1⟩, et16, h2⟩ := bind_elim h1; clear h1
  conv => whnf
  refine Gate.go ?_
  conv => whnf
  refine CallN.by (v := .tup [api.Value.enc t16_0, .lit (.int .i64 t16_1)]) (Arr.to_ok et16) rfl rfl ?_
  conv => whnf
  refine Nm.mk ⟨[.lit (.int .i64 t16_0.Kind), .lit (.int .i64 t16_0.N)], rfl, ?_⟩
  obtain ⟨⟨t22_0, t22_1⟩, et22, h3⟩ := bind_elim h2; clear h2
  conv => whnf
  refine Gate.go ?_
  conv => whnf
  refine CallN.by (v := .tup [api.Value.enc t22_0, .lit (.int .i64 t22_1)]) (Arr.to_ok et22) rfl rfl ?_
  conv => whnf
  refine Nm.mk ⟨[.lit (.int .i64 t22_0.Kind), .lit (.int .i64 t22_0.N)], rfl, ?_⟩
  obtain ⟨t26, et26, h4⟩ := letk_elim h3; clear h3
  conv => whnf
  refine Nm.mk ⟨t26, et26, ?_⟩
  rcases t26 with _ | _
  · have h5 := bif_f h4
    clear h4
    conv => whnf
    refine DrawB.sees (Sees.of (Weak.objs (k := 45) (keep := [0, 1]) (frz := []) (m := 0) (ts := [(2, .ptr 0 0), (3, .ptr 1 0), (5, .lit (.int .i64 t12))]) (hs := [.box [.lit (.int .i64 t16_0.Kind), .lit (.int .i64 t16_0.N)], .box [.lit (.int .i64 t22_0.Kind), .lit (.int .i64 t22_0.N)]]) rfl (by decide) rfl rfl ⟨⟨_, rfl, WO.refl rfl⟩, ⟨⟨_, rfl, WO.refl rfl⟩, ⟨rfl, fun _ h => by cases h⟩⟩⟩ ⟨(.ptr _ _ 0 rfl), (.ptr _ _ 1 rfl), .s, trivial⟩)) ?_
    refine DrawB.ofG [none, none, none, none, none, none, none, none, none, none, none, none] Tryz_mixed (by kernel_rfl) (by kernel_rfl) ?_
    conv => whnf
    refine DNodeB.of (.lit (.int .i64 t12)) ?_ ?_
    · conv => whnf
      rfl
    obtain ⟨t36, et36, h6⟩ := bind_elim h5; clear h5
    conv => whnf
    refine DNodeB.of (.lit (.int .i64 t36)) ?_ ?_
    · conv => whnf
      refine CallN.by (v := .lit (.int .i64 t36)) (Arr.bytes_ok et36) rfl rfl ?_
      conv => whnf
      rfl
    conv => whnf
    refine DNodeB.of (.ptr 0 1) ?_ ?_
    · conv => whnf
      rfl
    conv => whnf
    refine DNodeB.of (.lit (.int .i64 t16_0.N)) ?_ ?_
    · conv => whnf
      rfl
    conv => whnf
    refine DNodeB.of (.ptr 1 1) ?_ ?_
    · conv => whnf
      rfl
    conv => whnf
    refine DNodeB.of (.lit (.int .i64 t22_0.N)) ?_ ?_
    · conv => whnf
      rfl
    cases h6
  have h5 := bif_t h4
  clear h4
  obtain ⟨t31, et31, h6⟩ := letk_elim h5; clear h5
  conv => whnf
  refine Nm.mk ⟨t31, et31, ?_⟩
  obtain ⟨t32, et32, h7⟩ := letk_elim h6; clear h6
  conv => whnf
  refine Nm.mk ⟨t32, et32, ?_⟩
  obtain ⟨t33, et33, h8⟩ := letk_elim h7; clear h7
  conv => whnf
  refine Nm.mk ⟨t33, et33, ?_⟩
  have eh8_0 := Option.some.inj h8
  subst eh8_0
  conv => whnf
  exact Returns.pure (r := .lit (.int .i64 t33)) rfl rfl rfl rfl ⟨rfl, rfl⟩

end Go.Q
