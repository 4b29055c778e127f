import Derived.Test.YtoecgpemlfoogaaGreatDoorGN10
import Derived.Test.YtoecgpemlfoogaaGreatDoorFX
import Derived.Test.YtoecgpemlfoogaaGreatDoorProg
namespace Go.Q
open Go Go.Proofs
set_option maxRecDepth 10000
set_option maxHeartbeats 2000000

noncomputable def Law3.FormNews (text0 : ByteArray) : Option Bool :=
  letk ((text0.size : Int)) fun t10 =>
  letk (decide (t10 > (9000 : Int))) fun t11 =>
  bif t11 then
    Option.bind (Law3.Awake) fun t12 =>
    some t12
  else
    Option.bind (Src.New text0) fun (t15_0, t15_1, t15_2) =>
    Option.bind (Ref3.New text0) fun (t21_0, t21_1, t21_2) =>
    letk (t15_1 == t21_1) fun t27 =>
    bif t27 then
      letk (t15_2 == t21_2) fun t31 =>
      bif t31 then
        Option.bind (Ref3.SameLines t15_0 t21_0 true) fun t36 =>
        bif t36 then
          Option.bind (Law3.Awake) fun t39 =>
          some t39
        else
          some false
      else
        some false
    else
      some false

theorem Law3.FormNews_ok {text0 : ByteArray} {r : Bool} (h0 : Law3.FormNews text0 = some r) : Gives Tryz.prog 5 [.lit (.string text0)] (.lit (.bool r)) := by
  unfold Law3.FormNews at h0
  refine ACalls.of_swp Tryz.func5 rfl (by decide) rfl (st0 := ⟨41, [(0, .lit (.string text0))], []⟩) rfl (bwp_ok (C := []) ?_)
  obtain ⟨t10, et10, h1⟩ := letk_elim h0; clear h0
  conv => whnf
  refine Nm.mk ⟨t10, et10, ?_⟩
  obtain ⟨t11, et11, h2⟩ := letk_elim h1; clear h1
  conv => whnf
  refine Nm.mk ⟨t11, et11, ?_⟩
  rcases t11 with _ | _
  · have h3 := bif_f h2
    clear h2
    obtain ⟨⟨t15_0, t15_1, t15_2⟩, et15, h4⟩ := bind_elim h3; clear h3
    conv => whnf
    refine Gate.go ?_
    conv => whnf
    refine CallN.by (v := .tup [.vs 3 (t15_0.map (api.Line.enc)), .lit (.int .i64 t15_1), .lit (.int .i64 t15_2)]) (Src.New_ok et15) rfl rfl ?_
    obtain ⟨⟨t21_0, t21_1, t21_2⟩, et21, h5⟩ := bind_elim h4; clear h4
    conv => whnf
    refine Gate.go ?_
    conv => whnf
    refine CallN.by (v := .tup [.vs 3 (t21_0.map (api.Line.enc)), .lit (.int .i64 t21_1), .lit (.int .i64 t21_2)]) (Ref3.New_ok et21) rfl rfl ?_
    obtain ⟨t27, et27, h6⟩ := letk_elim h5; clear h5
    conv => whnf
    refine Nm.mk ⟨t27, et27, ?_⟩
    rcases t27 with _ | _
    · have h7 := bif_f h6
      clear h6
      have eh7_0 := Option.some.inj h7
      subst eh7_0
      conv => whnf
      exact Returns.pure (r := .lit (.bool false)) rfl rfl rfl rfl ⟨rfl, rfl⟩
    · have h7 := bif_t h6
      clear h6
      obtain ⟨t31, et31, h8⟩ := letk_elim h7; clear h7
      conv => whnf
      refine Nm.mk ⟨t31, et31, ?_⟩
      rcases t31 with _ | _
      · have h9 := bif_f h8
        clear h8
        have eh9_0 := Option.some.inj h9
        subst eh9_0
        conv => whnf
        exact Returns.pure (r := .lit (.bool false)) rfl rfl rfl rfl ⟨rfl, rfl⟩
      · have h9 := bif_t h8
        clear h8
        obtain ⟨t36, et36, h10⟩ := bind_elim h9; clear h9
        conv => whnf
        refine Gate.go ?_
        conv => whnf
        refine CallN.by (v := .lit (.bool t36)) (Ref3.SameLines_ok et36) rfl rfl ?_
        rcases t36 with _ | _
        · have h11 := bif_f h10
          clear h10
          have eh11_0 := Option.some.inj h11
          subst eh11_0
          conv => whnf
          exact Returns.pure (r := .lit (.bool false)) rfl rfl rfl rfl ⟨rfl, rfl⟩
        · have h11 := bif_t h10
          clear h10
          obtain ⟨t39, et39, h12⟩ := bind_elim h11; clear h11
          conv => whnf
          refine Gate.go ?_
          conv => whnf
          refine CallN.by (v := .lit (.bool t39)) (Law3.Awake_ok et39) rfl rfl ?_
          have eh12_0 := Option.some.inj h12
          subst eh12_0
          conv => whnf
          exact Returns.pure (r := .lit (.bool t39)) rfl rfl rfl rfl ⟨rfl, rfl⟩
  · have h3 := bif_t h2
    clear h2
    obtain ⟨t12, et12, h4⟩ := bind_elim h3; clear h3
    conv => whnf
    refine Gate.go ?_
    conv => whnf
    refine CallN.by (v := .lit (.bool t12)) (Law3.Awake_ok et12) rfl rfl ?_
    have eh4_0 := Option.some.inj h4
    subst eh4_0
    conv => whnf
    exact Returns.pure (r := .lit (.bool t12)) rfl rfl rfl rfl ⟨rfl, rfl⟩

end Go.Q
